/- Data in the heap, said by relations: what cells stand for, and on which blocks that hangs; slices that are read, slices that are the function's own, boxes. -/
import Derived.Test.YtlmpjhbfgakgdaaDoorAbRep
import Derived.Laws.Strings
namespace Go.Ab
set_option linter.unusedVariables false
set_option linter.unusedSimpArgs false

/-! ### What stays -/

/-- The heap grows; blocks that were there stay, where A says so. -/
structure Fr (A : Nat → Prop) (H H' : Heap) : Prop where
  size : H.size ≤ H'.size
  same : ∀ x : Nat, x < H.size → A x → H'[x]? = H[x]?

/-- All that was there stays. -/
abbrev G (H H' : Heap) : Prop := Fr (fun _ => True) H H'

theorem Fr.refl (A : Nat → Prop) (H : Heap) : Fr A H H := ⟨Nat.le_refl _, fun _ _ _ => rfl⟩
theorem Fr.trans {A B C : Nat → Prop} {H H1 H2 : Heap} (h1 : Fr A H H1) (h2 : Fr B H1 H2) (hc : ∀ x, x < H.size → C x → A x ∧ B x) : Fr C H H2 :=
  ⟨Nat.le_trans h1.size h2.size, fun x hx hC => (h2.same x (Nat.lt_of_lt_of_le hx h1.size) (hc x hx hC).2).trans (h1.same x hx (hc x hx hC).1)⟩
theorem G.trans {H H1 H2 : Heap} (h1 : G H H1) (h2 : G H1 H2) : G H H2 := Fr.trans h1 h2 fun _ _ _ => ⟨trivial, trivial⟩
/-- Growth, then a change of new blocks alone. -/
theorem G.then {B : Nat → Prop} {H H1 H2 : Heap} (h1 : G H H1) (h2 : Fr B H1 H2) (hc : ∀ x, x < H.size → B x) : G H H2 := Fr.trans h1 h2 fun x hx _ => ⟨trivial, hc x hx⟩
theorem Fr.mono {A B : Nat → Prop} {H H' : Heap} (h : Fr A H H') (hc : ∀ x, x < H.size → B x → A x) : Fr B H H' := ⟨h.size, fun x hx hB => h.same x hx (hc x hx hB)⟩
theorem Fr.g {A : Nat → Prop} {H H' : Heap} (h : Fr A H H') (hc : ∀ x, x < H.size → A x) : G H H' := h.mono fun x hx _ => hc x hx
theorem G.fr {A : Nat → Prop} {H H' : Heap} (h : G H H') : Fr A H H' := h.mono fun _ _ _ => trivial
theorem G.push (H : Heap) (o : Obj) : G H (H.push o) := ⟨by simp, fun x hx _ => by rw [Array.getElem?_push, if_neg (by omega)]⟩
theorem G.toSame {H H' : Heap} (h : G H H') : Same H.size H H' := ⟨h.size, fun b hb => h.same b hb trivial⟩
theorem Same.toG {H H' : Heap} (h : Same H.size H H') : G H H' := ⟨h.size, fun x hx _ => h.same x hx⟩

/-! ### What cells stand for -/

/-- How values of a type stand for data: so many cells; what is told hangs on blocks within A alone. -/
structure Rep (α : Type) where
  n : Nat
  rel : Heap → (Nat → Prop) → List Value → α → Prop
  len : ∀ {H A cs x}, rel H A cs x → cs.length = n
  okc : ∀ {H A cs x}, rel H A cs x → cs.all okc = true
  fr : ∀ {H H' : Heap} {A A' : Nat → Prop} {cs x}, rel H A cs x → (∀ b, A b → b < H.size → A' b ∧ H'[b]? = H[b]?) → rel H' A' cs x

variable {α β : Type}

theorem Rep.up {R : Rep α} {H H' : Heap} {A A' B : Nat → Prop} {cs : List Value} {x : α} (h : R.rel H A cs x) (hf : Fr B H H') (hb : ∀ b, A b → b < H.size → B b ∧ A' b) : R.rel H' A' cs x :=
  R.fr h fun b hA hlt => ⟨(hb b hA hlt).2, hf.same b hlt (hb b hA hlt).1⟩
theorem Rep.mono {R : Rep α} {H : Heap} {A A' : Nat → Prop} {cs : List Value} {x : α} (h : R.rel H A cs x) (hb : ∀ b, A b → b < H.size → A' b) : R.rel H A' cs x :=
  R.fr h fun b hA hlt => ⟨hb b hA hlt, rfl⟩

/-- Data without memory. -/
def Rep.flat (n : Nat) (f : α → List Value) (ok : α → Prop) (hl : ∀ x, (f x).length = n := by intros; rfl) (ho : ∀ x, (f x).all Ab.okc = true := by intros; rfl) : Rep α where
  n := n
  rel := fun _ _ cs x => cs = f x ∧ ok x
  len := fun h => h.1 ▸ hl _
  okc := fun h => h.1 ▸ ho _
  fr := fun h _ => h

def rI (q : IntKind) : Rep Int := .flat 1 (fun x => [.int q x]) (fun x => q.wrap x = x)
def rU8 : Rep UInt8 := .flat 1 (fun b => [.int .u8 (b.toNat : Int)]) (fun _ => True)
def rB : Rep Bool := .flat 1 (fun b => [.bool b]) (fun _ => True)
def rS : Rep ByteArray := .flat 1 (fun s => [.string s]) (fun _ => True)

/-- A slice that may be read. -/
def Sl (R : Rep α) (H : Heap) (A : Nat → Prop) (v : Value) (xs : List α) : Prop :=
  ∃ (a : Option Addr) (sp : Nat) (css : List (List Value)), v = .slice a xs.length (xs.length + sp) ∧ css.length = xs.length ∧
    (∀ (i : Nat) cs x, css[i]? = some cs → xs[i]? = some x → R.rel H A cs x) ∧
    (xs = [] ∨ ∃ b o, a = some ⟨b, o, none⟩ ∧ A b ∧ cellsAt H b o (xs.length * R.n) = some css.flatten)

theorem cellsAt_eq {H H' : Heap} {b o n : Nat} (h : H'[b]? = H[b]?) : cellsAt H' b o n = cellsAt H b o n := by unfold cellsAt; rw [h]

theorem Sl.fr {R : Rep α} {H H' : Heap} {A A' : Nat → Prop} {v : Value} {xs : List α} (h : Sl R H A v xs) (hb : ∀ b, A b → b < H.size → A' b ∧ H'[b]? = H[b]?) : Sl R H' A' v xs := by
  obtain ⟨a, cap, css, h1, h2, h3, h4⟩ := h
  refine ⟨a, cap, css, h1, h2, fun i cs x hc hx => R.fr (h3 i cs x hc hx) hb, h4.imp id fun ⟨b, o, h5, h6, h7⟩ => ?_⟩
  have := hb b h6 (cellsAt_lt h7)
  exact ⟨b, o, h5, this.1, by rw [cellsAt_eq this.2]; exact h7⟩
theorem Sl.up {R : Rep α} {H H' : Heap} {A A' B : Nat → Prop} {v : Value} {xs : List α} (h : Sl R H A v xs) (hf : Fr B H H') (hb : ∀ b, A b → b < H.size → B b ∧ A' b) : Sl R H' A' v xs :=
  h.fr fun b hA hlt => ⟨(hb b hA hlt).2, hf.same b hlt (hb b hA hlt).1⟩
/-- Nothing that was there has changed. -/
theorem Sl.g {R : Rep α} {H H' : Heap} {A : Nat → Prop} {v : Value} {xs : List α} (h : Sl R H A v xs) (hf : G H H') : Sl R H' A v xs := h.up hf fun _ hA _ => ⟨trivial, hA⟩
theorem Sl.mono {R : Rep α} {H : Heap} {A A' : Nat → Prop} {v : Value} {xs : List α} (h : Sl R H A v xs) (hb : ∀ b, A b → b < H.size → A' b) : Sl R H A' v xs :=
  h.fr fun b hA hlt => ⟨hb b hA hlt, rfl⟩
/-- It hangs on what is there. -/
theorem Sl.old {R : Rep α} {H : Heap} {A : Nat → Prop} {v : Value} {xs : List α} (h : Sl R H A v xs) : Sl R H (fun y => y < H.size) v xs := h.mono fun _ _ h => h
theorem Sl.nil (R : Rep α) (H : Heap) (A : Nat → Prop) (a : Option Addr) (c : Nat) : Sl R H A (.slice a 0 c) [] := ⟨a, c, [], by simp, rfl, fun i cs x hc => by simp at hc, .inl rfl⟩

/-- Slices as data. -/
def rSl (R : Rep α) : Rep (List α) where
  n := 1
  rel := fun H A cs xs => ∃ v, cs = [v] ∧ Sl R H A v xs
  len := by rintro _ _ _ _ ⟨v, rfl, _⟩; rfl
  okc := by rintro _ _ _ _ ⟨v, rfl, _, _, _, rfl, _⟩; rfl
  fr := by rintro _ _ _ _ _ _ ⟨v, rfl, h⟩ hb; exact ⟨v, rfl, h.fr hb⟩

theorem rSl_rel {R : Rep α} {H : Heap} {A : Nat → Prop} {v : Value} {xs : List α} : (rSl R).rel H A [v] xs ↔ Sl R H A v xs :=
  ⟨fun ⟨u, h, hs⟩ => by cases h; exact hs, fun h => ⟨v, rfl, h⟩⟩

/-- One thing behind another. -/
def rP (R : Rep α) (S : Rep β) : Rep (α × β) where
  n := R.n + S.n
  rel := fun H A cs p => ∃ c1 c2, cs = c1 ++ c2 ∧ R.rel H A c1 p.1 ∧ S.rel H A c2 p.2
  len := by rintro _ _ _ _ ⟨c1, c2, rfl, h1, h2⟩; simp [R.len h1, S.len h2]
  okc := by rintro _ _ _ _ ⟨c1, c2, rfl, h1, h2⟩; simp only [List.all_append, R.okc h1, S.okc h2]; rfl
  fr := by rintro _ _ _ _ _ _ ⟨c1, c2, rfl, h1, h2⟩ hb; exact ⟨c1, c2, rfl, R.fr h1 hb, S.fr h2 hb⟩

/-- The same under other names. -/
def Rep.by (R : Rep α) (f : β → α) : Rep β where
  n := R.n
  rel := fun H A cs x => R.rel H A cs (f x)
  len := R.len
  okc := R.okc
  fr := R.fr

/-! ### Reading slices -/

section read
variable {R : Rep α} {H H' : Heap} {A : Nat → Prop} {v : Value} {xs : List α}

theorem Sl.okcv (h : Sl R H A v xs) : okc v = true := by obtain ⟨a, cap, css, rfl, _⟩ := h; rfl

theorem Sl.len {k : Value → Prop} (h : Sl R H A v xs) (hk : k (.int .i64 (xs.length : Int))) : lenSl v H' k := by
  obtain ⟨a, cap, css, rfl, _⟩ := h; exact hk
theorem Sl.lenE {k : Value → Prop} (h : Sl R H A v xs) : lenSl v H' k = k (.int .i64 (xs.length : Int)) := by
  obtain ⟨a, cap, css, rfl, _⟩ := h; rfl

theorem flatten_seg {n : Nat} : ∀ {css : List (List Value)} {i : Nat} {cs : List Value}, (∀ cs ∈ css, cs.length = n) → css[i]? = some cs → seg css.flatten (i * n) n = cs
  | c :: css, 0, cs, hn, h => by
    simp only [List.getElem?_cons_zero, Option.some.injEq] at h
    subst h
    simp only [seg, List.flatten_cons, Nat.zero_mul, List.drop_zero]
    rw [← hn c (by simp), List.take_left]
  | c :: css, i + 1, cs, hn, h => by
    simp only [List.getElem?_cons_succ] at h
    have := flatten_seg (i := i) (fun c hc => hn c (by simp [hc])) h
    rw [← this]
    simp only [seg, List.flatten_cons]
    have hl := hn c (by simp)
    rw [show (i + 1) * n = c.length + i * n from by rw [hl, Nat.add_mul]; omega, List.drop_append, List.drop_eq_nil_of_le (by omega), List.nil_append]
    congr 2
    omega

theorem flatten_len {n : Nat} : ∀ {css : List (List Value)}, (∀ cs ∈ css, cs.length = n) → css.flatten.length = css.length * n
  | [], _ => by simp
  | c :: css, h => by
    rw [List.flatten_cons, List.length_append, h c (by simp), flatten_len fun c hc => h c (by simp [hc]), List.length_cons, Nat.add_mul]; omega

theorem seg_seg {l : List Value} {o n p m : Nat} (h : p + m ≤ n) : seg (seg l o n) p m = seg l (o + p) m := by
  simp only [seg, List.drop_take, List.take_take, List.drop_drop]
  congr 1; omega

theorem cellsAt_sub {b o n p m : Nat} {cs : List Value} (h : cellsAt H b o n = some cs) (hp : p + m ≤ n) : cellsAt H b (o + p) m = some (seg cs p m) := by
  unfold cellsAt at *
  split at h
  · split at h
    · cases h
      rw [if_pos (by omega), seg_seg hp]
    · cases h
  · cases h

/-- The place of an element. -/
theorem Sl.ptr {kd : IntKind} {j : Nat} {x : α} {k : Value → Prop} {n : Nat} (h : Sl R H A v xs) (hn : R.n = n) (hx : xs[j]? = some x)
    (hk : ∀ b o cs, A b → cellsAt H b o n = some cs → R.rel H A cs x → k (.pointer (some ⟨b, o, none⟩))) : idxS n v (.int kd (j : Int)) k := by
  obtain ⟨a, cap, css, rfl, h2, h3, h4⟩ := h
  have hj : j < xs.length := (List.getElem?_eq_some_iff.1 hx).1
  rcases h4 with rfl | ⟨b, o, rfl, hb, hc⟩
  · simp at hj
  · subst hn
    refine ⟨⟨by omega, by omega⟩, ?_⟩
    have hcs : css[j]? = some css[j] := List.getElem?_eq_getElem (by omega)
    have hl : ∀ cs ∈ css, cs.length = R.n := by
      intro cs hm
      obtain ⟨i, hi⟩ := List.mem_iff_getElem?.1 hm
      have hi' := (List.getElem?_eq_some_iff.1 hi).1
      exact R.len (h3 i cs xs[i] hi (List.getElem?_eq_getElem (by omega)))
    have hsub := cellsAt_sub (p := j * R.n) (m := R.n) hc (by
      have := Nat.mul_le_mul_right R.n (show j + 1 ≤ xs.length from hj)
      rw [Nat.add_mul] at this; omega)
    rw [flatten_seg hl hcs] at hsub
    simp only [Int.toNat_natCast]
    exact hk b _ _ hb hsub (h3 j _ x hcs hx)

/-- What cells at a place hold. -/
theorem load_at {agg : Bool} {b o n : Nat} {cs : List Value} {k : Value → Prop} (h : cellsAt H b o n = some cs) (hk : k (mkV agg cs)) : loadP agg n (.pointer (some ⟨b, o, none⟩)) H k := by
  unfold loadP; simp only [h]; exact hk
theorem fld_at {b o off : Nat} {k : Value → Prop} (hk : k (.pointer (some ⟨b, o + off, none⟩))) : fldP off (.pointer (some ⟨b, o, none⟩)) k := hk

/-- An element is read. -/
theorem Sl.get {kd : IntKind} {agg : Bool} {j n : Nat} {x : α} {k : Value → Prop} (h : Sl R H A v xs) (hn : R.n = n) (hx : xs[j]? = some x)
    (hk : ∀ cs, R.rel H A cs x → k (mkV agg cs)) : idxS n v (.int kd (j : Int)) fun p => loadP agg n p H k :=
  h.ptr hn hx fun b o cs _ hc hr => load_at hc (hk cs hr)

/-- A field of an element is read. -/
theorem Sl.getF {kd : IntKind} {agg : Bool} {j n m off : Nat} {x : α} {k : Value → Prop} (h : Sl R H A v xs) (hn : R.n = n) (hm : off + m ≤ n) (hx : xs[j]? = some x)
    (hk : ∀ cs, R.rel H A cs x → k (mkV agg (seg cs off m))) : idxS n v (.int kd (j : Int)) fun p => fldP off p fun p => loadP agg m p H k :=
  h.ptr hn hx fun b o cs _ hc hr => fld_at (load_at (cellsAt_sub hc hm) (hk cs hr))

theorem Sl.getI {q kd : IntKind} {j : Nat} {xs : List Int} {x : Int} {k : Value → Prop} (h : Sl (rI q) H A v xs) (hx : xs[j]? = some x) (hk : q.wrap x = x → k (.int q x)) :
    idxS 1 v (.int kd (j : Int)) fun p => loadP false 1 p H k :=
  h.get rfl hx fun cs ⟨hc, hw⟩ => by subst hc; exact hk hw
theorem Sl.getB {kd : IntKind} {j : Nat} {xs : List UInt8} {x : UInt8} {k : Value → Prop} (h : Sl rU8 H A v xs) (hx : xs[j]? = some x) (hk : k (.int .u8 (x.toNat : Int))) :
    idxS 1 v (.int kd (j : Int)) fun p => loadP false 1 p H k :=
  h.get rfl hx fun cs ⟨hc, hw⟩ => by subst hc; exact hk
theorem Sl.getS {R : Rep α} {kd : IntKind} {j : Nat} {xs : List (List α)} {x : List α} {k : Value → Prop} (h : Sl (rSl R) H A v xs) (hx : xs[j]? = some x) (hk : ∀ u, Sl R H A u x → k u) :
    idxS 1 v (.int kd (j : Int)) fun p => loadP false 1 p H k :=
  h.get rfl hx fun cs ⟨u, hc, hs⟩ => by subst hc; exact hk u hs

theorem Sl.range {q : IntKind} {xs : List Int} (h : Sl (rI q) H A v xs) : ∀ x ∈ xs, q.wrap x = x := by
  obtain ⟨a, cap, css, rfl, h2, h3, h4⟩ := h
  intro x hx
  obtain ⟨i, hi⟩ := List.mem_iff_getElem?.1 hx
  have hl := (List.getElem?_eq_some_iff.1 hi).1
  exact (h3 i css[i] x (List.getElem?_eq_getElem (by omega)) hi).2

/-- What an append, a copy takes: elements on blocks within A. -/
def Src (R : Rep α) (H : Heap) (A : Nat → Prop) (v : Value) (xs : List α) : Prop :=
  ∃ css : List (List Value), css.length = xs.length ∧ (∀ (i : Nat) cs x, css[i]? = some cs → xs[i]? = some x → R.rel H A cs x) ∧ ∀ K : Nat → List Value → Prop, K xs.length css.flatten → srcC R.n v H K

theorem Sl.src (h : Sl R H A v xs) : Src R H A v xs := by
  obtain ⟨a, cap, css, rfl, h2, h3, h4⟩ := h
  refine ⟨css, h2, h3, fun K hk => ?_⟩
  rcases h4 with rfl | ⟨b, o, rfl, hb, hc⟩
  · have : css = [] := List.length_eq_zero_iff.1 (by simpa using h2)
    subst this; exact hk
  · cases hxs : xs.length with
    | zero =>
      have : css = [] := List.length_eq_zero_iff.1 (by rw [h2, hxs])
      rw [hxs] at hk; subst this; exact hk
    | succ m =>
      unfold srcC
      rw [hxs] at hc hk
      simp only [hc]
      refine ⟨?_, hk⟩
      rw [List.all_eq_true]
      intro x hx
      obtain ⟨cs, hm, hx⟩ := List.mem_flatten.1 hx
      obtain ⟨i, hi⟩ := List.mem_iff_getElem?.1 hm
      have hi' := (List.getElem?_eq_some_iff.1 hi).1
      exact List.all_eq_true.1 (R.okc (h3 i cs xs[i] hi (List.getElem?_eq_getElem (by omega)))) x hx

theorem Src.f8 {xs : List UInt8} (h : Src rU8 H A v xs) : Src rU8 H (fun _ => False) v xs := h
theorem Src.fI {q : IntKind} {xs : List Int} (h : Src (rI q) H A v xs) : Src (rI q) H (fun _ => False) v xs := h

end read

/-! ### Slices of the function's own

The block has the number b - 1; b is 0 where there is none yet. -/

def Ow (R : Rep α) (H : Heap) (b : Nat) (A : Nat → Prop) (v : Value) (xs : List α) : Prop :=
  ∃ css : List (List Value), css.length = xs.length ∧ (∀ (i : Nat) cs x, css[i]? = some cs → xs[i]? = some x → R.rel H A cs x) ∧
    ((b = 0 ∧ xs = [] ∧ v = .slice none 0 0) ∨ ∃ k cap rest e, b = k + 1 ∧ v = .slice (some ⟨k, 0, none⟩) xs.length cap ∧ xs.length ≤ cap ∧
      H[k]? = some (.cells (css.flatten ++ rest).toArray e (0, 0)) ∧ (css.flatten ++ rest).length = cap * R.n)

section own
variable {R : Rep α} {H H' : Heap} {A A' B : Nat → Prop} {v : Value} {xs : List α} {b : Nat}

theorem Ow.nil (R : Rep α) (H : Heap) (A : Nat → Prop) : Ow R H 0 A (.slice none 0 0) [] := ⟨[], rfl, fun i cs x hc => by simp at hc, .inl ⟨rfl, rfl, rfl⟩⟩

theorem Ow.lt (h : Ow R H b A v xs) : b ≤ H.size := by
  obtain ⟨css, _, _, ⟨rfl, _⟩ | ⟨k, cap, rest, e, rfl, _, _, h, _⟩⟩ := h
  · omega
  · have := (Array.getElem?_eq_some_iff.1 h).1; omega

theorem Ow.okcv (h : Ow R H b A v xs) : okc v = true := by
  obtain ⟨css, _, _, ⟨rfl, _, rfl⟩ | ⟨k, cap, rest, e, rfl, rfl, _⟩⟩ := h <;> rfl

theorem rep_lens {css : List (List Value)} (h2 : css.length = xs.length) (h3 : ∀ (i : Nat) cs x, css[i]? = some cs → xs[i]? = some x → R.rel H A cs x) : ∀ cs ∈ css, cs.length = R.n := by
  intro cs hm
  obtain ⟨i, hi⟩ := List.mem_iff_getElem?.1 hm
  have hi' := (List.getElem?_eq_some_iff.1 hi).1
  exact R.len (h3 i cs xs[i] hi (List.getElem?_eq_getElem (by omega)))

theorem rep_okcs {css : List (List Value)} (h2 : css.length = xs.length) (h3 : ∀ (i : Nat) cs x, css[i]? = some cs → xs[i]? = some x → R.rel H A cs x) : css.flatten.all okc = true := by
  rw [List.all_eq_true]
  intro x hx
  obtain ⟨cs, hm, hx⟩ := List.mem_flatten.1 hx
  obtain ⟨i, hi⟩ := List.mem_iff_getElem?.1 hm
  have hi' := (List.getElem?_eq_some_iff.1 hi).1
  exact List.all_eq_true.1 (R.okc (h3 i cs xs[i] hi (List.getElem?_eq_getElem (by omega)))) x hx

/-- It may be read. -/
theorem Ow.sl (h : Ow R H b A v xs) (hA : ∀ x, A x → x < H.size → A' x) (hb : ∀ k, b = k + 1 → A' k) : Sl R H A' v xs := by
  obtain ⟨css, h2, h3, h4⟩ := h
  have h3' : ∀ (i : Nat) cs x, css[i]? = some cs → xs[i]? = some x → R.rel H A' cs x := fun i cs x hc hx => R.mono (h3 i cs x hc hx) hA
  rcases h4 with ⟨rfl, rfl, rfl⟩ | ⟨k, cap, rest, e, rfl, rfl, hle, hk, hl⟩
  · exact ⟨none, 0, css, rfl, h2, h3', .inl rfl⟩
  · refine ⟨_, cap - xs.length, css, by rw [Nat.add_sub_cancel' hle], h2, h3', .inr ⟨k, 0, rfl, hb k rfl, ?_⟩⟩
    have hfl := flatten_len (rep_lens h2 h3)
    unfold cellsAt
    rw [hk]
    simp only [List.size_toArray, Nat.zero_add]
    rw [if_pos (by rw [List.length_append, hfl, h2]; omega)]
    simp only [seg, List.drop_zero]
    rw [← h2, ← hfl, List.take_left]

theorem Ow.fr (h : Ow R H b A v xs) (hb : ∀ x, A x → x < H.size → A' x ∧ H'[x]? = H[x]?) (hk : ∀ k, b = k + 1 → H'[k]? = H[k]?) : Ow R H' b A' v xs := by
  obtain ⟨css, h2, h3, h4⟩ := h
  refine ⟨css, h2, fun i cs x hc hx => R.fr (h3 i cs x hc hx) hb, h4.imp id ?_⟩
  rintro ⟨k, cap, rest, e, rfl, h5, h6, h7, h8⟩
  exact ⟨k, cap, rest, e, rfl, h5, h6, by rw [hk k rfl]; exact h7, h8⟩
theorem Ow.up (h : Ow R H b A v xs) (hf : Fr B H H') (hb : ∀ x, (A x ∨ x + 1 = b) → x < H.size → B x) : Ow R H' b A v xs := by
  have hlt := h.lt
  exact h.fr (fun x hA hx => ⟨hA, hf.same x hx (hb x (.inl hA) hx)⟩) (fun k hk => hf.same k (by omega) (hb k (.inr hk.symm) (by omega)))
/-- Of elements without memory. -/
theorem Ow.upF (h : Ow R H b (fun _ => False) v xs) (hf : Fr B H H') (hb : ∀ k, b = k + 1 → B k) : Ow R H' b (fun _ => False) v xs :=
  h.up hf fun x hx _ => hx.elim False.elim fun e => hb x e.symm
theorem Ow.slF (h : Ow R H b (fun _ => False) v xs) (hb : ∀ k, b = k + 1 → A' k) : Sl R H A' v xs := h.sl (fun x hx _ => hx.elim) hb
theorem Ow.g (h : Ow R H b A v xs) (hf : G H H') : Ow R H' b A v xs := h.up hf fun _ _ _ => trivial
theorem Ow.mono (h : Ow R H b A v xs) (hb : ∀ x, A x → x < H.size → A' x) : Ow R H b A' v xs := h.fr (fun x hA hx => ⟨hb x hA hx, rfl⟩) fun _ _ => rfl

theorem Ow.len {k : Value → Prop} (h : Ow R H b A v xs) (hk : k (.int .i64 (xs.length : Int))) : lenSl v H' k :=
  (h.sl (A' := fun _ => True) (fun _ _ _ => trivial) fun _ _ => trivial).len hk

theorem own_src {H : Heap} {k len cap n : Nat} {cs rest : List Value} {e : TypeId} {K : Nat → List Value → Prop} (hl : cs.length = len * n) (h : H[k]? = some (.cells (cs ++ rest).toArray e (0, 0))) (ho : cs.all okc = true)
    (hK : K len cs) : srcC n (.slice (some ⟨k, 0, none⟩) len cap) H K := by
  cases len with
  | zero =>
    have : cs = [] := List.length_eq_zero_iff.1 (by simpa using hl)
    subst this; exact hK
  | succ m =>
    have : cellsAt H k 0 ((m + 1) * n) = some cs := by
      unfold cellsAt
      rw [h]
      simp only [List.size_toArray, Nat.zero_add, List.length_append]
      rw [if_pos (by omega)]
      simp only [seg, List.drop_zero]
      rw [← hl, List.take_left]
    unfold srcC
    simp only [this]
    exact ⟨ho, hK⟩

theorem Ow.src (h : Ow R H b A v xs) : Src R H A v xs := by
  obtain ⟨css, h2, h3, h4⟩ := h
  refine ⟨css, h2, h3, fun K hK => ?_⟩
  rcases h4 with ⟨rfl, rfl, rfl⟩ | ⟨k, cap, rest, e, rfl, rfl, hle, hk, hl⟩
  · have e1 : css = [] := List.length_eq_zero_iff.1 (by simpa using h2)
    subst e1; exact hK
  · exact own_src (by rw [flatten_len (rep_lens h2 h3), h2]) hk (rep_okcs h2 h3) hK

/-- An append: all but the own block stays; the block is the same, or a new one. -/
theorem Ow.app {n e bytes : Nat} {z : List Value} {s x : Value} {xs ys : List α} {A' : Nat → Prop} {k : Value → Heap → Prop} (h : Ow R H b A s xs) (hx : Src R H A' x ys) (hn : R.n = n) (hn0 : 0 < n) (hz : z.length = n)
    (hd : ∀ y, (A y ∨ A' y) → y < H.size → y + 1 ≠ b)
    (hbig : (xs.length + ys.length) * bytes ≤ 140737488355328) (hbig2 : xs.length + ys.length ≤ 9223372036854775807)
    (hk : ∀ v H' b', Ow R H' b' (fun y => (A y ∨ A' y) ∧ y < H.size) v (xs ++ ys) → Fr (fun y => y + 1 ≠ b) H H' → (b' = b ∨ b' = H.size + 1) → (b' = H.size + 1 → G H H') → k v H') : appS e n bytes z s x H k := by
  subst hn
  obtain ⟨css, h2, h3, h4⟩ := h
  have hfl := flatten_len (rep_lens h2 h3)
  obtain ⟨cys, hcl, hcr, hx⟩ := hx
  have elems : ∀ {H' : Heap} (cys : List (List Value)), cys.length = ys.length → (∀ (i : Nat) cs y, cys[i]? = some cs → ys[i]? = some y → R.rel H A' cs y) → (∀ y, y < H.size → y + 1 ≠ b → H'[y]? = H[y]?) →
      ∀ (i : Nat) cs y, (css ++ cys)[i]? = some cs → (xs ++ ys)[i]? = some y → R.rel H' (fun y => (A y ∨ A' y) ∧ y < H.size) cs y := by
    intro H' cys hl hc hf i cs y h1 h2'
    rcases Nat.lt_or_ge i css.length with hi | hi
    · rw [List.getElem?_append_left hi] at h1
      rw [List.getElem?_append_left (by omega)] at h2'
      exact R.fr (h3 i cs y h1 h2') fun x hA hlt => ⟨⟨.inl hA, hlt⟩, hf x hlt (hd x (.inl hA) hlt)⟩
    · rw [List.getElem?_append_right hi] at h1
      rw [List.getElem?_append_right (by omega), ← h2] at h2'
      exact R.fr (hc _ cs y h1 h2') fun x hA hlt => ⟨⟨.inr hA, hlt⟩, hf x hlt (hd x (.inr hA) hlt)⟩
  have hsl : ∃ a cap, s = .slice a xs.length cap := by
    rcases h4 with ⟨rfl, rfl, rfl⟩ | ⟨k, cap, rest, e, rfl, rfl, _⟩
    · exact ⟨_, _, rfl⟩
    · exact ⟨_, _, rfl⟩
  obtain ⟨a, cap, rfl⟩ := hsl
  unfold appS
  simp only
  refine hx _ ?_
  have hcfl := flatten_len (rep_lens hcl hcr)
  split
  · rename_i hc
    split
    · rename_i heq
      -- nothing to append
      have hy0 : ys = [] := by
        have : cys.length * R.n = 0 := by rw [← hcfl, heq]; rfl
        rcases Nat.mul_eq_zero.1 this with h | h
        · exact List.length_eq_zero_iff.1 (by omega)
        · omega
      subst hy0
      refine hk _ _ b ?_ (.refl _ _) (.inl rfl) (fun _ => .refl _ _)
      have e1 := elems (H' := H) cys hcl hcr fun _ _ _ => rfl
      have : cys = [] := List.length_eq_zero_iff.1 (by simpa using hcl)
      subst this
      simp only [List.append_nil] at e1
      refine ⟨css, by simpa using h2, by simpa using e1, ?_⟩
      simp only [List.append_nil]
      rcases h4 with ⟨rfl, rfl, h4⟩ | h4
      · exact .inl ⟨rfl, rfl, by simpa using h4⟩
      · obtain ⟨k, cap', rest, e', h5, h6, h7⟩ := h4
        cases h6
        exact .inr ⟨k, cap, rest, e', h5, by simp, h7⟩
    · rename_i x0 xs' heq
      rcases h4 with ⟨rfl, rfl, h4⟩ | ⟨k', cap', rest, e', rfl, h6, h7, h8, h9⟩
      · exfalso
        cases h4
        have : cys.length * R.n = 0 := by
          have : ys.length = 0 := by simpa using hc
          rw [hcl, this]; omega
        rw [← hcfl, heq] at this; simp at this
      · cases h6
        simp only
        have hlx : (x0 :: xs').length = ys.length * R.n := by rw [← heq, hcfl, hcl]
        have hfit : (xs.length + ys.length) * R.n ≤ cap * R.n := Nat.mul_le_mul_right _ hc
        rw [Nat.add_mul] at hfit
        rw [List.length_append, hfl, h2] at h9
        refine ⟨?_, hk _ _ (k' + 1) ?_ ?_ (.inl rfl) ?_⟩
        · unfold mayWrite
          rw [h8]
          refine ⟨rfl, ?_⟩
          simp only [List.size_toArray, List.length_append, hfl, h2]
          omega
        · refine ⟨css ++ cys, by simp [h2, hcl], elems cys hcl hcr fun y hy hne => ?_, .inr ⟨k', cap, rest.drop (x0 :: xs').length, e', rfl, by simp, by simpa using hc, ?_, ?_⟩⟩
          · unfold setCells
            rw [Array.getElem?_modify, if_neg (by omega)]
          · unfold setCells
            rw [Array.getElem?_modify, if_pos rfl, h8]
            simp only [Option.map_some, Option.some.injEq, Obj.cells.injEq, and_true]
            unfold setSeg
            rw [List.flatten_append, heq, show 0 + xs.length * R.n = css.flatten.length from by rw [hfl, h2]; omega, List.take_left, List.append_assoc, List.append_assoc]
            congr 1
            rw [List.append_cancel_left_eq, List.append_cancel_left_eq, List.drop_append]
            simp [List.drop_eq_nil_of_le]
          · simp only [List.length_append, List.length_drop, List.flatten_append, hfl, hcfl, h2, hcl, hlx] at h9 ⊢
            omega
        · refine ⟨by simp [setCells], fun y _ hy => ?_⟩
          unfold setCells
          rw [Array.getElem?_modify, if_neg (by omega)]
        · intro he
          have := (Array.getElem?_eq_some_iff.1 h8).1
          omega
  · refine ⟨⟨hbig, hbig2, hz⟩, ?_⟩
    have hcss : ∀ {K : Nat → List Value → Prop}, K xs.length css.flatten → srcC R.n (.slice a xs.length cap) H K := by
      intro K hK
      rcases h4 with ⟨rfl, rfl, h4⟩ | ⟨k', cap', rest, e', rfl, h6, h7, h8, h9⟩
      · have e1 : css = [] := List.length_eq_zero_iff.1 (by simpa using h2)
        subst e1; exact hK
      · cases h6
        exact own_src (by rw [hfl, h2]) h8 (rep_okcs h2 h3) hK
    refine hcss ?_
    intro nc hnc hnc2
    unfold newC
    refine hk _ _ (H.size + 1) ?_ (G.push _ _).fr (.inr rfl) (fun _ => G.push _ _)
    refine ⟨css ++ cys, by simp [h2, hcl], elems cys hcl hcr fun y hy _ => (G.push H _).same y hy trivial, .inr ⟨H.size, nc, zcells z ((nc - (xs.length + ys.length)) * R.n), e, rfl, by simp, by simpa using hnc, ?_, ?_⟩⟩
    · simp [List.flatten_append]
    · simp only [List.length_append, List.flatten_append, zcells, List.length_map, List.length_range, hfl, hcfl, h2, hcl]
      rw [← Nat.add_mul, ← Nat.add_mul]
      congr 1
      omega

/-- Slices that are written out: empty, of one. -/
theorem bld_nil {e n : Nat} {agg : Bool} {z : List Value} {k : Value → Heap → Prop} (R : Rep α) (hk : ∀ v H', Ow R H' (H.size + 1) (fun _ => False) v [] → G H H' → H'.size = H.size + 1 → k v H') : bldS e n agg z 0 [] H k := by
  unfold bldS fillV newC
  refine hk _ _ ⟨[], rfl, fun i cs x hc => by simp at hc, .inr ⟨H.size, 0, [], e, rfl, rfl, Nat.le_refl _, ?_, by simp⟩⟩ (G.push _ _) (by simp)
  simp [zcells]

/-- A value's cells. -/
def VRep (R : Rep α) (H : Heap) (A : Nat → Prop) (agg : Bool) (v : Value) (x : α) : Prop := ∃ cs, v = mkV agg cs ∧ R.rel H A cs x

theorem VRep.up {agg : Bool} {v : Value} {x : α} (h : VRep R H A agg v x) (hf : Fr B H H') (hb : ∀ b, A b → b < H.size → B b ∧ A' b) : VRep R H' A' agg v x := by
  obtain ⟨cs, h1, h2⟩ := h; exact ⟨cs, h1, R.up h2 hf hb⟩
theorem VRep.g {agg : Bool} {v : Value} {x : α} (h : VRep R H A agg v x) (hf : G H H') : VRep R H' A agg v x := h.up hf fun _ h _ => ⟨trivial, h⟩
theorem VRep.mono {agg : Bool} {v : Value} {x : α} (h : VRep R H A agg v x) (hb : ∀ b, A b → b < H.size → A' b) : VRep R H A' agg v x := by
  obtain ⟨cs, h1, h2⟩ := h; exact ⟨cs, h1, R.mono h2 hb⟩

theorem VRep.cellsV {agg : Bool} {n : Nat} {v : Value} {x : α} {k : List Value → Prop} (h : VRep R H A agg v x) (hn : R.n = n) (ha : agg = false → n = 1) (hk : ∀ cs, R.rel H A cs x → k cs) : Ab.cellsV agg n v k := by
  obtain ⟨cs, rfl, hr⟩ := h
  have hl := R.len hr
  have ho := R.okc hr
  cases agg with
  | true =>
    simp only [Ab.cellsV, mkV, List.size_toArray, hl, hn]
    rw [show (n == n && cs.all okc) = true from by simp only [beq_self_eq_true, ho]; rfl]
    exact hk cs hr
  | false =>
    have h1 := ha rfl
    rw [hn, h1] at hl
    match cs, hl with
    | [c], _ =>
      simp only [Ab.cellsV, mkV, List.headD_cons]
      simp only [List.all_cons, List.all_nil, Bool.and_true] at ho
      rw [ho]
      exact hk [c] hr

theorem bld_one {e n : Nat} {agg : Bool} {z : List Value} {v : Value} {x : α} {k : Value → Heap → Prop} (h : VRep R H A agg v x) (hn : R.n = n) (ha : agg = false → n = 1) (hz : z.length = n)
    (hk : ∀ u H', Ow R H' (H.size + 1) (fun y => A y ∧ y < H.size) u [x] → G H H' → H'.size = H.size + 1 → k u H') : bldS e n agg z 1 [(0, v)] H k := by
  unfold bldS fillV fillV newC
  refine h.cellsV hn ha fun cs hr => ?_
  have hl := R.len hr
  rw [hn] at hl
  have hzc : (zcells z (1 * n)).length = n := by simp [zcells]
  rw [show decide (0 * n + n ≤ (zcells z (1 * n)).length) = true from by rw [hzc]; simp]
  have hss : setSeg (zcells z (1 * n)) (0 * n) cs = cs := by
    simp only [setSeg, Nat.zero_mul, List.take_zero, List.nil_append]
    rw [List.drop_eq_nil_of_le (by rw [hzc, hl]; omega), List.append_nil]
  simp only [ifB_true, hss]
  refine hk _ _ ⟨[cs], rfl, fun i c y hc hy => ?_, .inr ⟨H.size, 1, [], e, rfl, rfl, Nat.le_refl _, by simp, by simp [hl, hn]⟩⟩ (G.push _ _) (by simp)
  cases i with
  | zero => simp at hc hy; subst hc; subst hy; exact R.fr hr fun b hA hlt => ⟨⟨hA, hlt⟩, (G.push H _).same b hlt trivial⟩
  | succ i => simp at hc

/-- One more: a slice of one is written out, and appended. -/
theorem Ow.push {n e e' bytes : Nat} {agg : Bool} {z z' : List Value} {s v : Value} {x : α} {k : Value → Heap → Prop} (h : Ow R H b A s xs) (hv : VRep R H A' agg v x) (hn : R.n = n) (hn0 : 0 < n) (ha : agg = false → n = 1)
    (hz : z.length = n) (hz' : z'.length = n) (hd : ∀ y, (A y ∨ A' y) → y < H.size → y + 1 ≠ b)
    (hbig : (xs.length + 1) * bytes ≤ 140737488355328) (hbig2 : xs.length + 1 ≤ 9223372036854775807)
    (hk : ∀ u H' b', Ow R H' b' (fun y => (A y ∨ A' y) ∧ y < H.size) u (xs ++ [x]) → Fr (fun y => y + 1 ≠ b) H H' → (b' = b ∨ H.size < b') → (b ≤ H.size → b' ≠ b → G H H') → k u H') :
    bldS e n agg z 1 [(0, v)] H fun t H => appS e' n bytes z' s t H k := by
  refine bld_one hv hn ha hz fun t H1 ht g1 hs1 => ?_
  have hb := h.lt
  refine ((h.mono (A' := fun y => A y ∧ y < H.size) fun x hA hlt => ⟨hA, hlt⟩).g g1).app ht.src hn hn0 hz' (fun y hy hlt => ?_) hbig hbig2 fun u H' b' ho hf hb' hg => ?_
  · rcases hy with hy | hy
    · exact hd y (.inl hy.1) hy.2
    · exact hd y (.inr hy.1) hy.2
  · refine hk u H' b' (ho.mono fun y hy _ => ?_) (Fr.trans g1 hf fun y hy hn => ⟨trivial, hn⟩) (hb'.imp id fun h => by omega) fun hbs hne => ?_
    · rcases hy.1 with h | h
      · exact ⟨.inl h.1, h.2⟩
      · exact ⟨.inr h.1, h.2⟩
    · rcases hb' with h | h
      · exact absurd h hne
      · exact g1.trans (hg h)

theorem set_get {css : List (List Value)} {xs : List α} {j : Nat} {cs : List Value} {x : α} {P : List Value → α → Prop} (hl : css.length = xs.length) (h : ∀ (i : Nat) cs x, css[i]? = some cs → xs[i]? = some x → P cs x) (hp : P cs x) :
    ∀ (i : Nat) c y, (css.set j cs)[i]? = some c → (xs.set j x)[i]? = some y → P c y := by
  intro i c y h1 h2
  rw [List.getElem?_set] at h1 h2
  by_cases hji : j = i
  · subst hji
    simp only [if_true, hl] at h1 h2
    split at h1
    · rename_i hlt; rw [if_pos hlt] at h2; cases h1; cases h2; exact hp
    · cases h1
  · simp only [if_neg hji] at h1 h2; exact h i c y h1 h2

theorem flatten_set {n : Nat} {cs : List Value} : ∀ {css : List (List Value)} {j : Nat}, (∀ c ∈ css, c.length = n) → j < css.length → cs.length = n → (css.set j cs).flatten = setSeg css.flatten (j * n) cs
  | c :: css, 0, hn, hj, hc => by
    simp only [List.set_cons_zero, List.flatten_cons, setSeg, Nat.zero_mul, List.take_zero, List.nil_append, Nat.zero_add]
    have := hn c (by simp)
    rw [show cs.length = c.length from by omega, List.drop_left]
  | c :: css, j + 1, hn, hj, hc => by
    have hl := hn c (by simp)
    have ih := flatten_set (css := css) (j := j) (fun c hc => hn c (by simp [hc])) (by simpa using hj) hc
    simp only [List.set_cons_succ, List.flatten_cons]
    rw [ih]
    simp only [setSeg]
    rw [show (j + 1) * n = c.length + j * n from by rw [hl, Nat.add_mul]; omega, List.take_length_add_append, Nat.add_assoc, List.drop_length_add_append]
    simp [List.append_assoc]

/-- An element is written. -/
theorem Ow.put {n : Nat} {agg : Bool} {kd : IntKind} {j : Nat} {u : Value} {x : α} {k : Heap → Prop} (h : Ow R H b A v xs) (hv : VRep R H A agg u x) (hn : R.n = n) (ha : agg = false → n = 1) (hj : j < xs.length)
    (hd : ∀ y, A y → y < H.size → y + 1 ≠ b)
    (hk : ∀ H', Ow R H' b A v (xs.set j x) → Fr (fun y => y + 1 ≠ b) H H' → H'.size = H.size → k H') : idxS n v (.int kd (j : Int)) fun p => storeP agg n p u H k := by
  subst hn
  obtain ⟨css, h2, h3, h4⟩ := h
  have hls := rep_lens h2 h3
  have hfl := flatten_len hls
  rcases h4 with ⟨rfl, rfl, rfl⟩ | ⟨q, cap, rest, e, rfl, rfl, hle, hq, hl⟩
  · simp at hj
  · refine ⟨⟨by omega, by omega⟩, ?_⟩
    unfold storeP
    refine hv.cellsV rfl ha fun cs hr => ?_
    have hcl := R.len hr
    have hfit : j * R.n + R.n ≤ xs.length * R.n := by
      have := Nat.mul_le_mul_right R.n (show j + 1 ≤ xs.length from hj)
      rw [Nat.add_mul] at this; omega
    have hsame : ∀ y, y < H.size → y + 1 ≠ q + 1 → (setCells H q (j * R.n) cs)[y]? = H[y]? := fun y hy hne => by
      unfold setCells
      rw [Array.getElem?_modify, if_neg (by omega)]
    simp only [Int.toNat_natCast, Nat.zero_add]
    refine ⟨?_, hk _ ⟨css.set j cs, by simpa using h2, ?_, .inr ⟨q, cap, rest, e, rfl, by simp, by simpa using hle, ?_, ?_⟩⟩ ⟨by simp [setCells], hsame⟩ (by simp [setCells])⟩
    · unfold mayWrite
      rw [hq]
      refine ⟨rfl, ?_⟩
      simp only [List.size_toArray, List.length_append]
      rw [hfl, h2]; omega
    · exact set_get (P := fun c y => R.rel (setCells H q (j * R.n) cs) A c y) h2 (fun i c y hc hy => R.fr (h3 i c y hc hy) fun b hA hlt => ⟨hA, hsame b hlt (hd b hA hlt)⟩) (R.fr hr fun b hA hlt => ⟨hA, hsame b hlt (hd b hA hlt)⟩)
    · unfold setCells
      rw [Array.getElem?_modify, if_pos rfl, hq]
      simp only [Option.map_some, Option.some.injEq, Obj.cells.injEq, and_true]
      congr 1
      rw [flatten_set hls (by omega) hcl]
      simp only [setSeg]
      rw [List.take_append_of_le_length (by rw [hfl, h2]; omega), List.drop_append_of_le_length (by rw [hfl, h2, hcl]; omega)]
      simp [List.append_assoc]
    · rw [flatten_set hls (by omega) hcl]
      have : (setSeg css.flatten (j * R.n) cs).length = css.flatten.length := by
        simp only [setSeg, List.length_append, List.length_take, List.length_drop, hfl, h2, hcl]
        omega
      rw [List.length_append, this, ← List.length_append]; exact hl

/-- A slice that is made. -/
theorem mk_zero {e n bytes : Nat} {z : List Value} {x : α} {m : Nat} {kd kd' : IntKind} {k : Value → Heap → Prop} (hz : R.rel H A z x) (hn : R.n = n) (hn0 : 0 < n)
    (hb : (bytes : Int) * m ≤ 281474976710656) (hb2 : (m : Int) ≤ 9223372036854775807)
    (hk : ∀ v H', Ow R H' (H.size + 1) (fun y => A y ∧ y < H.size) v (List.replicate m x) → G H H' → H'.size = H.size + 1 → k v H') : mkS e n bytes z (.int kd (m : Int)) (.int kd' (m : Int)) H k := by
  subst hn
  have hl := R.len hz
  unfold mkS
  refine ⟨⟨by omega, Int.le_refl _, hb, hb2⟩, ?_⟩
  unfold newC
  have hzc : zcells z ((m : Int).toNat * R.n) = (List.replicate m z).flatten := by
    simp only [Int.toNat_natCast]
    apply List.ext_getElem?
    intro i
    have hfl := flatten_len (css := List.replicate m z) (n := R.n) (fun c hc => by rw [List.mem_replicate] at hc; rw [hc.2]; exact hl)
    rw [List.length_replicate] at hfl
    by_cases hi : i < m * R.n
    · simp only [zcells, List.getElem?_map]
      rw [List.getElem?_range hi]
      have hseg := flatten_seg (css := List.replicate m z) (n := R.n) (i := i / R.n) (cs := z) (fun c hc => by rw [List.mem_replicate] at hc; rw [hc.2]; exact hl)
        (by rw [List.getElem?_replicate, if_pos ((Nat.div_lt_iff_lt_mul hn0).2 hi)])
      have h1 := seg_get (cs := (List.replicate m z).flatten) (o := i / R.n * R.n) (n := R.n) (j := i % R.n) (Nat.mod_lt _ hn0)
      rw [hseg, show i / R.n * R.n + i % R.n = i from by rw [Nat.mul_comm]; exact Nat.div_add_mod i R.n] at h1
      rw [← h1, hl, Option.map_some, List.getD_eq_getElem?_getD]
      have : i % R.n < z.length := by rw [hl]; exact Nat.mod_lt _ hn0
      simp [List.getElem?_eq_getElem this]
    · rw [List.getElem?_eq_none (by simp [zcells]; omega), List.getElem?_eq_none (by omega)]
  have hrl : (List.replicate m x).length = m := List.length_replicate
  refine hk _ _ ⟨List.replicate m z, by simp, fun i c y hc hy => ?_, .inr ⟨H.size, m, [], e, rfl, by simp [hrl], by simp, ?_, ?_⟩⟩ (G.push _ _) (by simp)
  · rw [List.getElem?_replicate] at hc hy
    split at hc
    · rename_i hlt; rw [if_pos hlt] at hy; cases hc; cases hy
      exact R.fr hz fun b hA hlt => ⟨⟨hA, hlt⟩, (G.push H _).same b hlt trivial⟩
    · cases hc
  · rw [hzc]; simp
  · rw [List.append_nil, flatten_len (n := R.n) (fun c hc => by rw [List.mem_replicate] at hc; rw [hc.2]; exact hl), List.length_replicate]

end own

/-! ### A piece of one -/

/-- A piece of one element, by three indexes: its element's place is the old one. -/
theorem sl3_of {q o len cap n : Nat} {kd1 kd2 kd3 : IntKind} {lo : Int} {k : Value → Prop} (h0 : 0 ≤ lo) (h1 : lo < len) (hc : len ≤ cap)
    (hk : ∀ u, (∀ (kd kd' : IntKind) (K : Value → Prop), idxS n (.slice (some ⟨q, o, none⟩) len cap) (.int kd lo) K → idxS n u (.int kd' 0) K) → k u) :
    slS n (.slice (some ⟨q, o, none⟩) len cap) (some (.int kd1 lo)) (some (.int kd2 (lo + 1))) (some (.int kd3 (lo + 1))) k := by
  unfold slS optI asI
  simp only
  refine ⟨⟨by omega, by omega, by omega, by omega, fun x hx => by cases hx; rfl⟩, hk _ fun kd kd' K h => ?_⟩
  unfold slAdd
  rw [if_neg (by omega)]
  simp only [Option.map_some]
  refine ⟨⟨by omega, by omega⟩, ?_⟩
  have := h.2
  simpa using this

theorem Sl.one {R : Rep α} {H : Heap} {A : Nat → Prop} {v : Value} {xs : List α} {n : Nat} {kd1 kd2 kd3 : IntKind} {lo : Int} {k : Value → Prop} (h : Sl R H A v xs) (h0 : 0 ≤ lo) (h1 : lo < xs.length)
    (hk : ∀ u, (∀ (kd kd' : IntKind) (K : Value → Prop), idxS n v (.int kd lo) K → idxS n u (.int kd' 0) K) → k u) :
    slS n v (some (.int kd1 lo)) (some (.int kd2 (lo + 1))) (some (.int kd3 (lo + 1))) k := by
  obtain ⟨a, sp, css, rfl, h2, h3, h4⟩ := h
  rcases h4 with rfl | ⟨b, o, rfl, _⟩
  · simp at h1; omega
  · exact sl3_of h0 h1 (by omega) hk

/-! ### Boxes -/

/-- A block's cells. -/
def Bx (H : Heap) (b : Nat) (cs : List Value) : Prop := ∃ e, H[b]? = some (.cells cs.toArray e (0, 0))

section box
variable {H H' : Heap} {A B : Nat → Prop} {b : Nat} {cs : List Value}

theorem Bx.lt (h : Bx H b cs) : b < H.size := by obtain ⟨e, h⟩ := h; exact (Array.getElem?_eq_some_iff.1 h).1
theorem Bx.up (h : Bx H b cs) (hf : Fr B H H') (hb : B b) : Bx H' b cs := by
  have := h.lt
  obtain ⟨e, h⟩ := h; exact ⟨e, by rw [hf.same b this hb]; exact h⟩
theorem Bx.g (h : Bx H b cs) (hf : G H H') : Bx H' b cs := h.up hf trivial

theorem newC_bx {e : TypeId} {k : Nat → Heap → Prop} (hk : ∀ H', Bx H' H.size cs → G H H' → H'.size = H.size + 1 → k H.size H') : newC e cs H k :=
  hk _ ⟨e, by simp⟩ (G.push _ _) (by simp)
theorem newT_of {k : Heap → Prop} (hk : ∀ H', G H H' → H'.size = H.size + 1 → k H') : newT H k := hk _ (G.push _ _) (by simp)

theorem Bx.at (h : Bx H b cs) {o n : Nat} (hn : o + n ≤ cs.length) : cellsAt H b o n = some (seg cs o n) := by
  obtain ⟨e, h⟩ := h
  unfold cellsAt; rw [h]
  simp only [List.size_toArray]
  rw [if_pos hn]
theorem Bx.load {agg : Bool} {n : Nat} {k : Value → Prop} (h : Bx H b cs) (hn : cs.length = n) (hk : k (mkV agg cs)) : loadP agg n (.pointer (some ⟨b, 0, none⟩)) H k :=
  load_at (h.at (by omega)) (by rw [show seg cs 0 n = cs from by simp [seg, ← hn]]; exact hk)
theorem Bx.loadF {agg : Bool} {o n : Nat} {k : Value → Prop} (h : Bx H b cs) (hn : o + n ≤ cs.length) (hk : k (mkV agg (seg cs o n))) : loadP agg n (.pointer (some ⟨b, o, none⟩)) H k :=
  load_at (h.at hn) hk
/-- A box is written, of one cell. -/
theorem Bx.store {x u : Value} {k : Heap → Prop} (h : Bx H b [u]) (hx : okc x = true) (hk : ∀ H', Bx H' b [x] → Fr (fun y => y ≠ b) H H' → H'.size = H.size → k H') : storeP false 1 (.pointer (some ⟨b, 0, none⟩)) x H k := by
  obtain ⟨e, h⟩ := h
  unfold storeP
  simp only [cellsV, hx, ifB_true]
  refine ⟨?_, hk _ ⟨e, ?_⟩ ⟨by simp [setCells], fun y hy hne => ?_⟩ (by simp [setCells])⟩
  · unfold mayWrite; rw [h]; simp
  · unfold setCells; rw [Array.getElem?_modify, if_pos rfl, h]; simp [setSeg]
  · unfold setCells; rw [Array.getElem?_modify, if_neg (Ne.symm hne)]
/-- A box is written whole. -/
theorem Bx.storeA {n : Nat} {c : List Value} {k : Heap → Prop} (h : Bx H b cs) (hn : cs.length = n) (hc : c.length = n) (ho : c.all okc = true)
    (hk : ∀ H', Bx H' b c → Fr (fun y => y ≠ b) H H' → H'.size = H.size → k H') : storeP true n (.pointer (some ⟨b, 0, none⟩)) (.agg c.toArray) H k := by
  obtain ⟨e, h⟩ := h
  unfold storeP
  simp only [cellsV, List.size_toArray, hc]
  rw [show (n == n && c.all okc) = true from by simp only [beq_self_eq_true, ho]; rfl]
  refine ⟨?_, hk _ ⟨e, ?_⟩ ⟨by simp [setCells], fun y hy hne => ?_⟩ (by simp [setCells])⟩
  · unfold mayWrite; rw [h]; simp [hn]
  · unfold setCells; rw [Array.getElem?_modify, if_pos rfl, h]; simp [setSeg, hn, hc]
  · unfold setCells; rw [Array.getElem?_modify, if_neg (Ne.symm hne)]
theorem sing_flat : ∀ l : List Value, (l.map fun c => [c]).flatten = l
  | [] => rfl
  | c :: l => by simp only [List.map_cons, List.flatten_cons, sing_flat l, List.cons_append, List.nil_append]
/-- A cell of a box is written. -/
theorem Bx.storeF {o : Nat} {x : Value} {k : Heap → Prop} (h : Bx H b cs) (ho : o < cs.length) (hx : okc x = true) (hk : ∀ H', Bx H' b (cs.set o x) → Fr (fun y => y ≠ b) H H' → H'.size = H.size → k H') :
    storeP false 1 (.pointer (some ⟨b, o, none⟩)) x H k := by
  obtain ⟨e, h⟩ := h
  unfold storeP
  simp only [cellsV, hx, ifB_true]
  refine ⟨?_, hk _ ⟨e, ?_⟩ ⟨by simp [setCells], fun y hy hne => ?_⟩ (by simp [setCells])⟩
  · unfold mayWrite; rw [h]; simp; omega
  · unfold setCells; rw [Array.getElem?_modify, if_pos rfl, h]
    simp only [Option.map_some, Option.some.injEq, Obj.cells.injEq, and_true]
    congr 1
    have := flatten_set (n := 1) (cs := [x]) (css := cs.map fun c => [c]) (j := o) (fun c hc => by obtain ⟨_, _, rfl⟩ := List.mem_map.1 hc; rfl) (by simpa using ho) rfl
    rw [Nat.mul_one] at this
    have e1 := sing_flat cs
    have e2 : ((cs.map fun c => [c]).set o [x]) = (cs.set o x).map fun c => [c] := by rw [List.map_set]
    have e3 := sing_flat (cs.set o x)
    rw [e2, e3, e1] at this
    exact this.symm
  · unfold setCells; rw [Array.getElem?_modify, if_neg (Ne.symm hne)]

end box

/-! ### The record of a loop over a function -/

theorem set_fr (H : Heap) (l : Nat) (o : Obj) : Fr (fun y => y ≠ l) H (H.setIfInBounds l o) := ⟨by simp, fun x _ hne => by rw [Array.getElem?_setIfInBounds_ne (Ne.symm hne)]⟩
theorem set_at {H : Heap} {l : Nat} (o : Obj) (h : l < H.size) : (H.setIfInBounds l o)[l]? = some o := by simp [h]
theorem fr_at {A : Nat → Prop} {H H' : Heap} {l : Nat} {o : Obj} (h : H[l]? = some o) (hf : Fr A H H') (hA : A l) : H'[l]? = some o := by
  rw [hf.same l (Array.getElem?_eq_some_iff.1 h).1 hA]; exact h
theorem push2_at (H : Heap) (o o' : Obj) : ((H.push o).push o')[H.size + 1]? = some o' := by
  have : (H.push o).size = H.size + 1 := by simp
  rw [← this, Array.getElem?_push_size]
theorem push2_g (H : Heap) (o o' : Obj) : G H ((H.push o).push o') := (G.push _ _).trans (G.push _ _)

/-! ### Pieces that are reduced -/

theorem ok_int (q : IntKind) (n : Int) : okc (.int q n) = true := rfl
theorem ok_bool (b : Bool) : okc (.bool b) = true := rfl
theorem ok_slice (a : Option Addr) (l c : Nat) : okc (.slice a l c) = true := rfl
theorem ok_str (s : ByteArray) : okc (.string s) = true := rfl
theorem ok_ptr (a : Option Addr) : okc (.pointer a) = true := rfl
theorem ok_map (a : Option Nat) : okc (.map a) = true := rfl
theorem ok_func (f : Fn) (a b : Array Value) : okc (.func f a b) = true := rfl
theorem ok_iface (t : TypeId) (v : Value) : okc (.iface t v) = true := rfl
theorem ok_nil : okc .nilIface = true := rfl

theorem w_cellsV (n : Nat) (c : Array Value) (k : List Value → Prop) : cellsV true n (.agg c) k = ifB (c.size == n && c.toList.all okc) (k c.toList) False := rfl
theorem w_fldV (agg : Bool) (o n : Nat) (c : Array Value) (k : Value → Prop) : fldV agg o n (.agg c) k = ifB (decide (o + n ≤ c.size)) (k (mkV agg (seg c.toList o n))) False := rfl
theorem w_ext (i : Nat) (vs : Array Value) (k : Value → Prop) : extractV i (.tuple vs) k = (match vs[i]? with | some v => k v | none => False) := rfl
theorem w_fldP (off b o : Nat) (k : Value → Prop) : fldP off (.pointer (some ⟨b, o, none⟩)) k = k (.pointer (some ⟨b, o + off, none⟩)) := rfl
theorem w_quo {q : IntKind} {a b : Int} {k : Value → Prop} (h : b ≠ 0) (hk : k (.int q (q.wrap (a.tdiv b)))) : binV (.int q) .quo (.int q a) (.int q b) k := by simp [binV, binR, intR, h]; exact hk
theorem w_rem {q : IntKind} {a b : Int} {k : Value → Prop} (h : b ≠ 0) (hk : k (.int q (a.tmod b))) : binV (.int q) .rem (.int q a) (.int q b) k := by simp [binV, binR, intR, h]; exact hk
theorem w_shl {q q' : IntKind} {a b : Int} {k : Value → Prop} (h : 0 ≤ b) (hk : k (.int q (q.wrap (a * 2 ^ (min b.toNat q.bits))))) : binV (.int q) .shl (.int q a) (.int q' b) k := by
  simp only [binV, binR]
  rw [if_neg (by omega)]; exact hk
theorem w_shr {q q' : IntKind} {a b : Int} {k : Value → Prop} (h : 0 ≤ b) (hk : k (.int q (a.fdiv (2 ^ (min b.toNat q.bits))))) : binV (.int q) .shr (.int q a) (.int q' b) k := by
  simp only [binV, binR]
  rw [if_neg (by omega)]; exact hk

/-! Tests that meet again. -/
theorem jb_d {p q : Prop} [Decidable p] [Decidable q] (h : p ↔ q) : [[Value.bool (decide p)]] = [[Value.bool (decide q)]] := by rw [decide_eq_decide.2 h]
theorem jb_t {q : Prop} [Decidable q] (h : q) : [[Value.bool true]] = [[Value.bool (decide q)]] := by rw [decide_eq_true h]
theorem jb_t' {q : Prop} [Decidable q] (h : q) : [[Value.bool (decide q)]] = [[Value.bool true]] := by rw [decide_eq_true h]
theorem jb_f {q : Prop} [Decidable q] (h : ¬ q) : [[Value.bool false]] = [[Value.bool (decide q)]] := by rw [decide_eq_false h]

/-- Whole numbers of 64 bits. -/
abbrev i64 (x : Int) : Prop := -9223372036854775808 ≤ x ∧ x ≤ 9223372036854775807
theorem wrap_i64 {x : Int} (h : i64 x) : IntKind.i64.wrap x = x := by
  simp only [IntKind.wrap, IntKind.bits, IntKind.signed]
  simp
  omega
theorem i64_wrap {x : Int} (h : IntKind.i64.wrap x = x) : i64 x := by
  simp only [IntKind.wrap, IntKind.bits, IntKind.signed] at h
  simp at h
  unfold i64
  omega
theorem wrap_u8 {x : Int} (h : 0 ≤ x ∧ x < 256) : IntKind.u8.wrap x = x := by
  simp only [IntKind.wrap, IntKind.bits, IntKind.signed]
  simp
  omega
theorem u8_wrap {x : Int} (h : IntKind.u8.wrap x = x) : 0 ≤ x ∧ x < 256 := by
  simp only [IntKind.wrap, IntKind.bits, IntKind.signed] at h
  simp at h
  omega

/-! ### Strings of bytes -/

theorem toBytes_map : ∀ bs : List UInt8, toBytes (bs.map fun b => Value.int .u8 (b.toNat : Int)) = some bs
  | [] => rfl
  | b :: bs => by simp [toBytes, toBytes_map bs]

theorem flat_u8 {H : Heap} {A : Nat → Prop} : ∀ {css : List (List Value)} {xs : List UInt8}, css.length = xs.length → (∀ (i : Nat) cs x, css[i]? = some cs → xs[i]? = some x → rU8.rel H A cs x) → css.flatten = xs.map fun b => Value.int .u8 (b.toNat : Int)
  | [], [], _, _ => rfl
  | c :: css, x :: xs, hl, h => by
    have h0 := (h 0 c x rfl rfl).1
    subst h0
    simp only [List.flatten_cons, List.map_cons]
    rw [flat_u8 (css := css) (xs := xs) (by simpa using hl) fun i cs x hc hx => h (i + 1) cs x (by simpa using hc) (by simpa using hx)]
    rfl

theorem Sl.str {H : Heap} {A : Nat → Prop} {v : Value} {xs : List UInt8} {k : Value → Prop} (h : Sl rU8 H A v xs) (hk : k (.string ⟨xs.toArray⟩)) : cvBS v H k := by
  obtain ⟨a, cap, css, rfl, h2, h3, h4⟩ := h
  rcases h4 with rfl | ⟨b, o, rfl, hb, hc⟩
  · exact hk
  · have hf := flat_u8 h2 h3
    cases hxs : xs.length with
    | zero =>
      have : xs = [] := List.length_eq_zero_iff.1 hxs
      subst this; exact hk
    | succ m =>
      have hc : cellsAt H b o (m + 1) = some (xs.map fun b => Value.int .u8 (b.toNat : Int)) := by
        rw [hxs, hf] at hc
        rw [← hc]; congr 1; exact (Nat.mul_one _).symm
      unfold cvBS
      simp only [hc, Option.bind_some, toBytes_map]
      exact hk

@[simp] theorem bin_streq (a b : List UInt8) (k : Value → Prop) : binV .string .eql (.string ⟨a.toArray⟩) (.string ⟨b.toArray⟩) k = k (.bool (decide (a = b))) := by
  simp only [binV, binR, strR]
  congr 2
  have e : ∀ l : List UInt8, (ByteArray.mk l.toArray).toList = l := fun l => by rw [ByteArray.toList_eq]
  rw [e, e]
  by_cases h : a = b <;> simp [h]

end Go.Ab
