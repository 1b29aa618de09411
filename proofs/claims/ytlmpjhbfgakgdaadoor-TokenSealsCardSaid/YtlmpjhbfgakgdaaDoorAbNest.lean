/- Slices within slices; bytes that may be written. -/
import Derived.Test.YtlmpjhbfgakgdaaDoorAbData
namespace Go.Ab
set_option linter.unusedVariables false
set_option linter.unusedSimpArgs false
variable {α β γ : Type}

/-- Place by place. -/
def All2 (R : α → β → Prop) (xs : List α) (ys : List β) : Prop := xs.length = ys.length ∧ ∀ (i : Nat) x y, xs[i]? = some x → ys[i]? = some y → R x y

theorem All2.nil (R : α → β → Prop) : All2 R [] [] := ⟨rfl, fun i x y h => by simp at h⟩
theorem All2.imp {R S : α → β → Prop} {xs : List α} {ys : List β} (h : All2 R xs ys) (hi : ∀ x y, R x y → S x y) : All2 S xs ys := ⟨h.1, fun i x y hx hy => hi x y (h.2 i x y hx hy)⟩
theorem All2.snoc {R : α → β → Prop} {xs : List α} {ys : List β} {x : α} {y : β} (h : All2 R xs ys) (hxy : R x y) : All2 R (xs ++ [x]) (ys ++ [y]) := by
  refine ⟨by simp [h.1], fun i a b ha hb => ?_⟩
  rcases Nat.lt_trichotomy i xs.length with hi | hi | hi
  · rw [List.getElem?_append_left hi] at ha
    rw [List.getElem?_append_left (by rw [← h.1]; exact hi)] at hb
    exact h.2 i a b ha hb
  · subst hi
    rw [List.getElem?_append_right (Nat.le_refl _)] at ha
    rw [List.getElem?_append_right (by rw [h.1]; exact Nat.le_refl _)] at hb
    rw [← h.1] at hb
    simp at ha hb
    subst ha; subst hb; exact hxy
  · rw [List.getElem?_eq_none (by simp; omega)] at ha; cases ha
theorem All2.get {R : α → β → Prop} {xs : List α} {ys : List β} (h : All2 R xs ys) {i : Nat} {y : β} (hy : ys[i]? = some y) : ∃ x, xs[i]? = some x ∧ R x y := by
  have hlt := (List.getElem?_eq_some_iff.1 hy).1
  have : i < xs.length := by rw [h.1]; exact hlt
  exact ⟨xs[i], List.getElem?_eq_getElem this, h.2 i _ y (List.getElem?_eq_getElem this) hy⟩
theorem All2.getL {R : α → β → Prop} {xs : List α} {ys : List β} (h : All2 R xs ys) {i : Nat} {x : α} (hx : xs[i]? = some x) : ∃ y, ys[i]? = some y ∧ R x y := by
  have hlt := (List.getElem?_eq_some_iff.1 hx).1
  have : i < ys.length := by rw [← h.1]; exact hlt
  exact ⟨ys[i], List.getElem?_eq_getElem this, h.2 i x _ hx (List.getElem?_eq_getElem this)⟩
theorem All2.set {R : α → β → Prop} {xs : List α} {ys : List β} (h : All2 R xs ys) (j : Nat) {x : α} {y : β} (hxy : R x y) : All2 R (xs.set j x) (ys.set j y) := by
  refine ⟨by simp [h.1], fun i a b ha hb => ?_⟩
  rw [List.getElem?_set] at ha hb
  by_cases hji : j = i
  · subst hji
    simp only [if_true] at ha hb
    split at ha
    · split at hb
      · cases ha; cases hb; exact hxy
      · cases hb
    · cases ha
  · simp only [if_neg hji] at ha hb; exact h.2 i a b ha hb
theorem All2.take {R : α → β → Prop} {xs : List α} {ys : List β} (h : All2 R xs ys) (n : Nat) : All2 R (xs.take n) (ys.take n) := by
  refine ⟨by simp [h.1], fun i a b ha hb => ?_⟩
  rw [List.getElem?_take] at ha hb
  split at ha
  · rename_i hi; rw [if_pos hi] at hb; exact h.2 i a b ha hb
  · cases ha

/-- A value as it is. -/
def rV : Rep Value where
  n := 1
  rel := fun _ _ cs v => cs = [v] ∧ okc v = true
  len := by rintro _ _ _ _ ⟨rfl, _⟩; rfl
  okc := by rintro _ _ _ _ ⟨rfl, h⟩; simp [h]
  fr := fun h _ => h

theorem vrep_V {H : Heap} {A : Nat → Prop} {v : Value} (h : okc v = true) : VRep rV H A false v v := ⟨[v], rfl, rfl, h⟩

section
variable {R : Rep α} {H H' : Heap} {A A' B F : Nat → Prop} {v : Value}

theorem Sl.getV {kd : IntKind} {j : Nat} {vs : List Value} {x : Value} {k : Value → Prop} (h : Sl rV H A v vs) (hx : vs[j]? = some x) (hk : k x) : idxS 1 v (.int kd (j : Int)) fun p => loadP false 1 p H k :=
  h.get rfl hx fun cs ⟨hc, _⟩ => by subst hc; exact hk

/-- The slices of a slice. -/
theorem Sl.split {xss : List (List α)} (h : Sl (rSl R) H A v xss) : ∃ vs, Sl rV H A v vs ∧ All2 (fun u xs => Sl R H A u xs) vs xss := by
  obtain ⟨a, cap, css, rfl, h2, h3, h4⟩ := h
  refine ⟨css.map fun c => c.headD undef, ⟨a, cap, css, by simp [h2], by simp, fun i cs x hc hx => ?_, ?_⟩, by simpa using h2, fun i u xs hu hx => ?_⟩
  · rw [List.getElem?_map, hc] at hx
    simp only [Option.map_some, Option.some.injEq] at hx
    have hlt := (List.getElem?_eq_some_iff.1 hc).1
    obtain ⟨u, rfl, hs⟩ := h3 i cs xss[i] hc (List.getElem?_eq_getElem (by omega))
    simp only [List.headD_cons] at hx
    subst hx
    exact ⟨rfl, hs.okcv⟩
  · rcases h4 with rfl | ⟨b, o, h5, h6, h7⟩
    · left
      have : css = [] := List.length_eq_zero_iff.1 (by simpa using h2)
      rw [this]; rfl
    · right
      refine ⟨b, o, h5, h6, ?_⟩
      rw [← h7]; simp [h2, rSl, rV]
  · rw [List.getElem?_map] at hu
    cases hc : css[i]? with
    | none => rw [hc] at hu; cases hu
    | some cs =>
      rw [hc] at hu
      obtain ⟨w, rfl, hs⟩ := h3 i cs xs hc hx
      simp only [Option.map_some, List.headD_cons, Option.some.injEq] at hu
      subst hu
      exact hs

theorem Sl.join {vs : List Value} {xss : List (List α)} (h : Sl rV H A v vs) (hs : All2 (fun u xs => Sl R H B u xs) vs xss) : Sl (rSl R) H (fun y => A y ∨ B y) v xss := by
  obtain ⟨a, cap, css, rfl, h2, h3, h4⟩ := h
  refine ⟨a, cap, css, by rw [hs.1], by rw [h2, hs.1], fun i cs x hc hx => ?_, ?_⟩
  · obtain ⟨u, hu, hr⟩ := hs.get hx
    obtain ⟨rfl, _⟩ := h3 i cs u hc hu
    exact ⟨u, rfl, hr.mono fun b hb _ => .inr hb⟩
  · rcases h4 with rfl | ⟨b, o, h5, h6, h7⟩
    · left; exact List.length_eq_zero_iff.1 (by rw [← hs.1]; rfl)
    · right
      refine ⟨b, o, h5, .inl h6, ?_⟩
      rw [← h7, hs.1]; rfl

/-- Bytes that may be written, in blocks of F. -/
def WB (H : Heap) (F : Nat → Prop) (v : Value) (n : Nat) : Prop :=
  ∃ cap, (n = 0 ∧ ∃ a, v = .slice a 0 cap) ∨ ∃ b o c e, v = .slice (some ⟨b, o, none⟩) n cap ∧ F b ∧ H[b]? = some (.cells c e (0, 0)) ∧ o + n ≤ c.size ∧ ∀ i, i < n → ∃ x : Int, c[o + i]? = some (.int .u8 x)

/-- Blocks of F may be written by bytes, all else stays. -/
structure Wr (F : Nat → Prop) (H H' : Heap) : Prop where
  size : H'.size = H.size
  other : ∀ y, ¬ F y → H'[y]? = H[y]?
  here : ∀ y, F y → ∀ c e, H[y]? = some (.cells c e (0, 0)) → ∃ c', H'[y]? = some (.cells c' e (0, 0)) ∧ c'.size = c.size ∧ ∀ (i : Nat) (x : Int), c[i]? = some (Value.int .u8 x) → ∃ x' : Int, c'[i]? = some (Value.int .u8 x')

theorem Wr.refl (F : Nat → Prop) (H : Heap) : Wr F H H := ⟨rfl, fun _ _ => rfl, fun y _ c e h => ⟨c, h, rfl, fun i x hx => ⟨x, hx⟩⟩⟩
theorem Wr.trans {F : Nat → Prop} {H H1 H2 : Heap} (h : Wr F H H1) (h' : Wr F H1 H2) : Wr F H H2 :=
  ⟨h'.size.trans h.size, fun y hy => (h'.other y hy).trans (h.other y hy), fun y hy c e hc => by
    obtain ⟨c1, h1, h2, h3⟩ := h.here y hy c e hc
    obtain ⟨c2, h4, h5, h6⟩ := h'.here y hy c1 e h1
    exact ⟨c2, h4, h5.trans h2, fun i x hx => by obtain ⟨x', hx'⟩ := h3 i x hx; exact h6 i x' hx'⟩⟩
theorem Wr.fr (h : Wr F H H') : Fr (fun y => ¬ F y) H H' := ⟨by rw [h.size]; exact Nat.le_refl _, fun x _ hF => h.other x hF⟩

theorem WB.wr {n : Nat} (h : WB H F v n) (hw : Wr F H H') : WB H' F v n := by
  obtain ⟨cap, h | ⟨b, o, c, e, h1, h2, h3, h4, h5⟩⟩ := h
  · exact ⟨cap, .inl h⟩
  · obtain ⟨c', g1, g2, g3⟩ := hw.here b h2 c e h3
    exact ⟨cap, .inr ⟨b, o, c', e, h1, h2, g1, by omega, fun i hi => by obtain ⟨x, hx⟩ := h5 i hi; exact g3 _ x hx⟩⟩
theorem WB.fr {F' : Nat → Prop} {n : Nat} (h : WB H F v n) (hf : ∀ y, F y → y < H.size → F' y ∧ H'[y]? = H[y]?) : WB H' F' v n := by
  obtain ⟨cap, h | ⟨b, o, c, e, h1, h2, h3, h4, h5⟩⟩ := h
  · exact ⟨cap, .inl h⟩
  · have := hf b h2 (Array.getElem?_eq_some_iff.1 h3).1
    exact ⟨cap, .inr ⟨b, o, c, e, h1, this.1, by rw [this.2]; exact h3, h4, h5⟩⟩
theorem WB.len {n : Nat} {k : Value → Prop} (h : WB H F v n) (hk : k (.int .i64 (n : Int))) : lenSl v H' k := by
  obtain ⟨cap, ⟨rfl, a, rfl⟩ | ⟨b, o, c, e, rfl, _⟩⟩ := h <;> exact hk
theorem WB.get {n : Nat} {kd : IntKind} {j : Nat} {k : Value → Prop} (h : WB H F v n) (hj : j < n) (hk : ∀ x : Int, k (.int .u8 x)) : idxS 1 v (.int kd (j : Int)) fun p => loadP false 1 p H k := by
  obtain ⟨cap, ⟨rfl, a, rfl⟩ | ⟨b, o, c, e, rfl, h2, h3, h4, h5⟩⟩ := h
  · omega
  · refine ⟨⟨by omega, by omega⟩, ?_⟩
    obtain ⟨x, hx⟩ := h5 j hj
    have : cellsAt H b (o + (j : Int).toNat * 1) 1 = some [.int .u8 x] := by
      unfold cellsAt
      rw [h3]
      simp only [Int.toNat_natCast, Nat.mul_one]
      rw [if_pos (by omega)]
      congr 1
      apply List.ext_getElem?
      intro i
      cases i with
      | zero => rw [seg_get (by omega)]; simpa using hx
      | succ i => simp [seg, List.getElem?_take]
    exact load_at this (hk x)
theorem WB.put {n : Nat} {kd : IntKind} {j : Nat} {x : Int} {k : Heap → Prop} (h : WB H F v n) (hj : j < n) (hk : ∀ H', Wr F H H' → k H') : idxS 1 v (.int kd (j : Int)) fun p => storeP false 1 p (.int .u8 x) H k := by
  obtain ⟨cap, ⟨rfl, a, rfl⟩ | ⟨b, o, c, e, rfl, h2, h3, h4, h5⟩⟩ := h
  · omega
  · refine ⟨⟨by omega, by omega⟩, ?_⟩
    unfold storeP
    simp only [cellsV, okc, ifB_true, Int.toNat_natCast, Nat.mul_one]
    refine ⟨?_, hk _ ⟨by simp [setCells], fun y hy => ?_, fun y hy c' e' hc => ?_⟩⟩
    · unfold mayWrite; rw [h3]; simp; omega
    · unfold setCells; rw [Array.getElem?_modify, if_neg (show ¬ b = y from fun he => hy (he ▸ h2))]
    · unfold setCells
      by_cases hyb : b = y
      · subst hyb
        rw [h3] at hc
        cases hc
        rw [Array.getElem?_modify, if_pos rfl, h3]
        refine ⟨_, rfl, by simp [setSeg]; omega, fun i z hz => ?_⟩
        have hlt := (Array.getElem?_eq_some_iff.1 hz).1
        have e1 := flatten_set (n := 1) (cs := [.int .u8 x]) (css := c.toList.map fun c => [c]) (j := o + j) (fun c hc => by obtain ⟨_, _, rfl⟩ := List.mem_map.1 hc; rfl) (by simp; omega) rfl
        have e2 : ((c.toList.map fun c => [c]).set (o + j) [.int .u8 x]) = (c.toList.set (o + j) (.int .u8 x)).map fun c => [c] := by rw [List.map_set]
        rw [e2, sing_flat, sing_flat, Nat.mul_one] at e1
        simp only [List.getElem?_toArray]
        rw [← e1, List.getElem?_set]
        split
        · rename_i h; rw [if_pos (by simp; omega)]; exact ⟨x, rfl⟩
        · exact ⟨z, by simpa using hz⟩
      · rw [Array.getElem?_modify, if_neg hyb]
        exact ⟨c', hc, rfl, fun i z hz => ⟨z, hz⟩⟩

/-- An own slice of bytes may be written. -/
theorem Ow.wb {b : Nat} {xs : List UInt8} (h : Ow rU8 H b A v xs) (hF : ∀ k, b = k + 1 → F k) : WB H F v xs.length := by
  obtain ⟨css, h2, h3, ⟨rfl, rfl, rfl⟩ | ⟨k, cap, rest, e, rfl, rfl, hle, hk, hl⟩⟩ := h
  · exact ⟨0, .inl ⟨rfl, none, rfl⟩⟩
  · refine ⟨cap, .inr ⟨k, 0, _, e, rfl, hF k rfl, hk, ?_, fun i hi => ?_⟩⟩
    · have := flat_u8 h2 h3
      simp [this]
    · have := flat_u8 h2 h3
      simp only [Nat.zero_add, List.getElem?_toArray]
      rw [this, List.getElem?_append_left (by simpa using hi), List.getElem?_map, List.getElem?_eq_getElem hi]
      exact ⟨_, rfl⟩

/-- Cells at a place. -/
def AtC (H : Heap) (A : Nat → Prop) (p : Value) (cs : List Value) : Prop := ∃ b o, p = .pointer (some ⟨b, o, none⟩) ∧ A b ∧ cellsAt H b o cs.length = some cs

theorem AtC.up {p : Value} {cs : List Value} (h : AtC H A p cs) (hf : Fr B H H') (hb : ∀ b, A b → b < H.size → B b) : AtC H' A p cs := by
  obtain ⟨b, o, rfl, hA, hc⟩ := h
  have hlt := cellsAt_lt hc
  exact ⟨b, o, rfl, hA, by rw [cellsAt_eq (hf.same b hlt (hb b hA hlt))]; exact hc⟩
theorem AtC.g {p : Value} {cs : List Value} (h : AtC H A p cs) (hf : G H H') : AtC H' A p cs := h.up hf fun _ _ _ => trivial
theorem AtC.load {p : Value} {cs : List Value} {agg : Bool} {n : Nat} {k : Value → Prop} (h : AtC H A p cs) (hn : cs.length = n) (hk : k (mkV agg cs)) : loadP agg n p H k := by
  obtain ⟨b, o, rfl, hA, hc⟩ := h
  subst hn; exact load_at hc hk
theorem AtC.fld {p : Value} {cs : List Value} {off m : Nat} {k : Value → Prop} (h : AtC H A p cs) (hm : off + m ≤ cs.length) (hk : ∀ p', AtC H A p' (seg cs off m) → k p') : fldP off p k := by
  obtain ⟨b, o, rfl, hA, hc⟩ := h
  exact hk _ ⟨b, o + off, rfl, hA, by rw [seg_length hm]; exact cellsAt_sub hc hm⟩

theorem AtC.fld1 {p : Value} {cs : List Value} {off : Nat} {k : Value → Prop} (h : AtC H A p cs) (hm : off + 1 ≤ cs.length) (hk : ∀ p', AtC H A p' (seg cs off 1) → k p') : fldP off p k := h.fld hm hk

theorem Sl.at {kd : IntKind} {j : Nat} {xs : List α} {x : α} {k : Value → Prop} {n : Nat} (h : Sl R H A v xs) (hn : R.n = n) (hx : xs[j]? = some x) (hk : ∀ p cs, AtC H A p cs → R.rel H A cs x → k p) : idxS n v (.int kd (j : Int)) k :=
  h.ptr hn hx fun b o cs hA hc hr => hk _ cs ⟨b, o, rfl, hA, by rw [R.len hr, hn]; exact hc⟩ hr
theorem Sl.atV {kd : IntKind} {j : Nat} {vs : List Value} {x : Value} {k : Value → Prop} (h : Sl rV H A v vs) (hx : vs[j]? = some x) (hk : ∀ p, AtC H A p [x] → k p) : idxS 1 v (.int kd (j : Int)) k :=
  h.at rfl hx fun p cs hp hr => by obtain ⟨rfl, _⟩ := hr; exact hk p hp
theorem Sl.atS {kd : IntKind} {j : Nat} {xss : List (List α)} {x : List α} {k : Value → Prop} (h : Sl (rSl R) H A v xss) (hx : xss[j]? = some x) (hk : ∀ p u, AtC H A p [u] → Sl R H A u x → k p) : idxS 1 v (.int kd (j : Int)) k :=
  h.at rfl hx fun p cs hp hr => by obtain ⟨u, rfl, hs⟩ := hr; exact hk p u hp hs
theorem Sl.atI {q kd : IntKind} {j : Nat} {xs : List Int} {x : Int} {k : Value → Prop} (h : Sl (rI q) H A v xs) (hx : xs[j]? = some x) (hk : ∀ p, AtC H A p [.int q x] → q.wrap x = x → k p) : idxS 1 v (.int kd (j : Int)) k :=
  h.at rfl hx fun p cs hp hr => by obtain ⟨rfl, hw⟩ := hr; exact hk p hp hw

/-! The same at a whole number that is not below 0. -/
section
variable {kd : IntKind} {z : Int} {k : Value → Prop}
theorem Sl.atZ {xs : List α} {x : α} {n : Nat} (h : Sl R H A v xs) (hn : R.n = n) (hz : 0 ≤ z) (hx : xs[z.toNat]? = some x) (hk : ∀ p cs, AtC H A p cs → R.rel H A cs x → k p) : idxS n v (.int kd z) k := by
  have := h.at (kd := kd) hn hx hk; rwa [Int.toNat_of_nonneg hz] at this
theorem Sl.atSZ {xss : List (List α)} {x : List α} (h : Sl (rSl R) H A v xss) (hz : 0 ≤ z) (hx : xss[z.toNat]? = some x) (hk : ∀ p u, AtC H A p [u] → Sl R H A u x → k p) : idxS 1 v (.int kd z) k := by
  have := h.atS (kd := kd) hx hk; rwa [Int.toNat_of_nonneg hz] at this
theorem Sl.getSZ {xss : List (List α)} {x : List α} (h : Sl (rSl R) H A v xss) (hz : 0 ≤ z) (hx : xss[z.toNat]? = some x) (hk : ∀ u, Sl R H A u x → k u) : idxS 1 v (.int kd z) fun p => loadP false 1 p H k :=
  h.atSZ hz hx fun p u hp hu => hp.load rfl (hk u hu)
theorem Sl.getIZ {q : IntKind} {xs : List Int} {x : Int} (h : Sl (rI q) H A v xs) (hz : 0 ≤ z) (hx : xs[z.toNat]? = some x) (hk : q.wrap x = x → k (.int q x)) : idxS 1 v (.int kd z) fun p => loadP false 1 p H k := by
  have := h.getI (kd := kd) hx hk; rwa [Int.toNat_of_nonneg hz] at this
end

/-! ### Two own slices side by side -/

/-- What elements of two own slices may lie on. -/
def Ex (m b1 b2 y : Nat) : Prop := m ≤ y ∧ y + 1 ≠ b1 ∧ y + 1 ≠ b2

structure Two (m : Nat) (R1 : Rep α) (R2 : Rep β) (H : Heap) (b1 b2 : Nat) (v1 v2 : Value) (xs : List α) (ys : List β) : Prop where
  o1 : Ow R1 H b1 (Ex m b1 b2) v1 xs
  o2 : Ow R2 H b2 (Ex m b1 b2) v2 ys
  ne : b1 = b2 → b1 = 0
  f1 : b1 = 0 ∨ m < b1
  f2 : b2 = 0 ∨ m < b2

section
variable {R1 : Rep α} {R2 : Rep β} {m b1 b2 : Nat} {v1 v2 : Value} {xs : List α} {ys : List β}
theorem Two.nil (m : Nat) (R1 : Rep α) (R2 : Rep β) (H : Heap) : Two m R1 R2 H 0 0 (.slice none 0 0) (.slice none 0 0) [] [] := ⟨Ow.nil _ _ _, Ow.nil _ _ _, fun _ => rfl, .inl rfl, .inl rfl⟩
theorem Two.g (h : Two m R1 R2 H b1 b2 v1 v2 xs ys) (hf : G H H') : Two m R1 R2 H' b1 b2 v1 v2 xs ys := ⟨h.o1.g hf, h.o2.g hf, h.ne, h.f1, h.f2⟩
theorem Two.swap (h : Two m R1 R2 H b1 b2 v1 v2 xs ys) : Two m R2 R1 H b2 b1 v2 v1 ys xs :=
  ⟨h.o2.mono fun y hy _ => ⟨hy.1, hy.2.2, hy.2.1⟩, h.o1.mono fun y hy _ => ⟨hy.1, hy.2.2, hy.2.1⟩, fun e => by have := h.ne e.symm; omega, h.f2, h.f1⟩
theorem Two.app {n e bytes : Nat} {z : List Value} {x : Value} {zs : List α} {k : Value → Heap → Prop} (h : Two m R1 R2 H b1 b2 v1 v2 xs ys) (hx : Src R1 H A' x zs) (hn : R1.n = n) (hn0 : 0 < n) (hz : z.length = n)
    (hA : ∀ y, A' y → y < H.size → Ex m b1 b2 y) (hm : m ≤ H.size) (hbig : (xs.length + zs.length) * bytes ≤ 140737488355328) (hbig2 : xs.length + zs.length ≤ 9223372036854775807)
    (hk : ∀ u H' b', Two m R1 R2 H' b' b2 u v2 (xs ++ zs) ys → Fr (fun y => y + 1 ≠ b1) H H' → k u H') : appS e n bytes z v1 x H k := by
  have l1 := h.o1.lt
  have l2 := h.o2.lt
  refine h.o1.app hx hn hn0 hz (fun y hy hlt => hy.elim (fun h => h.2.1) fun hh => (hA y hh hlt).2.1) hbig hbig2 fun u H' b' ho hf hb' _ => hk u H' b' ⟨?_, ?_, fun e => ?_, ?_, h.f2⟩ hf
  · refine ho.mono fun y hy _ => ?_
    have hE : Ex m b1 b2 y := hy.1.elim id fun hh => hA y hh hy.2
    refine ⟨hE.1, ?_, hE.2.2⟩
    rcases hb' with e | e
    · rw [e]; exact hE.2.1
    · have := hy.2; omega
  · refine ((h.o2.mono (A' := fun y => Ex m b1 b2 y ∧ y < H.size) fun y hy hlt => ⟨hy, hlt⟩).up hf fun y hy hlt => ?_).mono fun y hy _ => ⟨hy.1.1, ?_, hy.1.2.2⟩
    · rcases hy with hy | hy
      · exact hy.1.2.1
      · intro e
        have := h.ne (by omega); omega
    · rcases hb' with e | e
      · rw [e]; exact hy.1.2.1
      · have := hy.2; omega
  · rcases hb' with e' | e'
    · have := h.ne (by omega); omega
    · omega
  · have := h.f1; omega
theorem Two.push {n e e' bytes : Nat} {agg : Bool} {z z' : List Value} {u : Value} {x : α} {k : Value → Heap → Prop} (h : Two m R1 R2 H b1 b2 v1 v2 xs ys) (hv : VRep R1 H A' agg u x) (hn : R1.n = n) (hn0 : 0 < n) (ha : agg = false → n = 1)
    (hz : z.length = n) (hz' : z'.length = n) (hA : ∀ y, A' y → y < H.size → Ex m b1 b2 y) (hm : m ≤ H.size) (hbig : (xs.length + 1) * bytes ≤ 140737488355328) (hbig2 : xs.length + 1 ≤ 9223372036854775807)
    (hk : ∀ w H' b', Two m R1 R2 H' b' b2 w v2 (xs ++ [x]) ys → Fr (fun y => y + 1 ≠ b1) H H' → k w H') : bldS e n agg z 1 [(0, u)] H fun t H => appS e' n bytes z' v1 t H k := by
  refine bld_one hv hn ha hz fun t H1 ht g1 s1 => (h.g g1).app ht.src hn hn0 hz' (fun y hy _ => hA y hy.1 hy.2) (by omega) hbig hbig2 fun w H2 b' ht2 hf => ?_
  exact hk w H2 b' ht2 (Fr.trans g1 hf fun y hy hn => ⟨trivial, hn⟩)
end

/-! ### An own slice of own slices -/

structure Ow2R (H : Heap) (A : Nat → Prop) (b : Nat) (bs : List Nat) (v : Value) (vs : List Value) (vss : List (List Value)) : Prop where
  outer : Ow rV H b (fun _ => False) v vs
  lenV : vs.length = vss.length
  lenB : bs.length = vss.length
  inner : ∀ (i : Nat) u ws bi, vs[i]? = some u → vss[i]? = some ws → bs[i]? = some bi → Ow rV H bi (fun _ => False) u ws
  inA : ∀ k, b = k + 1 → A k
  inB : ∀ i k : Nat, bs[i]? = some (k + 1) → A k ∧ b ≠ k + 1
  apart : ∀ i j k : Nat, bs[i]? = some (k + 1) → bs[j]? = some (k + 1) → i = j

def Ow2 (H : Heap) (A : Nat → Prop) (v : Value) (vss : List (List Value)) : Prop := ∃ b bs vs, Ow2R H A b bs v vs vss

theorem Ow2R.nil (H : Heap) (A : Nat → Prop) : Ow2R H A 0 [] (.slice none 0 0) [] [] :=
  ⟨Ow.nil _ _ _, rfl, rfl, fun i u ws bi h => (by simp at h), fun k h => (by cases h), fun i k h => (by simp at h), fun i j k h => (by simp at h)⟩

theorem Ow2R.up {b : Nat} {bs : List Nat} {vs : List Value} {vss : List (List Value)} (h : Ow2R H A b bs v vs vss) (hf : Fr B H H') (hb : ∀ y, A y → y < H.size → B y) : Ow2R H' A b bs v vs vss := by
  have hlt := h.outer.lt
  refine ⟨h.outer.upF hf fun k hk => hb k (h.inA k hk) (by omega), h.lenV, h.lenB, fun i u ws bi h1 h2 h3 => ?_, h.inA, h.inB, h.apart⟩
  have ho := h.inner i u ws bi h1 h2 h3
  have := ho.lt
  exact ho.upF hf fun k hk => hb k (h.inB i k (hk ▸ h3)).1 (by omega)
theorem Ow2R.mono {b : Nat} {bs : List Nat} {vs : List Value} {vss : List (List Value)} (h : Ow2R H A b bs v vs vss) (hA : ∀ y, A y → y < H.size → A' y) : Ow2R H A' b bs v vs vss := by
  have hlt := h.outer.lt
  refine ⟨h.outer, h.lenV, h.lenB, h.inner, fun k hk => hA k (h.inA k hk) (by omega), fun i k hk => ⟨hA k (h.inB i k hk).1 ?_, (h.inB i k hk).2⟩, h.apart⟩
  have hi := (List.getElem?_eq_some_iff.1 hk).1
  have := (h.inner i (vs[i]'(by have := h.lenV; have := h.lenB; omega)) (vss[i]'(by have := h.lenB; omega)) _ (List.getElem?_eq_getElem _) (List.getElem?_eq_getElem _) hk).lt
  omega
theorem Ow2.up {vss : List (List Value)} (h : Ow2 H A v vss) (hf : Fr B H H') (hb : ∀ y, A y → y < H.size → B y) : Ow2 H' A v vss := by
  obtain ⟨b, bs, vs, h⟩ := h; exact ⟨b, bs, vs, h.up hf hb⟩
theorem Ow2.mono {vss : List (List Value)} (h : Ow2 H A v vss) (hA : ∀ y, A y → y < H.size → A' y) : Ow2 H A' v vss := by
  obtain ⟨b, bs, vs, h⟩ := h; exact ⟨b, bs, vs, h.mono hA⟩
theorem Ow2.g {vss : List (List Value)} (h : Ow2 H A v vss) (hf : G H H') : Ow2 H' A v vss := h.up hf fun _ _ _ => trivial

theorem Ow2.sl {vss : List (List Value)} (h : Ow2 H A v vss) : ∃ vs, Sl rV H A v vs ∧ All2 (fun u ws => Sl rV H A u ws) vs vss := by
  obtain ⟨b, bs, vs, h⟩ := h
  refine ⟨vs, h.outer.slF h.inA, h.lenV, fun i u ws hu hw => ?_⟩
  have hi := (List.getElem?_eq_some_iff.1 hw).1
  have hb : bs[i]? = some (bs[i]'(by have := h.lenB; omega)) := List.getElem?_eq_getElem _
  exact (h.inner i u ws _ hu hw hb).slF fun k hk => (h.inB i k (hk ▸ hb)).1
theorem Ow2.okcv {vss : List (List Value)} (h : Ow2 H A v vss) : okc v = true := by obtain ⟨b, bs, vs, h⟩ := h; exact h.outer.okcv

theorem Ow2R.put {b bi : Nat} {bs : List Nat} {u : Value} {vs : List Value} {vss : List (List Value)} {i : Nat} {ws ws' : List Value} (h : Ow2R H A b bs v vs vss) (hu : vs[i]? = some u) (hi : vss[i]? = some ws) (hb : bs[i]? = some bi)
    (ho : Ow rV H' bi (fun _ => False) u ws') (hf : Fr (fun y => y + 1 ≠ bi) H H') : Ow2 H' A v (vss.set i ws') := by
  have hlt := (List.getElem?_eq_some_iff.1 hi).1
  have hout := h.outer.lt
  refine ⟨b, bs, vs, h.outer.upF hf fun k hk => show k + 1 ≠ bi from fun e => (h.inB i k (by rw [e]; exact hb)).2 hk, by rw [h.lenV]; simp, by rw [h.lenB]; simp, fun j u' ws2 bj h1 h2 h3 => ?_, h.inA, h.inB, h.apart⟩
  by_cases hij : i = j
  · subst hij
    rw [hu] at h1; cases h1
    rw [hb] at h3; cases h3
    rw [List.getElem?_set] at h2
    simp only [if_true, hlt] at h2
    cases h2; exact ho
  · rw [List.getElem?_set_ne hij] at h2
    exact (h.inner j u' ws2 bj h1 h2 h3).upF hf fun k hk => show k + 1 ≠ bi from fun e => hij (h.apart i j k (by rw [e]; exact hb) (hk ▸ h3))

/-- An inner slice, and what comes of all where it is turned, now or later. -/
theorem Ow2.get {vss : List (List Value)} {i : Nat} {ws : List Value} (h : Ow2 H A v vss) (hi : vss[i]? = some ws) :
    ∃ u bi, (∀ (kd : IntKind) (k : Value → Prop), (∀ p, AtC H A p [u] → k p) → idxS 1 v (.int kd (i : Int)) k) ∧ Ow rV H bi (fun _ => False) u ws ∧ (∀ k, bi = k + 1 → A k) ∧
      ∀ H1, Fr A H H1 → Ow rV H1 bi (fun _ => False) u ws ∧ ∀ H' ws', Ow rV H' bi (fun _ => False) u ws' → Fr (fun y => y + 1 ≠ bi) H1 H' → Ow2 H' A v (vss.set i ws') := by
  obtain ⟨b, bs, vs, h⟩ := h
  have hlt := (List.getElem?_eq_some_iff.1 hi).1
  have hu : vs[i]? = some (vs[i]'(by have := h.lenV; omega)) := List.getElem?_eq_getElem _
  have hb : bs[i]? = some (bs[i]'(by have := h.lenB; omega)) := List.getElem?_eq_getElem _
  generalize vs[i]'(by have := h.lenV; omega) = u at hu
  generalize bs[i]'(by have := h.lenB; omega) = bi at hb
  refine ⟨u, bi, fun kd k hk => (h.outer.slF h.inA).atV hu hk, h.inner i u ws bi hu hi hb, fun k hk => (h.inB i k (hk ▸ hb)).1, fun H1 hf1 => ?_⟩
  have h1 := h.up hf1 fun y hy _ => hy
  exact ⟨h1.inner i u ws bi hu hi hb, fun H' ws' ho hf => h1.put hu hi hb ho hf⟩

/-- One more inner slice. -/
theorem Ow2R.snoc {b b' bi : Nat} {bs : List Nat} {v' u : Value} {vs ws : List Value} {vss : List (List Value)} (h : Ow2R H A b bs v vs vss) (hu : Ow rV H bi (fun _ => False) u ws) (ho : Ow rV H' b' (fun _ => False) v' (vs ++ [u]))
    (hf : Fr (fun y => y + 1 ≠ b) H H') (hb' : b' = b ∨ H.size < b') (hA : ∀ y, A y → y < H.size → A' y) (h1 : ∀ k, b' = k + 1 → A' k) (h2 : ∀ k, bi = k + 1 → A' k ∧ b ≠ k + 1) (h3 : ∀ (i k : Nat), bs[i]? = some (k + 1) → bi ≠ k + 1) :
    Ow2R H' A' b' (bs ++ [bi]) v' (vs ++ [u]) (vss ++ [ws]) := by
  have hout := h.outer.lt
  have hbs : ∀ (i k : Nat), bs[i]? = some (k + 1) → k < H.size := fun i k hk => by
    have hi := (List.getElem?_eq_some_iff.1 hk).1
    have := (h.inner i (vs[i]'(by have := h.lenV; have := h.lenB; omega)) (vss[i]'(by have := h.lenB; omega)) _ (List.getElem?_eq_getElem _) (List.getElem?_eq_getElem _) hk).lt
    omega
  have split : ∀ {i : Nat} {x : Nat}, (bs ++ [bi])[i]? = some x → bs[i]? = some x ∨ (i = bs.length ∧ x = bi) := by
    intro i x hx
    rcases Nat.lt_trichotomy i bs.length with hi | hi | hi
    · rw [List.getElem?_append_left hi] at hx; exact .inl hx
    · subst hi
      rw [List.getElem?_append_right (Nat.le_refl _)] at hx
      simp at hx; exact .inr ⟨rfl, hx.symm⟩
    · rw [List.getElem?_eq_none (by simp; omega)] at hx; cases hx
  have hbi := hu.lt
  refine ⟨ho, by simp [h.lenV], by simp [h.lenB], fun i u' ws' bj e1 e2 e3 => ?_, h1, fun i k hk => ?_, fun i j k hi hj => ?_⟩
  · rcases split e3 with e3 | ⟨rfl, rfl⟩
    · have hi := (List.getElem?_eq_some_iff.1 e3).1
      rw [List.getElem?_append_left (by have := h.lenV; have := h.lenB; omega)] at e1
      rw [List.getElem?_append_left (by have := h.lenB; omega)] at e2
      exact (h.inner i u' ws' bj e1 e2 e3).upF hf fun k hk => show k + 1 ≠ b from fun e => (h.inB i k (hk ▸ e3)).2 e.symm
    · rw [List.getElem?_append_right (by have := h.lenV; have := h.lenB; omega)] at e1
      rw [List.getElem?_append_right (by have := h.lenB; omega)] at e2
      have l1 := h.lenV
      have l2 := h.lenB
      rw [show bs.length - vs.length = 0 from by omega] at e1
      rw [show bs.length - vss.length = 0 from by omega] at e2
      simp at e1 e2
      subst e1; subst e2
      exact hu.upF hf fun k hk => show k + 1 ≠ b from fun e => (h2 k hk).2 e.symm
  · rcases split hk with hk | ⟨_, rfl⟩
    · have := hbs i k hk
      have hne := (h.inB i k hk).2
      exact ⟨hA k (h.inB i k hk).1 this, by omega⟩
    · have := h2 k rfl
      exact ⟨this.1, by omega⟩
  · rcases split hi with e1 | ⟨e1, e2⟩
    · rcases split hj with e3 | ⟨e3, e4⟩
      · exact h.apart i j k e1 e3
      · exact absurd e4.symm (h3 i k e1)
    · rcases split hj with e3 | ⟨e3, e4⟩
      · exact absurd e2.symm (h3 j k e3)
      · omega

end
end Go.Ab
