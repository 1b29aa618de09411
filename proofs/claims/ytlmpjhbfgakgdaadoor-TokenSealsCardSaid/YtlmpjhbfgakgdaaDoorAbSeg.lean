/- Slices of one's own by their elements' cells: pieces, copies within, insertion, deletion. -/
import Derived.Test.YtlmpjhbfgakgdaaDoorAbMore
import Derived.Lib.Overlaps
import Derived.Laws.Externs
namespace Go.Ab
set_option linter.unusedVariables false
set_option linter.unusedSimpArgs false
variable {α : Type} {R : Rep α} {H H' : Heap} {A A' : Nat → Prop} {n : Nat}

theorem chunk (n : Nat) : ∀ (m : Nat) (l : List Value), l.length = m * n → ∃ css : List (List Value), css.length = m ∧ (∀ c ∈ css, c.length = n) ∧ css.flatten = l
  | 0, l, h => ⟨[], rfl, by simp, by have : l = [] := List.length_eq_zero_iff.1 (by simpa using h); simp [this]⟩
  | m + 1, l, h => by
    rw [Nat.add_mul] at h
    obtain ⟨css, h1, h2, h3⟩ := chunk n m (l.drop n) (by rw [List.length_drop]; omega)
    refine ⟨l.take n :: css, by simp [h1], fun c hc => ?_, by simp [h3]⟩
    rcases List.mem_cons.1 hc with rfl | hc
    · rw [List.length_take]; omega
    · exact h2 c hc

/-- A block of so many elements. -/
def Rw (H : Heap) (k n : Nat) (ess : List (List Value)) : Prop := (∀ c ∈ ess, c.length = n) ∧ ∃ e, H[k]? = some (.cells ess.flatten.toArray e (0, 0))
/-- A piece of a block. -/
def Pc (k n i : Nat) (d : Value) (l : Nat) : Prop := ∃ a c, d = .slice a l c ∧ (0 < l → a = some ⟨k, i * n, none⟩)

theorem Rw.lt {k : Nat} {ess : List (List Value)} (h : Rw H k n ess) : k < H.size := by obtain ⟨_, e, h⟩ := h; exact (Array.getElem?_eq_some_iff.1 h).1
theorem Rw.len {k : Nat} {ess : List (List Value)} (h : Rw H k n ess) : ess.flatten.length = ess.length * n := flat_len h.1

theorem Ow.rw {b : Nat} {v : Value} {xs : List α} (h : Ow R H b A v xs) (hn : R.n = n) :
    (b = 0 ∧ xs = [] ∧ v = .slice none 0 0) ∨ ∃ k css rest, b = k + 1 ∧ v = .slice (some ⟨k, 0, none⟩) css.length (css.length + rest.length) ∧ css.length = xs.length ∧
      (∀ (i : Nat) cs x, css[i]? = some cs → xs[i]? = some x → R.rel H A cs x) ∧ Rw H k n (css ++ rest) := by
  obtain ⟨css, h2, h3, ⟨rfl, rfl, rfl⟩ | ⟨k, cap, rest, e, rfl, rfl, hle, hk, hl⟩⟩ := h
  · exact .inl ⟨rfl, rfl, rfl⟩
  · right
    have hcl := rep_lens h2 h3
    rw [hn] at hcl hl
    have hf := flat_len hcl
    rw [List.length_append, hf, h2] at hl
    obtain ⟨rcs, r1, r2, r3⟩ := chunk n (cap - xs.length) rest (by rw [Nat.sub_mul]; omega)
    refine ⟨k, css, rcs, rfl, by rw [h2, r1, Nat.add_sub_cancel' hle], h2, h3, fun c hc => ?_, e, ?_⟩
    · rcases List.mem_append.1 hc with hc | hc
      · exact hcl c hc
      · exact r2 c hc
    · rw [List.flatten_append, r3]; exact hk

theorem Rw.ow {k : Nat} {css rest : List (List Value)} {xs : List α} (h : Rw H k n (css ++ rest)) (hn : R.n = n) (hl : css.length = xs.length) (hr : ∀ (i : Nat) cs x, css[i]? = some cs → xs[i]? = some x → R.rel H A cs x) :
    Ow R H (k + 1) A (.slice (some ⟨k, 0, none⟩) css.length (css.length + rest.length)) xs := by
  have hlen := h.len
  obtain ⟨_, e, hk⟩ := h
  refine ⟨css, hl, hr, .inr ⟨k, css.length + rest.length, rest.flatten, e, rfl, by rw [hl], by omega, by rw [hk, List.flatten_append], ?_⟩⟩
  rw [← List.flatten_append, hlen, hn, List.length_append]

/-- Elements of a block are written. -/
theorem Rw.write {k i : Nat} {ess vs : List (List Value)} (h : Rw H k n ess) (hv : ∀ c ∈ vs, c.length = n) (hi : i + vs.length ≤ ess.length) :
    mayWrite H k (i * n) vs.flatten.length ∧ Rw (setCells H k (i * n) vs.flatten) k n (ess.take i ++ vs ++ ess.drop (i + vs.length)) ∧ Fr (fun y => y ≠ k) H (setCells H k (i * n) vs.flatten) ∧ (setCells H k (i * n) vs.flatten).size = H.size := by
  have hlen := h.len
  obtain ⟨h1, e, h2⟩ := h
  have hvl := flat_len hv
  have hm : (i + vs.length) * n ≤ ess.length * n := Nat.mul_le_mul_right _ hi
  rw [Nat.add_mul] at hm
  refine ⟨?_, ⟨fun c hc => ?_, e, ?_⟩, ⟨by simp [setCells], fun y _ hne => ?_⟩, by simp [setCells]⟩
  · unfold mayWrite; rw [h2]; simp only [List.size_toArray, hlen, hvl]; exact ⟨trivial, hm⟩
  · simp only [List.mem_append] at hc
    rcases hc with (hc | hc) | hc
    · exact h1 c (List.mem_of_mem_take hc)
    · exact hv c hc
    · exact h1 c (List.mem_of_mem_drop hc)
  · unfold setCells
    rw [Array.getElem?_modify, if_pos rfl, h2]
    simp only [Option.map_some, Option.some.injEq, Obj.cells.injEq, and_true]
    congr 1
    unfold setSeg
    rw [List.flatten_append, List.flatten_append, flat_take h1, flat_drop h1, hvl, Nat.add_mul]
  · unfold setCells
    rw [Array.getElem?_modify, if_neg (Ne.symm hne)]

theorem Rw.up {B : Nat → Prop} {k : Nat} {ess : List (List Value)} (h : Rw H k n ess) (hf : Fr B H H') (hB : B k) : Rw H' k n ess := by
  have hlt := h.lt
  obtain ⟨h1, e, h2⟩ := h
  exact ⟨h1, e, by rw [hf.same k hlt hB]; exact h2⟩

/-- The cells of a piece. -/
theorem Rw.at {k i l : Nat} {ess : List (List Value)} (h : Rw H k n ess) (hl : i + l ≤ ess.length) : cellsAt H k (i * n) (l * n) = some ((ess.drop i).take l).flatten := by
  have hlen := h.len
  obtain ⟨h1, e, h2⟩ := h
  unfold cellsAt
  rw [h2]
  have hm : (i + l) * n ≤ ess.length * n := Nat.mul_le_mul_right _ hl
  rw [Nat.add_mul] at hm
  simp only [List.size_toArray, hlen]
  rw [if_pos hm]
  unfold seg
  rw [flat_take (n := n) (fun c hc => h1 c (List.mem_of_mem_drop hc)), flat_drop h1]

theorem Rw.src {k i l : Nat} {ess : List (List Value)} {a : Option Addr} {c : Nat} {K : Nat → List Value → Prop} (h : Rw H k n ess) (hl : i + l ≤ ess.length) (ha : 0 < l → a = some ⟨k, i * n, none⟩) (ho : ((ess.drop i).take l).flatten.all okc = true)
    (hK : K l ((ess.drop i).take l).flatten) : srcC n (.slice a l c) H K := by
  cases l with
  | zero => simpa [srcC] using hK
  | succ m =>
    obtain rfl := ha (by omega)
    unfold srcC
    simp only [h.at hl]
    exact ⟨ho, hK⟩

/-- A piece by two indexes. -/
theorem sl_pc {k j len cap lo hi : Nat} {olo ohi omx : Option Value} {a : Option Addr} {K : Value → Prop} (ha : 0 < cap → a = some ⟨k, j * n, none⟩) (hs : ∀ x, a = some x → x.spot = none) (h1 : lo ≤ hi) (h2 : hi ≤ cap)
    (hlo : ∀ K : Int → Prop, K lo → optI olo 0 K) (hhi : ∀ K : Int → Prop, K hi → optI ohi len K) (hmx : ∀ K : Int → Prop, K cap → optI omx cap K)
    (hk : ∀ d a', d = .slice a' (hi - lo) (cap - lo) → (0 < cap - lo → a' = some ⟨k, (j + lo) * n, none⟩) → (∀ x, a' = some x → x.spot = none) → K d) : slS n (.slice a len cap) olo ohi omx K := by
  unfold slS
  refine hlo _ (hhi _ (hmx _ ⟨⟨by omega, by omega, by omega, by omega, hs⟩, ?_⟩))
  have e1 : ((hi : Int) - (lo : Int)).toNat = hi - lo := by omega
  have e2 : ((cap : Int) - (lo : Int)).toNat = cap - lo := by omega
  rw [e1, e2]
  refine hk _ _ rfl (fun hpos => ?_) (fun x hx => ?_)
  · obtain rfl := ha (by omega)
    unfold slAdd
    rw [if_neg (by omega)]
    simp [Nat.add_mul]
  · unfold slAdd at hx
    split at hx
    · exact hs x hx
    · cases a with
      | none => cases hx
      | some y => simp at hx; subst hx; rfl

/-- A copy into a piece of a block, of elements that are told. -/
theorem cp_pc {k i l dl c m cx : Nat} {ess css : List (List Value)} {a ax : Option Addr} {K : Value → Heap → Prop} (h : Rw H k n ess) (hn0 : 0 < n) (ha : 0 < dl → a = some ⟨k, i * n, none⟩) (hl : min m dl = l) (hi : i + l ≤ ess.length)
    (hv : ∀ c ∈ css, c.length = n) (hcl : css.length = l) (hsrc : ∀ K : Nat → List Value → Prop, K l css.flatten → srcC n (.slice ax l cx) H K)
    (hK : ∀ H', Rw H' k n (ess.take i ++ css ++ ess.drop (i + l)) → Fr (fun y => y ≠ k) H H' → H'.size = H.size → K (.int .i64 (l : Int)) H') : cpS n (.slice a dl c) (.slice ax m cx) H K := by
  subst hcl
  unfold cpS
  simp only [lenX, cutX, hl]
  refine hsrc _ ?_
  cases hc : css with
  | nil =>
    subst hc
    exact hK H (by simpa using h) (Fr.refl _ _) rfl
  | cons c0 cr =>
    have hlen := flat_len hv
    obtain ⟨w1, w2, w3, w4⟩ := h.write hv hi
    obtain ⟨y, ys, hy⟩ : ∃ y ys, (c0 :: cr).flatten = y :: ys := by
      rw [← hc]
      cases hf : css.flatten with
      | nil =>
        rw [hf, hc] at hlen
        simp only [List.length_nil, List.length_cons, Nat.add_mul] at hlen
        omega
      | cons y ys => exact ⟨y, ys, rfl⟩
    have hdl : 0 < dl := by
      rw [hc] at hl; simp at hl; omega
    obtain rfl := ha hdl
    rw [← hc] at hy ⊢
    rw [hy] at w1 w2 w3 w4 ⊢
    exact ⟨w1, hK _ w2 w3 w4⟩

theorem flat_okc {css : List (List Value)} (h : ∀ c ∈ css, c.all okc = true) : css.flatten.all okc = true := by
  rw [List.all_eq_true]
  intro x hx
  obtain ⟨c, hc, hx⟩ := List.mem_flatten.1 hx
  exact List.all_eq_true.1 (h c hc) x hx

theorem rel_okc {css : List (List Value)} {xs : List α} (hl : css.length = xs.length) (hr : ∀ (i : Nat) cs x, css[i]? = some cs → xs[i]? = some x → R.rel H A cs x) : ∀ c ∈ css, c.all okc = true := by
  intro c hc
  obtain ⟨i, hi⟩ := List.mem_iff_getElem?.1 hc
  have hi' := (List.getElem?_eq_some_iff.1 hi).1
  exact R.okc (hr i c xs[i] hi (List.getElem?_eq_getElem (by omega)))

/-- Two pieces that lie in two blocks do not overlap. -/
theorem xc_apart {P : Program} {g : Nat} {fn : Func} {tS tR e : TypeId} {ka kb oa ob la ca lb cb : Nat} {xa xb : Array Value} {ea eb : TypeId} {Q : Value → Heap → Prop} (hf : P.funcs[g]? = some fn) (hname : (fn.name == "runtime.NumGoroutine") = false)
    (hb : fn.body.isNone = true) (hn : Extern.findNext fn = none) (he : Extern.find fn = some (Extern.SlicesOverlaps.overlaps #[tS, tS] #[tR])) (ht : P.underlying tS = some (.slice e)) (hs : szOf P e = some n)
    (ha : H[ka]? = some (.cells xa ea (0, 0))) (hkb : H[kb]? = some (.cells xb eb (0, 0))) (hne : ka ≠ kb) (hx : xb.size ≠ 0) (hQ : Q (.bool false) H) :
    xcV P g [.slice (some ⟨ka, oa, none⟩) la ca, .slice (some ⟨kb, ob, none⟩) lb cb] H Q := by
  intro w hw
  refine ⟨.bool false, H, w, ?_, .refl hw, hQ⟩
  have h1 := hw.cells ha
  have h2 := hw.cells hkb
  rw [run_callFunc_extern hf hname hb hn he,
    Lib.run_overlaps_apart w tS tR e ht n (fun w => run_sizeOf' hs) ⟨ka, oa, none⟩ ⟨kb, ob, none⟩ la ca lb cb hne ea eb xa.size xb.size (by simp [World.shape?, h1]) (by simp [World.shape?, h2]) hx (by simp [World.frozen?, h1]) (by simp [World.frozen?, h1])]
  rfl

/-! ### slices.Insert -/

/-- What 'slices.Insert' does, for elements of n cells. -/
def InsPT (P : Program) (e n bytes : Nat) (z : List Value) (ov : Nat) (rot : Value → Value → Heap → (Value → Heap → Prop) → Prop) (x0 x1 x2 : Value) (H : Heap) (Q : Value → Heap → Prop) : Prop :=
  slS n x0 (some x1) none none fun t12 =>
  lenSl x2 H fun t14 =>
  binV (.int .i64) .eql t14 (.int .i64 0) fun t16 =>
  asB t16 fun b16 =>
  ifB b16 (
  Q x0 H) (
  lenSl x0 H fun t19 =>
  binV (.int .i64) .eql x1 t19 fun t22 =>
  asB t22 fun b22 =>
  ifB b22 (
  appS e n bytes z x0 x2 H fun t25 H =>
  Q t25 H) (
  binV (.int .i64) .add t19 t14 fun t28 =>
  capSl x0 fun t30 =>
  binV (.int .i64) .gtr t28 t30 fun t31 =>
  asB t31 fun b31 =>
  ifB b31 (
  slS n x0 none (some x1) none fun t34 =>
  binV (.int .i64) .add t19 t14 fun t37 =>
  binV (.int .i64) .sub t37 x1 fun t39 =>
  appZ e n bytes z t34 t39 H fun t40 H =>
  slS n t40 (some x1) none none fun t43 =>
  cpS n t43 x2 H fun t45 H =>
  binV (.int .i64) .add x1 t14 fun t49 =>
  slS n t40 (some t49) none none fun t50 =>
  slS n x0 (some x1) none none fun t53 =>
  cpS n t50 t53 H fun t54 H =>
  Q t40 H) (
  binV (.int .i64) .add t19 t14 fun t59 =>
  slS n x0 none (some t59) none fun t60 =>
  binV (.int .i64) .add x1 t14 fun t65 =>
  slS n t60 (some t65) none none fun t66 =>
  xcV P ov [x2, t66] H fun t67 H =>
  unV .not t67 fun t68 =>
  asB t68 fun b68 =>
  ifB b68 (
  binV (.int .i64) .add x1 t14 fun t72 =>
  slS n t60 (some t72) none none fun t73 =>
  slS n t60 (some x1) none none fun t76 =>
  cpS n t73 t76 H fun t77 H =>
  slS n t60 (some x1) none none fun t80 =>
  cpS n t80 x2 H fun t82 H =>
  Q t60 H) (
  slS n t60 (some t19) none none fun t86 =>
  cpS n t86 x2 H fun t88 H =>
  slS n t60 (some x1) none none fun t91 =>
  rot t91 t14 H fun t93 H =>
  Q t60 H))))

def insL (xs : List α) (i : Nat) (ys : List α) : List α := xs.take i ++ ys ++ xs.drop i

theorem rel_ins {css vs : List (List Value)} {xs ys : List α} {i : Nat} {B : Nat → Prop} (hl : css.length = xs.length) (hv : vs.length = ys.length) (hi : i ≤ xs.length) (h1 : ∀ (j : Nat) cs x, css[j]? = some cs → xs[j]? = some x → R.rel H B cs x)
    (h2 : ∀ (j : Nat) cs x, vs[j]? = some cs → ys[j]? = some x → R.rel H B cs x) : ∀ (j : Nat) cs x, (css.take i ++ vs ++ css.drop i)[j]? = some cs → (insL xs i ys)[j]? = some x → R.rel H B cs x := by
  intro j cs x hc hx
  unfold insL at hx
  rw [List.append_assoc, List.getElem?_append] at hc hx
  have e1 : (css.take i).length = i := by rw [List.length_take]; omega
  have e2 : (xs.take i).length = i := by rw [List.length_take]; omega
  rw [e1] at hc
  rw [e2] at hx
  split at hc
  · rename_i hj
    rw [if_pos hj] at hx
    rw [List.getElem?_take, if_pos hj] at hc hx
    exact h1 j cs x hc hx
  · rename_i hj
    rw [if_neg hj] at hx
    rw [List.getElem?_append] at hc hx
    rw [hv] at hc
    split at hc
    · rename_i hj2
      rw [if_pos hj2] at hx
      exact h2 _ cs x hc hx
    · rename_i hj2
      rw [if_neg hj2] at hx
      rw [List.getElem?_drop] at hc hx
      exact h1 _ cs x hc hx

theorem ow_shape {b : Nat} {v : Value} {xs : List α} (h : Ow R H b A v xs) : ∃ k a cap, v = .slice a xs.length cap ∧ xs.length ≤ cap ∧ (0 < cap → a = some ⟨k, 0 * n, none⟩) ∧ ∀ x, a = some x → x.spot = none := by
  obtain ⟨css, h2, h3, ⟨rfl, rfl, rfl⟩ | ⟨k, cap, rest, e, rfl, rfl, hle, hk, hl⟩⟩ := h
  · exact ⟨0, none, 0, rfl, Nat.le_refl _, fun h => absurd h (by omega), fun x hx => by cases hx⟩
  · exact ⟨k, _, cap, rfl, hle, fun _ => by simp, fun x hx => by cases hx; rfl⟩

theorem ins_of {P : Program} {e bytes ov b b2 i : Nat} {z : List Value} {rot : Value → Value → Heap → (Value → Heap → Prop) → Prop} {v u : Value} {xs ys : List α} {Q : Value → Heap → Prop} (h : Ow R H b A v xs) (hu : Ow R H b2 A' u ys)
    (hn : R.n = n) (hn0 : 0 < n) (hz : z.length = n) (hi : i ≤ xs.length) (hy : 0 < ys.length) (hb2 : b2 ≠ b) (hd : ∀ y, (A y ∨ A' y) → y < H.size → y + 1 ≠ b)
    (hbig : (xs.length + ys.length) * bytes ≤ 140737488355328) (hbig2 : xs.length + ys.length ≤ 4611686018427387904)
    (hov : ∀ (ka kb oa ob la ca lb cb : Nat) (xa xb : Array Value) (ea eb : TypeId) (K : Value → Heap → Prop), H[ka]? = some (.cells xa ea (0, 0)) → H[kb]? = some (.cells xb eb (0, 0)) → ka ≠ kb → xb.size ≠ 0 → K (.bool false) H →
      xcV P ov [.slice (some ⟨ka, oa, none⟩) la ca, .slice (some ⟨kb, ob, none⟩) lb cb] H K)
    (hQ : ∀ w H' b', Ow R H' b' (fun y => (A y ∨ A' y) ∧ y < H.size) w (insL xs i ys) → Fr (fun y => y + 1 ≠ b) H H' → (b' = b ∨ b' = H.size + 1) → Q w H') :
    InsPT P e n bytes z ov rot v (.int .i64 (i : Int)) u H Q := by
  unfold InsPT
  obtain ⟨k0, a0, cap0, hv0, hcap0, ha0, hs0⟩ := ow_shape (n := n) h
  have hvl : ∀ (H' : Heap) (K : Value → Prop), K (.int .i64 (xs.length : Int)) → lenSl v H' K := fun H' K hK => by rw [hv0]; exact hK
  rw [hv0]
  refine sl_pc (j := 0) (lo := i) (hi := xs.length) ha0 hs0 hi hcap0 optI_some optI_none optI_none fun d0 _ _ _ _ => hu.len ?_
  try simp only [sv_cons, sv_cons1, sc_cons, sc_cons1, asB_bool, ifB_true, ifB_false, un_not, bin_lss, bin_leq, bin_gtr, bin_geq, bin_eql, bin_neq, bin_add, bin_sub, bin_mul, ok_int, ok_bool, ok_slice, ok_str, ok_ptr, ok_map, ok_func, ok_iface, ok_nil, List.all_cons, List.all_nil, Bool.and_true, Bool.true_and, seg, setSeg, List.drop_succ_cons, List.drop_zero, List.take_succ_cons, List.take_zero, List.cons_append, List.nil_append, List.append_nil, List.length_cons, List.length_nil, List.drop_nil, List.size_toArray, Nat.reduceAdd, Nat.reduceLeDiff, Nat.reduceBEq, Nat.zero_add, Nat.le_refl, decide_true, mkV, List.headD_cons, cellsV, w_fldV, w_ext, w_fldP, List.getElem?_toArray, List.getElem?_cons_zero, List.getElem?_cons_succ, beq_self_eq_true, selV]
  refine ifD_of (fun h0 => by omega) (fun _ => ?_)
  refine hvl H _ ?_ |> fun h => by rw [hv0] at h; exact h
  try simp only [sv_cons, sv_cons1, sc_cons, sc_cons1, asB_bool, ifB_true, ifB_false, un_not, bin_lss, bin_leq, bin_gtr, bin_geq, bin_eql, bin_neq, bin_add, bin_sub, bin_mul, ok_int, ok_bool, ok_slice, ok_str, ok_ptr, ok_map, ok_func, ok_iface, ok_nil, List.all_cons, List.all_nil, Bool.and_true, Bool.true_and, seg, setSeg, List.drop_succ_cons, List.drop_zero, List.take_succ_cons, List.take_zero, List.cons_append, List.nil_append, List.append_nil, List.length_cons, List.length_nil, List.drop_nil, List.size_toArray, Nat.reduceAdd, Nat.reduceLeDiff, Nat.reduceBEq, Nat.zero_add, Nat.le_refl, decide_true, mkV, List.headD_cons, cellsV, w_fldV, w_ext, w_fldP, List.getElem?_toArray, List.getElem?_cons_zero, List.getElem?_cons_succ, beq_self_eq_true, selV]
  refine ifD_of (fun hil => ?_) (fun hil => ?_)
  · have hil : i = xs.length := by omega
    rw [← hv0]
    refine h.app hu.src hn hn0 hz hd hbig (by omega) fun w H' b' hw hf hb' _ => hQ w H' b' ?_ hf hb'
    rw [show insL xs i ys = xs ++ ys by simp [insL, hil]]
    exact hw
  · have hlt : i < xs.length := by omega
    rcases h.rw hn with ⟨_, rfl, _⟩ | ⟨k, css, rest, rfl, hv1, hl, hr, hrw⟩
    · simp at hlt
    rcases hu.rw hn with ⟨_, rfl, _⟩ | ⟨k2, vs, rest2, rfl, rfl, hl2, hr2, hrw2⟩
    · simp at hy
    rw [hv0] at hv1
    injection hv1 with ea el ec
    subst ea ec
    have ha0 : 0 < css.length + rest.length → some (⟨k, 0, none⟩ : Addr) = some ⟨k, 0 * n, none⟩ := fun _ => by simp
    have hokc := rel_okc hl hr
    have hokv := rel_okc hl2 hr2
    have hcn : ∀ c ∈ css, c.length = n := fun c hc => hrw.1 c (List.mem_append_left _ hc)
    have hvn : ∀ c ∈ vs, c.length = n := fun c hc => hrw2.1 c (List.mem_append_left _ hc)
    have hne : k2 ≠ k := by omega
    have hlen : (css ++ rest).length = css.length + rest.length := List.length_append
    have hlen2 : (vs ++ rest2).length = vs.length + rest2.length := List.length_append
    have hA : ∀ y, y < H.size → (A y ∨ A' y) → y ≠ k := fun y hlt hy => by have := hd y hy hlt; omega
    rw [← hl2]
    rw [wrap_i64 (x := (xs.length : Int) + (vs.length : Int)) (by unfold i64; omega)]
    unfold capSl
    try simp only [sv_cons, sv_cons1, sc_cons, sc_cons1, asB_bool, ifB_true, ifB_false, un_not, bin_lss, bin_leq, bin_gtr, bin_geq, bin_eql, bin_neq, bin_add, bin_sub, bin_mul, ok_int, ok_bool, ok_slice, ok_str, ok_ptr, ok_map, ok_func, ok_iface, ok_nil, List.all_cons, List.all_nil, Bool.and_true, Bool.true_and, seg, setSeg, List.drop_succ_cons, List.drop_zero, List.take_succ_cons, List.take_zero, List.cons_append, List.nil_append, List.append_nil, List.length_cons, List.length_nil, List.drop_nil, List.size_toArray, Nat.reduceAdd, Nat.reduceLeDiff, Nat.reduceBEq, Nat.zero_add, Nat.le_refl, decide_true, mkV, List.headD_cons, cellsV, w_fldV, w_ext, w_fldP, List.getElem?_toArray, List.getElem?_cons_zero, List.getElem?_cons_succ, beq_self_eq_true, selV]
    have vsrc : ∀ {H' : Heap}, Rw H' k2 n (vs ++ rest2) → ∀ K : Nat → List Value → Prop, K vs.length vs.flatten → srcC n (.slice (some ⟨k2, 0, none⟩) vs.length (vs.length + rest2.length)) H' K := fun hw K hK =>
      hw.src (i := 0) (l := vs.length) (by omega) (fun _ => by simp) (by simpa using flat_okc hokv) (by simpa using hK)
    refine ifD_of (fun hgt => ?_) (fun hfit => ?_)
    · -- there is no room
      refine sl_pc (k := k) (j := 0) (lo := 0) (hi := i) ha0 hs0 (by omega) (by omega) optI_none optI_some optI_none fun d1 a1 e1 p1 s1 => ?_
      subst e1
      try simp only [sv_cons, sv_cons1, sc_cons, sc_cons1, asB_bool, ifB_true, ifB_false, un_not, bin_lss, bin_leq, bin_gtr, bin_geq, bin_eql, bin_neq, bin_add, bin_sub, bin_mul, ok_int, ok_bool, ok_slice, ok_str, ok_ptr, ok_map, ok_func, ok_iface, ok_nil, List.all_cons, List.all_nil, Bool.and_true, Bool.true_and, seg, setSeg, List.drop_succ_cons, List.drop_zero, List.take_succ_cons, List.take_zero, List.cons_append, List.nil_append, List.append_nil, List.length_cons, List.length_nil, List.drop_nil, List.size_toArray, Nat.reduceAdd, Nat.reduceLeDiff, Nat.reduceBEq, Nat.zero_add, Nat.le_refl, decide_true, mkV, List.headD_cons, cellsV, w_fldV, w_ext, w_fldP, List.getElem?_toArray, List.getElem?_cons_zero, List.getElem?_cons_succ, beq_self_eq_true, selV]
      rw [wrap_i64 (x := (xs.length : Int) + (vs.length : Int) - (i : Int)) (by unfold i64; omega)]
      have ed : ((xs.length : Int) + (vs.length : Int) - (i : Int)).toNat = xs.length + vs.length - i := by omega
      have ei : i - 0 + (xs.length + vs.length - i) = xs.length + vs.length := by omega
      unfold appZ asI
      simp only [ed, ei]
      refine ⟨⟨by omega, by rw [hl2]; exact hbig, by omega, hz⟩, ?_⟩
      rw [if_neg (by omega)]
      refine hrw.src (i := 0) (l := i - 0) (by omega) (fun hp => by simpa using p1 (by omega)) ?_ ?_
      · refine flat_okc fun c hc => hokc c ?_
        have : c ∈ (css ++ rest).take i := by simpa using hc
        rw [List.take_append_of_le_length (by omega)] at this
        exact List.mem_of_mem_take this
      intro nc hnc hnc2
      unfold newC
      have etk : (((css ++ rest).drop 0).take (i - 0)) = css.take i := by simp [List.take_append_of_le_length (show i ≤ css.length by omega)]
      rw [etk]
      obtain ⟨z1, q1, q2, q3⟩ := chunk n (xs.length + vs.length - i) (zcells z ((xs.length + vs.length - i) * n)) (by simp [zcells])
      obtain ⟨z2, q4, q5, q6⟩ := chunk n (nc - (xs.length + vs.length)) (zcells z ((nc - (xs.length + vs.length)) * n)) (by simp [zcells])
      rw [← q3, ← q6, ← List.flatten_append, ← List.flatten_append]
      have g1 : G H (H.push (.cells (css.take i ++ z1 ++ z2).flatten.toArray e (0, 0))) := G.push _ _
      have w1 : Rw (H.push (.cells (css.take i ++ z1 ++ z2).flatten.toArray e (0, 0))) H.size n (css.take i ++ z1 ++ z2) := ⟨fun c hc => by
        simp only [List.mem_append] at hc
        rcases hc with (hc | hc) | hc
        · exact hcn c (List.mem_of_mem_take hc)
        · exact q2 c hc
        · exact q5 c hc, e, by simp⟩
      have sz1 : (H.push (.cells (css.take i ++ z1 ++ z2).flatten.toArray e (0, 0))).size = H.size + 1 := by simp
      generalize H.push (.cells (css.take i ++ z1 ++ z2).flatten.toArray e (0, 0)) = H1 at g1 w1 sz1
      have klt := hrw.lt
      have klt2 := hrw2.lt
      have hi1 : (css.take i).length = i := by rw [List.length_take]; omega
      refine sl_pc (k := H.size) (j := 0) (lo := i) (hi := xs.length + vs.length) (cap := nc) (fun _ => by simp) (fun x hx => by cases hx; rfl) (by omega) (by omega) optI_some optI_none optI_none fun d2 a2 e2 p2 s2 => ?_
      subst e2
      refine cp_pc (l := vs.length) (css := vs) w1 hn0 (fun hp => by simpa using p2 (by omega)) (by omega) (by simp [q1, q4, hi1]; omega) hvn rfl (fun K hK => vsrc (hrw2.up g1 trivial) K hK) fun H2 w2 f2 sz2 => ?_
      try simp only [sv_cons, sv_cons1, sc_cons, sc_cons1, asB_bool, ifB_true, ifB_false, un_not, bin_lss, bin_leq, bin_gtr, bin_geq, bin_eql, bin_neq, bin_add, bin_sub, bin_mul, ok_int, ok_bool, ok_slice, ok_str, ok_ptr, ok_map, ok_func, ok_iface, ok_nil, List.all_cons, List.all_nil, Bool.and_true, Bool.true_and, seg, setSeg, List.drop_succ_cons, List.drop_zero, List.take_succ_cons, List.take_zero, List.cons_append, List.nil_append, List.append_nil, List.length_cons, List.length_nil, List.drop_nil, List.size_toArray, Nat.reduceAdd, Nat.reduceLeDiff, Nat.reduceBEq, Nat.zero_add, Nat.le_refl, decide_true, mkV, List.headD_cons, cellsV, w_fldV, w_ext, w_fldP, List.getElem?_toArray, List.getElem?_cons_zero, List.getElem?_cons_succ, beq_self_eq_true, selV]
      rw [wrap_i64 (x := (i : Int) + (vs.length : Int)) (by unfold i64; omega), show (i : Int) + (vs.length : Int) = ((i + vs.length : Nat) : Int) by omega]
      refine sl_pc (k := H.size) (j := 0) (lo := i + vs.length) (hi := xs.length + vs.length) (cap := nc) (fun _ => by simp) (fun x hx => by cases hx; rfl) (by omega) (by omega) optI_some optI_none optI_none fun d3 a3 e3 p3 s3 => ?_
      subst e3
      refine sl_pc (k := k) (j := 0) (lo := i) (hi := xs.length) ha0 hs0 (by omega) (by omega) optI_some optI_none optI_none fun d4 a4 e4 p4 s4 => ?_
      subst e4
      have ew : (css.take i ++ z1 ++ z2).take i ++ vs ++ (css.take i ++ z1 ++ z2).drop (i + vs.length) = css.take i ++ vs ++ (z1.drop vs.length ++ z2) := by
        rw [List.append_assoc (css.take i), List.take_append_of_le_length (by omega), List.take_of_length_le (by omega), List.drop_append, List.drop_eq_nil_of_le (as := css.take i) (by omega), hi1, List.nil_append, show i + vs.length - i = vs.length by omega,
          List.drop_append_of_le_length (by omega)]
      rw [ew] at w2
      have hrw' := (hrw.up g1 trivial).up f2 (show k ≠ H.size by omega)
      have hdl : (css.drop i).length = xs.length - i := by rw [List.length_drop]; omega
      refine cp_pc (l := xs.length - i) (css := css.drop i) w2 hn0 (fun hp => by simpa using p3 (by omega)) (by omega) (by simp [q1, q4, hi1]; omega) (fun c hc => hcn c (List.mem_of_mem_drop hc)) hdl (fun K hK => ?_) fun H3 w3 f3 sz3 => ?_
      · have edr : ((css ++ rest).drop i).take (xs.length - i) = css.drop i := by rw [List.drop_append_of_le_length (by omega), List.take_append_of_le_length (by omega), List.take_of_length_le (by omega)]
        exact hrw'.src (i := i) (by omega) (fun hp => by simpa using p4 (by omega)) (by rw [edr]; exact flat_okc fun c hc => hokc c (List.mem_of_mem_drop hc)) (by rw [edr]; exact hK)
      have ew2 : (css.take i ++ vs ++ (z1.drop vs.length ++ z2)).take (i + vs.length) ++ css.drop i ++ (css.take i ++ vs ++ (z1.drop vs.length ++ z2)).drop (i + vs.length + (xs.length - i)) = (css.take i ++ vs ++ css.drop i) ++ z2 := by
        have hiv : (css.take i ++ vs).length = i + vs.length := by rw [List.length_append, hi1]
        rw [List.take_append_of_le_length (by omega), List.take_of_length_le (by omega), List.drop_append, List.drop_eq_nil_of_le (as := css.take i ++ vs) (by omega), List.nil_append, hiv, List.drop_append (l₁ := z1.drop vs.length), List.drop_eq_nil_of_le (as := z1.drop vs.length) (by rw [List.length_drop, q1]; omega), List.nil_append]
        congr 1
        have : i + vs.length + (xs.length - i) - (i + vs.length) - (z1.drop vs.length).length = 0 := by simp [q1]; omega
        rw [this]; rfl
      rw [ew2] at w3
      have g3 : G H H3 := (g1.then f2 fun y hy => by omega).then f3 fun y hy => by omega
      have hcl : (css.take i ++ vs ++ css.drop i).length = xs.length + vs.length := by simp [hi1, hdl]; omega
      have hil : (insL xs i ys).length = xs.length + vs.length := by simp [insL]; omega
      have := w3.ow (R := R) (A := fun y => (A y ∨ A' y) ∧ y < H.size) (xs := insL xs i ys) hn (by omega) (rel_ins hl hl2 hi
        (fun j cs x hc hx => R.fr (hr j cs x hc hx) fun y hy hlt => ⟨⟨.inl hy, hlt⟩, g3.same y hlt trivial⟩) (fun j cs x hc hx => R.fr (hr2 j cs x hc hx) fun y hy hlt => ⟨⟨.inr hy, hlt⟩, g3.same y hlt trivial⟩))
      have hc2 : xs.length + vs.length + z2.length = nc := by omega
      rw [hcl, hc2] at this
      exact hQ _ _ _ this g3.fr (.inr rfl)
    · -- there is room
      rw [show (xs.length : Int) + (vs.length : Int) = ((xs.length + vs.length : Nat) : Int) by omega]
      refine sl_pc (k := k) (j := 0) (lo := 0) (hi := xs.length + vs.length) ha0 hs0 (by omega) (by omega) optI_none optI_some optI_none fun d1 a1 e1 p1 s1 => ?_
      subst e1
      try simp only [sv_cons, sv_cons1, sc_cons, sc_cons1, asB_bool, ifB_true, ifB_false, un_not, bin_lss, bin_leq, bin_gtr, bin_geq, bin_eql, bin_neq, bin_add, bin_sub, bin_mul, ok_int, ok_bool, ok_slice, ok_str, ok_ptr, ok_map, ok_func, ok_iface, ok_nil, List.all_cons, List.all_nil, Bool.and_true, Bool.true_and, seg, setSeg, List.drop_succ_cons, List.drop_zero, List.take_succ_cons, List.take_zero, List.cons_append, List.nil_append, List.append_nil, List.length_cons, List.length_nil, List.drop_nil, List.size_toArray, Nat.reduceAdd, Nat.reduceLeDiff, Nat.reduceBEq, Nat.zero_add, Nat.le_refl, decide_true, mkV, List.headD_cons, cellsV, w_fldV, w_ext, w_fldP, List.getElem?_toArray, List.getElem?_cons_zero, List.getElem?_cons_succ, beq_self_eq_true, selV]
      rw [wrap_i64 (x := (i : Int) + (vs.length : Int)) (by unfold i64; omega), show (i : Int) + (vs.length : Int) = ((i + vs.length : Nat) : Int) by omega]
      have p1' : 0 < css.length + rest.length - 0 → a1 = some ⟨k, 0 * n, none⟩ := fun hp => by simpa using p1 hp
      refine sl_pc (k := k) (j := 0) (lo := i + vs.length) (hi := xs.length + vs.length) (cap := css.length + rest.length - 0) p1' s1 (by omega) (by omega) optI_some (by simpa using optI_none) optI_none fun d2 a2 e2 p2 s2 => ?_
      obtain rfl : a2 = some ⟨k, (i + vs.length) * n, none⟩ := by simpa using p2 (by omega)
      subst e2
      have hk1 := hrw.2
      have hk2 := hrw2.2
      obtain ⟨ee1, hk1⟩ := hk1
      obtain ⟨ee2, hk2⟩ := hk2
      refine hov k2 k 0 _ _ _ _ _ _ _ _ _ _ hk2 hk1 hne ?_ ?_
      · have := hrw.len
        rw [List.size_toArray, this, hlen]
        have : 1 * 1 ≤ (css.length + rest.length) * n := Nat.mul_le_mul (by omega) hn0
        omega
      try simp only [sv_cons, sv_cons1, sc_cons, sc_cons1, asB_bool, ifB_true, ifB_false, un_not, bin_lss, bin_leq, bin_gtr, bin_geq, bin_eql, bin_neq, bin_add, bin_sub, bin_mul, ok_int, ok_bool, ok_slice, ok_str, ok_ptr, ok_map, ok_func, ok_iface, ok_nil, List.all_cons, List.all_nil, Bool.and_true, Bool.true_and, seg, setSeg, List.drop_succ_cons, List.drop_zero, List.take_succ_cons, List.take_zero, List.cons_append, List.nil_append, List.append_nil, List.length_cons, List.length_nil, List.drop_nil, List.size_toArray, Nat.reduceAdd, Nat.reduceLeDiff, Nat.reduceBEq, Nat.zero_add, Nat.le_refl, decide_true, mkV, List.headD_cons, cellsV, w_fldV, w_ext, w_fldP, List.getElem?_toArray, List.getElem?_cons_zero, List.getElem?_cons_succ, beq_self_eq_true, selV, Bool.not_false]
      refine sl_pc (k := k) (j := 0) (lo := i + vs.length) (hi := xs.length + vs.length) (cap := css.length + rest.length - 0) p1' s1 (by omega) (by omega) optI_some (by simpa using optI_none) optI_none fun d3 a3 e3 p3 s3 => ?_
      subst e3
      refine sl_pc (k := k) (j := 0) (lo := i) (hi := xs.length + vs.length) (cap := css.length + rest.length - 0) p1' s1 (by omega) (by omega) optI_some (by simpa using optI_none) optI_none fun d4 a4 e4 p4 s4 => ?_
      subst e4
      have hdl : (css.drop i).length = xs.length - i := by rw [List.length_drop]; omega
      have hi1 : (css.take i).length = i := by rw [List.length_take]; omega
      have edr : ((css ++ rest).drop i).take (xs.length - i) = css.drop i := by rw [List.drop_append_of_le_length (by omega), List.take_append_of_le_length (by omega), List.take_of_length_le (by omega)]
      refine cp_pc (l := xs.length - i) (css := css.drop i) hrw hn0 (fun hp => by simpa using p3 (by omega)) (by omega) (by omega) (fun c hc => hcn c (List.mem_of_mem_drop hc)) hdl (fun K hK => ?_) fun H2 w2 f2 sz2 => ?_
      · exact hrw.src (i := i) (by omega) (fun hp => by simpa using p4 (by omega)) (by rw [edr]; exact flat_okc fun c hc => hokc c (List.mem_of_mem_drop hc)) (by rw [edr]; exact hK)
      refine sl_pc (k := k) (j := 0) (lo := i) (hi := xs.length + vs.length) (cap := css.length + rest.length - 0) p1' s1 (by omega) (by omega) optI_some (by simpa using optI_none) optI_none fun d5 a5 e5 p5 s5 => ?_
      subst e5
      refine cp_pc (l := vs.length) (css := vs) w2 hn0 (fun hp => by simpa using p5 (by omega)) (by omega) (by simp; omega) hvn rfl (fun K hK => vsrc (hrw2.up f2 hne) K hK) fun H3 w3 f3 sz3 => ?_
      have hlr : vs.length ≤ rest.length := by omega
      have ew : (((css ++ rest).take (i + vs.length) ++ css.drop i ++ (css ++ rest).drop (i + vs.length + (xs.length - i))).take i ++ vs ++
          ((css ++ rest).take (i + vs.length) ++ css.drop i ++ (css ++ rest).drop (i + vs.length + (xs.length - i))).drop (i + vs.length)) = (css.take i ++ vs ++ css.drop i) ++ rest.drop vs.length := by
        have e5 : ((css ++ rest).take (i + vs.length)).length = i + vs.length := by rw [List.length_take, hlen]; omega
        have e6 : (css ++ rest).drop (i + vs.length + (xs.length - i)) = rest.drop vs.length := by
          rw [List.drop_append, List.drop_eq_nil_of_le (as := css) (by omega), List.nil_append]; congr 1; omega
        rw [List.append_assoc ((css ++ rest).take _), List.take_append_of_le_length (by omega), List.take_take, show min i (i + vs.length) = i by omega, List.take_append_of_le_length (by omega), List.drop_append, List.drop_eq_nil_of_le (by omega), List.nil_append, e5,
          show i + vs.length - (i + vs.length) = 0 by omega, List.drop_zero, e6, List.append_assoc, List.append_assoc, List.append_assoc]
      rw [ew] at w3
      have f23 : Fr (fun y => y ≠ k) H H3 := Fr.trans f2 f3 fun y _ hy => ⟨hy, hy⟩
      have hcl : (css.take i ++ vs ++ css.drop i).length = xs.length + vs.length := by simp [hi1, hdl]; omega
      have hil : (insL xs i ys).length = xs.length + vs.length := by simp [insL]; omega
      have := w3.ow (R := R) (A := fun y => (A y ∨ A' y) ∧ y < H.size) (xs := insL xs i ys) hn (by omega) (rel_ins hl hl2 hi
        (fun j cs x hc hx => R.fr (hr j cs x hc hx) fun y hy hlt => ⟨⟨.inl hy, hlt⟩, f23.same y hlt (hA y hlt (.inl hy))⟩) (fun j cs x hc hx => R.fr (hr2 j cs x hc hx) fun y hy hlt => ⟨⟨.inr hy, hlt⟩, f23.same y hlt (hA y hlt (.inr hy))⟩))
      have hc2 : xs.length + vs.length + (rest.drop vs.length).length = css.length + rest.length := by rw [List.length_drop]; omega
      rw [hcl, hc2] at this
      have hc3 : css.length + rest.length - 0 = css.length + rest.length := by omega
      have ea1 : a1 = some ⟨k, 0, none⟩ := by simpa using p1 (by omega)
      have el1 : xs.length + vs.length - 0 = xs.length + vs.length := by omega
      rw [ea1, hc3, el1]
      exact hQ _ _ _ this (f23.mono fun y hy hne' => by omega) (.inl rfl)

/-! ### slices.Delete -/

def DelPT (e n bytes : Nat) (z : List Value) (x0 x1 x2 : Value) (H : Heap) (Q : Value → Heap → Prop) : Prop :=
  lenSl x0 H fun t12 =>
  slS n x0 (some x1) (some x2) (some t12) fun t13 =>
  binV (.int .i64) .eql x1 x2 fun t16 =>
  asB t16 fun b16 =>
  ifB b16 (
  Q x0 H) (
  lenSl x0 H fun t19 =>
  slS n x0 none (some x1) none fun t22 =>
  slS n x0 (some x2) none none fun t25 =>
  appS e n bytes z t22 t25 H fun t26 H =>
  lenSl t26 H fun t29 =>
  slS n t26 (some t29) (some t19) none fun t31 =>
  clrS z t31 H fun _t H =>
  Q t26 H)

def delL (xs : List α) (i j : Nat) : List α := xs.take i ++ xs.drop j

theorem del_of {e bytes b i j : Nat} {z : List Value} {v : Value} {xs : List α} {Q : Value → Heap → Prop} (h : Ow R H b A v xs) (hn : R.n = n) (hn0 : 0 < n) (hz : z.length = n) (hij : i < j) (hj : j ≤ xs.length)
    (hd : ∀ y, A y → y < H.size → y + 1 ≠ b) (hQ : ∀ w H', Ow R H' b A w (delL xs i j) → Fr (fun y => y + 1 ≠ b) H H' → Q w H') :
    DelPT e n bytes z v (.int .i64 (i : Int)) (.int .i64 (j : Int)) H Q := by
  rcases h.rw hn with ⟨_, rfl, _⟩ | ⟨k, css, rest, rfl, rfl, hl, hr, hrw⟩
  · simp at hj; omega
  have hokc := rel_okc hl hr
  have hcn : ∀ c ∈ css, c.length = n := fun c hc => hrw.1 c (List.mem_append_left _ hc)
  have hlen : (css ++ rest).length = css.length + rest.length := List.length_append
  unfold DelPT
  unfold lenSl lenV
  simp only
  have ha0 : 0 < css.length + rest.length → some (⟨k, 0, none⟩ : Addr) = some ⟨k, 0 * n, none⟩ := fun _ => by simp
  have hs0 : ∀ x, some (⟨k, 0, none⟩ : Addr) = some x → x.spot = none := fun x hx => by cases hx; rfl
  have hslS3 : ∀ K : Value → Prop, (∀ d, K d) → slS n (.slice (some ⟨k, 0, none⟩) css.length (css.length + rest.length)) (some (.int .i64 (i : Int))) (some (.int .i64 (j : Int))) (some (.int .i64 (css.length : Int))) K := fun K hK => by
    unfold slS optI asI
    exact ⟨⟨by omega, by omega, by omega, by omega, fun x hx => by cases hx; rfl⟩, hK _⟩
  refine hslS3 _ fun _ => ?_
  try simp only [sv_cons, sv_cons1, sc_cons, sc_cons1, asB_bool, ifB_true, ifB_false, un_not, bin_lss, bin_leq, bin_gtr, bin_geq, bin_eql, bin_neq, bin_add, bin_sub, bin_mul, ok_int, ok_bool, ok_slice, ok_str, ok_ptr, ok_map, ok_func, ok_iface, ok_nil, List.all_cons, List.all_nil, Bool.and_true, Bool.true_and, seg, setSeg, List.drop_succ_cons, List.drop_zero, List.take_succ_cons, List.take_zero, List.cons_append, List.nil_append, List.append_nil, List.length_cons, List.length_nil, List.drop_nil, List.size_toArray, Nat.reduceAdd, Nat.reduceLeDiff, Nat.reduceBEq, Nat.zero_add, Nat.le_refl, decide_true, mkV, List.headD_cons, cellsV, w_fldV, w_ext, w_fldP, List.getElem?_toArray, List.getElem?_cons_zero, List.getElem?_cons_succ, beq_self_eq_true, selV]
  refine ifD_of (fun h0 => by omega) (fun _ => ?_)
  refine sl_pc (k := k) (j := 0) (lo := 0) (hi := i) ha0 hs0 (by omega) (by omega) optI_none optI_some optI_none fun d1 a1 e1 p1 s1 => ?_
  subst e1
  obtain rfl : a1 = some ⟨k, 0, none⟩ := by simpa using p1 (by omega)
  refine sl_pc (k := k) (j := 0) (lo := j) (hi := css.length) ha0 hs0 (by omega) (by omega) optI_some optI_none optI_none fun d2 a2 e2 p2 s2 => ?_
  subst e2
  have hdl : (css.drop j).length = css.length - j := by rw [List.length_drop]
  have hdn : ∀ c ∈ css.drop j, c.length = n := fun c hc => hcn c (List.mem_of_mem_drop hc)
  have hi1 : (css.take i).length = i := by rw [List.length_take]; omega
  -- behind the append
  have key : ∀ (H2 : Heap) (rest2 : List (List Value)), Rw H2 k n (css.take i ++ css.drop j ++ rest2) → rest2.length = j - i + rest.length → Fr (fun y => y ≠ k) H H2 → H2.size = H.size →
      lenSl (.slice (some ⟨k, 0, none⟩) (i - 0 + (css.length - j)) (css.length + rest.length - 0)) H2 fun t29 =>
      slS n (.slice (some ⟨k, 0, none⟩) (i - 0 + (css.length - j)) (css.length + rest.length - 0)) (some t29) (some (.int .i64 (css.length : Int))) none fun t31 =>
      clrS z t31 H2 fun _t H' => Q (.slice (some ⟨k, 0, none⟩) (i - 0 + (css.length - j)) (css.length + rest.length - 0)) H' := by
    intro H2 rest2 w2 hr2 f2 sz2
    unfold lenSl lenV
    simp only
    have el : i - 0 + (css.length - j) = i + (css.length - j) := by omega
    have ec : css.length + rest.length - 0 = css.length + rest.length := by omega
    rw [el, ec]
    refine sl_pc (k := k) (j := 0) (lo := i + (css.length - j)) (hi := css.length) (cap := css.length + rest.length) ha0 hs0 (by omega) (by omega) optI_some optI_some optI_none fun d3 a3 e3 p3 s3 => ?_
    subst e3
    unfold clrS
    obtain ⟨zs, q1, q2, q3⟩ := chunk n (css.length - (i + (css.length - j))) (zcells z ((css.length - (i + (css.length - j))) * z.length)) (by simp [zcells, hz])
    obtain ⟨w1, w3, f3, sz3⟩ := w2.write (i := i + (css.length - j)) q2 (by simp [hi1, hdl, q1, hr2]; omega)
    obtain ⟨y, ys, hy⟩ : ∃ y ys, zs.flatten = y :: ys := by
      cases hf : zs.flatten with
      | nil =>
        have := flat_len q2
        rw [hf, q1] at this
        have h2 : 1 * 1 ≤ (css.length - (i + (css.length - j))) * n := Nat.mul_le_mul (by omega) hn0
        simp at this
        omega
      | cons y ys => exact ⟨y, ys, rfl⟩
    simp only
    rw [← q3, hy]
    obtain rfl : a3 = some ⟨k, (i + (css.length - j)) * n, none⟩ := by simpa using p3 (by omega)
    simp only
    rw [hy] at w1 w3 f3 sz3
    refine ⟨w1, ?_⟩
    have ew : (css.take i ++ css.drop j ++ rest2).take (i + (css.length - j)) ++ zs ++ (css.take i ++ css.drop j ++ rest2).drop (i + (css.length - j) + zs.length) = (css.take i ++ css.drop j) ++ (zs ++ rest2.drop zs.length) := by
      have e1 : (css.take i ++ css.drop j).length = i + (css.length - j) := by rw [List.length_append, hi1, hdl]
      rw [List.take_append_of_le_length (by omega), List.take_of_length_le (by omega), List.drop_append, List.drop_eq_nil_of_le (as := css.take i ++ css.drop j) (by omega), List.nil_append, e1, show i + (css.length - j) + zs.length - (i + (css.length - j)) = zs.length by omega, List.append_assoc]
    rw [ew] at w3
    generalize setCells H2 k ((i + (css.length - j)) * n) (y :: ys) = H3 at w3 f3 sz3
    have f23 : Fr (fun y => y ≠ k) H H3 := Fr.trans f2 f3 fun y _ hy => ⟨hy, hy⟩
    have e1 : (css.take i ++ css.drop j).length = i + (css.length - j) := by rw [List.length_append, hi1, hdl]
    have hrel : ∀ (m : Nat) cs x, (css.take i ++ css.drop j)[m]? = some cs → (delL xs i j)[m]? = some x → R.rel H3 A cs x := by
      intro m cs x hc hx
      unfold delL at hx
      have hi2 : (xs.take i).length = i := by rw [List.length_take]; omega
      have up : R.rel H A cs x → R.rel H3 A cs x := fun hrl => R.fr hrl fun y hy hlt => ⟨hy, f23.same y hlt (by have := hd y hy hlt; omega)⟩
      rw [List.getElem?_append] at hc hx
      rw [hi1] at hc
      rw [hi2] at hx
      split at hc
      · rename_i hm
        rw [if_pos hm] at hx
        rw [List.getElem?_take, if_pos hm] at hc hx
        exact up (hr m cs x hc hx)
      · rename_i hm
        rw [if_neg hm] at hx
        rw [List.getElem?_drop] at hc hx
        exact up (hr _ cs x hc hx)
    have := w3.ow (R := R) (A := A) (xs := delL xs i j) hn (by rw [e1]; simp [delL]; omega) hrel
    have hc2 : i + (css.length - j) + (zs ++ rest2.drop zs.length).length = css.length + rest.length := by
      rw [List.length_append, List.length_drop, hr2, q1]; omega
    rw [e1, hc2] at this
    exact hQ _ _ this (f23.mono fun y hy hne' => by omega)
  unfold appS
  simp only
  have edr : ((css ++ rest).drop j).take (css.length - j) = css.drop j := by rw [List.drop_append_of_le_length (by omega), List.take_append_of_le_length (by omega), List.take_of_length_le (by omega)]
  refine hrw.src (i := j) (by omega) (fun hp => by simpa using p2 (by omega)) (by rw [edr]; exact flat_okc fun c hc => hokc c (List.mem_of_mem_drop hc)) ?_
  rw [edr, if_pos (by omega)]
  have hrest : (css.take i ++ css.drop i ++ rest) = css ++ rest := by rw [List.take_append_drop]
  split
  · rename_i hnil
    have hz0 : css.drop j = [] := by
      have := flat_len hdn
      rw [hnil, hdl] at this
      have h2 : (css.length - j) * n = 0 := by simpa using this.symm
      rcases Nat.mul_eq_zero.1 h2 with h3 | h3
      · exact List.length_eq_zero_iff.1 (by omega)
      · omega
    refine key H (css.drop i ++ rest) ?_ ?_ (Fr.refl _ _) rfl
    · rw [hz0, List.append_nil, ← List.append_assoc, hrest]; exact hrw
    · have : css.length - j = 0 := by rw [← hdl, hz0]; rfl
      rw [List.length_append, List.length_drop]; omega
  · rename_i y ys hy
    obtain ⟨w1, w2, f2, sz2⟩ := hrw.write (i := i) hdn (by omega)
    rw [hy] at w1 w2 f2 sz2
    have e0 : 0 + (i - 0) * n = i * n := by rw [Nat.zero_add, Nat.sub_zero]
    rw [e0]
    refine ⟨w1, key _ ((css ++ rest).drop (i + (css.drop j).length)) ?_ ?_ f2 sz2⟩
    · rw [List.take_append_of_le_length (by omega)] at w2; exact w2
    · rw [List.length_drop, hlen, hdl]; omega

end Go.Ab
