/- What lies in the heap, said plainly: slices that may be read, slices that are the function's own; what may be concluded of the pieces of the shallow forms. -/
import Derived.Test.YtlmpjhbfgakgdaaDoorAbAwp
namespace Go.Ab
set_option linter.unusedVariables false
set_option linter.unusedSimpArgs false

/-! ### Pieces with known values -/

theorem lenSl_mk {a : Option Addr} {n c : Nat} {H : Heap} {k : Value → Prop} (h : k (.int .i64 (n : Int))) : lenSl (.slice a n c) H k := h
theorem asB_mk {b : Bool} {k : Bool → Prop} (h : k b) : asB (.bool b) k := h
theorem ifB_of {b : Bool} {A B : Prop} (ht : b = true → A) (hf : b = false → B) : ifB b A B := by cases b <;> simp_all [ifB]
theorem ifD_of {p : Prop} [Decidable p] {A B : Prop} (ht : p → A) (hf : ¬ p → B) : ifB (decide p) A B := by
  by_cases h : p <;> simp_all [ifB]
theorem ext0 {vs : Array Value} {i : Nat} {v : Value} {k : Value → Prop} (hv : vs[i]? = some v) (h : k v) : extractV i (.tuple vs) k := by
  simp only [extractV, hv]; exact h

@[simp] theorem lenSl_slice (a : Option Addr) (n c : Nat) (H : Heap) (k : Value → Prop) : lenSl (.slice a n c) H k = k (.int .i64 (n : Int)) := rfl
@[simp] theorem asB_bool (b : Bool) (k : Bool → Prop) : asB (.bool b) k = k b := rfl
@[simp] theorem ifB_true (A B : Prop) : ifB true A B = A := rfl
@[simp] theorem ifB_false (A B : Prop) : ifB false A B = B := rfl
@[simp] theorem sv_cons (v : Value) (s : List (List Value)) : sv ([v] :: s) 0 = v := rfl
@[simp] theorem sv_cons1 (l : List Value) (s : List (List Value)) (j : Nat) : sv (l :: s) (j + 1) = sv s j := rfl
@[simp] theorem sc_cons (l : List Value) (s : List (List Value)) : sc (l :: s) 0 = l := rfl
@[simp] theorem sc_cons1 (l : List Value) (s : List (List Value)) (j : Nat) : sc (l :: s) (j + 1) = sc s j := rfl

@[simp] theorem bin_lss (q : IntKind) (a b : Int) (k : Value → Prop) : binV (.int q) .lss (.int q a) (.int q b) k = k (.bool (decide (a < b))) := by simp [binV, binR, intR]
@[simp] theorem bin_leq (q : IntKind) (a b : Int) (k : Value → Prop) : binV (.int q) .leq (.int q a) (.int q b) k = k (.bool (decide (a ≤ b))) := by simp [binV, binR, intR]
@[simp] theorem bin_gtr (q : IntKind) (a b : Int) (k : Value → Prop) : binV (.int q) .gtr (.int q a) (.int q b) k = k (.bool (decide (a > b))) := by simp [binV, binR, intR]
@[simp] theorem bin_geq (q : IntKind) (a b : Int) (k : Value → Prop) : binV (.int q) .geq (.int q a) (.int q b) k = k (.bool (decide (a ≥ b))) := by simp [binV, binR, intR]
@[simp] theorem bin_eql (q : IntKind) (a b : Int) (k : Value → Prop) : binV (.int q) .eql (.int q a) (.int q b) k = k (.bool (decide (a = b))) := by
  simp only [binV, binR, intR, if_true, beq_iff_eq]
  congr 2
@[simp] theorem bin_neq (q : IntKind) (a b : Int) (k : Value → Prop) : binV (.int q) .neq (.int q a) (.int q b) k = k (.bool (decide (a ≠ b))) := by
  simp only [binV, binR, intR, if_true]
  rw [show (a != b) = decide (a ≠ b) from by by_cases h : a = b <;> simp [h]]
@[simp] theorem bin_add (q : IntKind) (a b : Int) (k : Value → Prop) : binV (.int q) .add (.int q a) (.int q b) k = k (.int q (q.wrap (a + b))) := by simp [binV, binR, intR]
@[simp] theorem bin_sub (q : IntKind) (a b : Int) (k : Value → Prop) : binV (.int q) .sub (.int q a) (.int q b) k = k (.int q (q.wrap (a - b))) := by simp [binV, binR, intR]
@[simp] theorem bin_mul (q : IntKind) (a b : Int) (k : Value → Prop) : binV (.int q) .mul (.int q a) (.int q b) k = k (.int q (q.wrap (a * b))) := by simp [binV, binR, intR]
@[simp] theorem un_not (b : Bool) (k : Value → Prop) : unV .not (.bool b) k = k (.bool !b) := by simp [unV, unR]

theorem wrap_succ {i : Nat} (h : i < 9223372036854775807) : IntKind.i64.wrap ((i : Int) + 1) = ((i + 1 : Nat) : Int) := by
  simp only [IntKind.wrap, IntKind.bits, IntKind.signed]
  simp
  omega

/-! ### What stays -/

structure Same (m : Nat) (H H' : Heap) : Prop where
  size : H.size ≤ H'.size
  same : ∀ b, b < m → H'[b]? = H[b]?

theorem Same.refl (m : Nat) (H : Heap) : Same m H H := ⟨Nat.le_refl _, fun _ _ => rfl⟩
theorem Same.trans {m m' : Nat} {H H1 H2 : Heap} (h : Same m H H1) (h' : Same m' H1 H2) (hm : m ≤ m') : Same m H H2 :=
  ⟨Nat.le_trans h.size h'.size, fun b hb => (h'.same b (by omega)).trans (h.same b hb)⟩
theorem Same.mono {m m' : Nat} {H H1 : Heap} (h : Same m H H1) (hm : m' ≤ m) : Same m' H H1 := ⟨h.size, fun b hb => h.same b (by omega)⟩
theorem Same.push {m : Nat} {H : Heap} (o : Obj) (hm : m ≤ H.size) : Same m H (H.push o) :=
  ⟨by simp, fun b hb => by rw [Array.getElem?_push]; rw [if_neg (by omega)]⟩

/-- A slice whose elements' cells are told. -/
def Rd (H : Heap) (m n : Nat) (v : Value) (xs : List Value) : Prop :=
  ∃ a len cap, v = .slice a len cap ∧ xs.length = len * n ∧ xs.all okc = true ∧ (xs = [] ∨ ∃ b o, a = some ⟨b, o, none⟩ ∧ b < m ∧ cellsAt H b o (len * n) = some xs)

/-- A slice of the function's own: its block is no older than m. -/
def Own (H : Heap) (m n : Nat) (v : Value) (xs : List Value) : Prop :=
  ∃ a len cap, v = .slice a len cap ∧ xs.length = len * n ∧ xs.all okc = true ∧ len ≤ cap ∧
    ((a = none ∧ cap = 0) ∨ ∃ b rest e, a = some ⟨b, 0, none⟩ ∧ m ≤ b ∧ H[b]? = some (.cells (xs ++ rest).toArray e (0, 0)) ∧ (xs ++ rest).length = cap * n)

theorem cellsAt_lt {H : Heap} {b o n : Nat} {xs : List Value} (h : cellsAt H b o n = some xs) : b < H.size := by
  unfold cellsAt at h
  split at h
  · rename_i hb; exact (Array.getElem?_eq_some_iff.1 hb).1
  · cases h

theorem Rd.up {H : Heap} {m m' n : Nat} {v : Value} {xs : List Value} (h : Rd H m n v xs) (hm : m ≤ m') : Rd H m' n v xs := by
  obtain ⟨a, len, cap, h1, h2, h3, h4⟩ := h
  exact ⟨a, len, cap, h1, h2, h3, h4.imp id fun ⟨b, o, h5, h6, h7⟩ => ⟨b, o, h5, by omega, h7⟩⟩

theorem Rd.turn {H H' : Heap} {m m' n : Nat} {v : Value} {xs : List Value} (h : Rd H m n v xs) (hs : Same m' H H') (hm : m ≤ m' ∨ H.size ≤ m') : Rd H' m n v xs := by
  obtain ⟨a, len, cap, h1, h2, h3, h4⟩ := h
  refine ⟨a, len, cap, h1, h2, h3, h4.imp id fun ⟨b, o, h5, h6, h7⟩ => ⟨b, o, h5, h6, ?_⟩⟩
  have hlt := cellsAt_lt h7
  unfold cellsAt at h7 ⊢
  rw [hs.same b (by omega)]
  exact h7

theorem Own.rd {H : Heap} {m n : Nat} {v : Value} {xs : List Value} (h : Own H m n v xs) : Rd H H.size n v xs := by
  obtain ⟨a, len, cap, h1, h2, h3, h4, h5⟩ := h
  refine ⟨a, len, cap, h1, h2, h3, ?_⟩
  rcases h5 with ⟨rfl, hc⟩ | ⟨b, rest, e, h6, h7, h8, h9⟩
  · have : len = 0 := by omega
    subst this
    exact .inl (List.length_eq_zero_iff.1 (by simpa using h2))
  · refine .inr ⟨b, 0, h6, (Array.getElem?_eq_some_iff.1 h8).1, ?_⟩
    unfold cellsAt
    rw [h8]
    simp only [List.size_toArray, List.length_append, Nat.zero_add]
    rw [if_pos (by omega)]
    simp [seg, ← h2]

theorem Own.turn {H H' : Heap} {m m' n : Nat} {v : Value} {xs : List Value} (h : Own H m n v xs) (hs : Same m' H H') (hm : H.size ≤ m') : Own H' m n v xs := by
  obtain ⟨a, len, cap, h1, h2, h3, h4, h5⟩ := h
  refine ⟨a, len, cap, h1, h2, h3, h4, h5.imp id fun ⟨b, rest, e, h6, h7, h8, h9⟩ => ⟨b, rest, e, h6, h7, ?_, h9⟩⟩
  have := (Array.getElem?_eq_some_iff.1 h8).1
  rw [hs.same b (by omega)]
  exact h8

theorem Own.down {H : Heap} {m m' n : Nat} {v : Value} {xs : List Value} (h : Own H m n v xs) (hm : m' ≤ m) : Own H m' n v xs := by
  obtain ⟨a, len, cap, h1, h2, h3, h4, h5⟩ := h
  exact ⟨a, len, cap, h1, h2, h3, h4, h5.imp id fun ⟨b, rest, e, h6, h7, h8, h9⟩ => ⟨b, rest, e, h6, by omega, h8, h9⟩⟩

theorem Own.nil (H : Heap) (m n : Nat) : Own H m n (.slice none 0 0) [] := ⟨none, 0, 0, rfl, by simp, rfl, Nat.le_refl _, .inl ⟨rfl, rfl⟩⟩
theorem Rd.nil (H : Heap) (m n c : Nat) (a : Option Addr) : Rd H m n (.slice a 0 c) [] := ⟨a, 0, c, rfl, by simp, rfl, .inl rfl⟩

/-- A slice's length. -/
theorem Rd.len {H H' : Heap} {m : Nat} {v : Value} {xs : List Value} {k : Value → Prop} (h : Rd H m 1 v xs) (hk : k (.int .i64 (xs.length : Int))) : lenSl v H' k := by
  obtain ⟨a, len, cap, rfl, h2, _⟩ := h
  rw [lenSl_slice, show (len : Int) = (xs.length : Int) from by omega]; exact hk

/-- An element is read. -/
theorem Rd.get {H : Heap} {m : Nat} {v : Value} {xs : List Value} {kd : IntKind} {j : Nat} {x : Value} {k : Value → Prop} (h : Rd H m 1 v xs) (hx : xs[j]? = some x) (hk : k x) :
    idxS 1 v (.int kd (j : Int)) fun p => loadP false 1 p H k := by
  obtain ⟨a, len, cap, rfl, h2, _, h4⟩ := h
  have hj : j < xs.length := (List.getElem?_eq_some_iff.1 hx).1
  rcases h4 with rfl | ⟨b, o, rfl, hb, hc⟩
  · simp at hj
  · refine ⟨⟨by omega, by omega⟩, ?_⟩
    unfold cellsAt at hc
    unfold loadP cellsAt
    split at hc
    · rename_i c e fr hbk
      split at hc
      · rename_i hle
        have hc := Option.some.inj hc
        simp only [hbk, Int.toNat_natCast]
        rw [if_pos (by omega)]
        simp only [mkV]
        have : c.toList[o + j * 1]? = some x := by
          rw [← hx, ← hc, seg_get (by omega)]; simp
        rw [show seg c.toList (o + j * 1) 1 = [x] from by
          apply List.ext_getElem?
          intro i
          cases i with
          | zero => rw [seg_get (by omega)]; simpa using this
          | succ i => simp [seg, List.getElem?_take]]
        exact hk
      · cases hc
    · cases hc

/-- What an append, a copy takes. -/
theorem Rd.src {H : Heap} {m n : Nat} {v : Value} {xs : List Value} {k : Nat → List Value → Prop} (hn : 0 < n) (h : Rd H m n v xs) (hk : ∀ len, xs.length = len * n → k len xs) : srcC n v H k := by
  obtain ⟨a, len, cap, rfl, h2, h3, h4⟩ := h
  rcases h4 with rfl | ⟨b, o, rfl, hb, hc⟩
  · have : len = 0 := by
      rcases Nat.mul_eq_zero.1 (by simpa using h2.symm) with h | h
      · exact h
      · omega
    subst this
    exact hk 0 (by simp)
  · cases len with
    | zero =>
      have : xs = [] := List.length_eq_zero_iff.1 (by simpa using h2)
      subst this
      exact hk 0 (by simp)
    | succ len =>
      unfold srcC
      simp only [hc]
      exact ⟨h3, hk _ h2⟩

/-- An append to a slice of the function's own. -/
theorem Own.app {H : Heap} {m n e bytes : Nat} {z : List Value} {s x : Value} {xs ys : List Value} {m' : Nat} {k : Value → Heap → Prop} (hn : 0 < n) (h : Own H m n s xs) (hx : Rd H m' n x ys) (hz : z.length = n) (hm : m ≤ H.size)
    (hbig : (xs.length + ys.length) * bytes ≤ 140737488355328) (hbig2 : xs.length + ys.length ≤ 9223372036854775807)
    (hk : ∀ v H', Own H' m n v (xs ++ ys) → Same m H H' → k v H') : appS e n bytes z s x H k := by
  have hrd := h.rd
  obtain ⟨a, len, cap, rfl, h2, h3, h4, h5⟩ := h
  unfold appS
  refine hx.src hn fun l hl => ?_
  have hall : (xs ++ ys).all okc = true := by
    obtain ⟨_, _, _, _, _, h, _⟩ := hx
    simp [List.all_append, h3, h]
  have hlen : (xs ++ ys).length = (len + l) * n := by simp [h2, hl, Nat.add_mul]
  split
  · rename_i hc
    split
    · -- nothing to append
      have : l = 0 := by
        rcases Nat.mul_eq_zero.1 (by simpa using hl.symm) with h | h
        · exact h
        · omega
      subst this
      refine hk _ _ ?_ (.refl _ _)
      rw [List.append_nil]
      exact ⟨a, len, cap, rfl, h2, h3, h4, h5⟩
    · rename_i x0 xs'
      rcases h5 with ⟨rfl, hc0⟩ | ⟨b, rest, e', rfl, h7, h8, h9⟩
      · exfalso
        have : l = 0 := by omega
        subst this; simp at hl
      · simp only
        have hfit : (len + l) * n ≤ cap * n := Nat.mul_le_mul_right _ hc
        have hrest : (x0 :: xs').length ≤ rest.length := by
          simp only [List.length_append] at h9
          rw [Nat.add_mul] at hfit
          omega
        refine ⟨?_, hk _ _ ⟨some ⟨b, 0, none⟩, len + l, cap, rfl, hlen, hall, hc, .inr ⟨b, rest.drop (x0 :: xs').length, e', rfl, h7, ?_, ?_⟩⟩ ?_⟩
        · unfold mayWrite
          rw [h8]
          refine ⟨rfl, ?_⟩
          simp only [List.size_toArray, List.length_append]
          omega
        · unfold setCells
          rw [Array.getElem?_modify, if_pos rfl, h8]
          simp only [Option.map_some, Option.some.injEq, Obj.cells.injEq, and_true]
          unfold setSeg
          rw [show 0 + len * n = xs.length from by omega, List.take_left, List.append_assoc, List.append_assoc]
          congr 1
          rw [List.append_cancel_left_eq, List.append_cancel_left_eq, List.drop_append]
          simp [List.drop_eq_nil_of_le]
        · simp only [List.length_append, List.length_drop] at h9 ⊢
          omega
        · refine ⟨by simp [setCells], fun b' hb' => ?_⟩
          unfold setCells
          rw [Array.getElem?_modify, if_neg (by omega)]
  · refine ⟨⟨?_, ?_, hz⟩, hrd.src hn fun l' hl' => ?_⟩
    · have h1 : len + l ≤ xs.length + ys.length := by
        rw [h2, hl]
        have := Nat.mul_le_mul_left len hn
        have := Nat.mul_le_mul_left l hn
        omega
      exact Nat.le_trans (Nat.mul_le_mul_right _ h1) hbig
    · have h1 : len + l ≤ xs.length + ys.length := by
        rw [h2, hl]
        have := Nat.mul_le_mul_left len hn
        have := Nat.mul_le_mul_left l hn
        omega
      omega
    · intro nc hnc hnc2
      unfold newC
      refine hk _ _ ⟨some ⟨H.size, 0, none⟩, len + l, nc, rfl, hlen, hall, hnc, .inr ⟨H.size, zcells z ((nc - (len + l)) * n), e, rfl, hm, by simp, ?_⟩⟩ (.push _ hm)
      simp only [List.length_append, zcells, List.length_map, List.length_range] at hlen ⊢
      rw [hlen, ← Nat.add_mul]
      congr 1
      omega

/-- An empty slice that is written out. -/
theorem bld0 {e n : Nat} {agg : Bool} {z : List Value} {H : Heap} {m : Nat} {k : Value → Heap → Prop} (hm : m ≤ H.size) (hk : ∀ v H', Own H' m n v [] → Same m H H' → k v H') :
    bldS e n agg z 0 [] H k := by
  unfold bldS fillV newC
  refine hk _ _ ⟨some ⟨H.size, 0, none⟩, 0, 0, rfl, by simp, rfl, Nat.le_refl _, .inr ⟨H.size, [], e, rfl, hm, ?_, by simp⟩⟩ (.push _ hm)
  simp [zcells]

/-- A slice of one value that is written out. -/
theorem bld1 {e : Nat} {z : List Value} {x : Value} {H : Heap} {m : Nat} {k : Value → Heap → Prop} (hm : m ≤ H.size) (hx : okc x = true) (hk : ∀ v H', Own H' m 1 v [x] → Same m H H' → k v H') :
    bldS e 1 false z 1 [(0, x)] H k := by
  unfold bldS fillV fillV newC
  simp only [cellsV, hx, ifB_true]
  rw [show decide (0 * 1 + 1 ≤ (zcells z (1 * 1)).length) = true from by simp [zcells]]
  refine hk _ _ ⟨some ⟨H.size, 0, none⟩, 1, 1, rfl, by simp, by simp [hx], Nat.le_refl _, .inr ⟨H.size, [], e, rfl, hm, ?_, by simp⟩⟩ (.push _ hm)
  simp [zcells, setSeg]

/-- A slice of zeros that is made. -/
theorem mk1 {e bytes : Nat} {z0 : Value} {n : Nat} {kd kd' : IntKind} {H : Heap} {m : Nat} {k : Value → Heap → Prop} (hm : m ≤ H.size) (hz : okc z0 = true)
    (hb : mkS e 1 bytes [z0] (.int kd (n : Int)) (.int kd' (n : Int)) H (fun _ _ => True)) (hk : ∀ v H', Own H' m 1 v (List.replicate n z0) → Same m H H' → k v H') :
    mkS e 1 bytes [z0] (.int kd (n : Int)) (.int kd' (n : Int)) H k := by
  unfold mkS asI at hb ⊢
  simp only at hb ⊢
  refine ⟨hb.1, ?_⟩
  unfold newC
  have hzc : zcells [z0] ((n : Int).toNat * 1) = List.replicate n z0 := by
    apply List.ext_getElem?
    intro i
    simp only [zcells, List.getElem?_map, List.length_singleton, Nat.mod_one, Int.toNat_natCast, Nat.mul_one, List.getElem?_replicate]
    by_cases hi : i < n
    · rw [List.getElem?_range hi]; simp [hi]
    · rw [List.getElem?_eq_none (by simp; omega)]; simp [hi]
  refine hk _ _ ⟨some ⟨H.size, 0, none⟩, n, n, by simp, by simp, by simp [hz], Nat.le_refl _, .inr ⟨H.size, [], e, rfl, hm, ?_, by simp⟩⟩ (.push _ hm)
  rw [hzc]
  simp

/-- An element of a slice of the function's own is written. -/
theorem Own.put {H : Heap} {m : Nat} {v : Value} {xs : List Value} {kd : IntKind} {j : Nat} {x : Value} {k : Heap → Prop} (h : Own H m 1 v xs) (hj : j < xs.length) (hx : okc x = true)
    (hk : ∀ H', Own H' m 1 v (xs.set j x) → Same m H H' → k H') : idxS 1 v (.int kd (j : Int)) fun p => storeP false 1 p x H k := by
  obtain ⟨a, len, cap, rfl, h2, h3, h4, h5⟩ := h
  rcases h5 with ⟨rfl, hc0⟩ | ⟨b, rest, e', rfl, h7, h8, h9⟩
  · exfalso; omega
  · refine ⟨⟨by omega, by omega⟩, ?_⟩
    unfold storeP
    simp only [cellsV, hx, ifB_true, Int.toNat_natCast, Nat.zero_add, Nat.mul_one]
    refine ⟨?_, hk _ ⟨some ⟨b, 0, none⟩, len, cap, rfl, by simpa using h2, ?_, h4, .inr ⟨b, rest, e', rfl, h7, ?_, by simpa using h9⟩⟩ ?_⟩
    · unfold mayWrite
      rw [h8]
      refine ⟨rfl, ?_⟩
      simp only [List.size_toArray, List.length_append]
      omega
    · rw [List.all_eq_true] at h3 ⊢
      intro y hy
      rcases List.mem_or_eq_of_mem_set hy with h | rfl
      · exact h3 y h
      · exact hx
    · unfold setCells
      rw [Array.getElem?_modify, if_pos rfl, h8]
      simp only [Option.map_some, Option.some.injEq, Obj.cells.injEq, and_true]
      congr 1
      apply List.ext_getElem?
      intro i
      simp only [setSeg, List.length_singleton, List.append_assoc]
      rcases Nat.lt_trichotomy i j with h | h | h
      · rw [List.getElem?_append_left (by simp; omega), List.getElem?_take, if_pos h, List.getElem?_append_left (by omega), List.getElem?_append_left (by simp; omega), List.getElem?_set_ne (by omega)]
      · subst h
        have hmin : min i (xs ++ rest).length = i := Nat.min_eq_left (by simp; omega)
        rw [List.getElem?_append_right (by rw [List.length_take, hmin]; exact Nat.le_refl _), List.length_take, hmin, Nat.sub_self, List.getElem?_append_left (by simp), List.getElem?_append_left (by simpa using hj), List.getElem?_set_self hj]
        rfl
      · rw [List.getElem?_append_right (by simp; omega), List.getElem?_append_right (by simp; omega)]
        simp only [List.length_take, List.length_append, List.length_singleton, List.getElem?_drop]
        rw [Nat.min_eq_left (by omega), show j + 1 + (i - j - 1) = i from by omega]
        by_cases hi : i < xs.length
        · rw [List.getElem?_append_left hi, List.getElem?_append_left (by simpa using hi), List.getElem?_set_ne (by omega)]
        · rw [List.getElem?_append_right (by omega), List.getElem?_append_right (by simp; omega)]; simp
    · refine ⟨by simp [setCells], fun b' hb' => ?_⟩
      unfold setCells
      rw [Array.getElem?_modify, if_neg (by omega)]

/-! ### Maps by whole numbers -/

def mOk (q : IntKind) (es : List MapEntry) (f : Int → Option Value) : Prop :=
  (∀ e ∈ es, ∃ a, e.key = .int q a) ∧ ∀ key, (Instr.findNow (.int q) (.int q key) es 0 = some none ∧ f key = none) ∨ ∃ i x, Instr.findNow (.int q) (.int q key) es 0 = some (some (i, x)) ∧ f key = some x

def MapO (H : Heap) (m : Nat) (q : IntKind) (v : Value) (f : Int → Option Value) : Prop :=
  ∃ r es cl, v = .map (some r) ∧ m ≤ r ∧ H[r]? = some (.map es cl) ∧ mOk q es.toList f

theorem MapO.turn {H H' : Heap} {m m' : Nat} {q : IntKind} {v : Value} {f : Int → Option Value} (h : MapO H m q v f) (hs : Same m' H H') (hm : H.size ≤ m') : MapO H' m q v f := by
  obtain ⟨r, es, cl, h1, h2, h3, h4⟩ := h
  have := (Array.getElem?_eq_some_iff.1 h3).1
  exact ⟨r, es, cl, h1, h2, by rw [hs.same r (by omega)]; exact h3, h4⟩

theorem mkM_of {H : Heap} {m : Nat} {q : IntKind} {k : Value → Heap → Prop} (hm : m ≤ H.size) (hk : ∀ v H', MapO H' m q v (fun _ => none) → Same m H H' → k v H') : mkM H k :=
  hk _ _ ⟨H.size, #[], 0, rfl, hm, by simp, by simp, fun key => .inl ⟨by simp [Instr.findNow], rfl⟩⟩ (.push _ hm)

theorem MapO.get {H : Heap} {m : Nat} {q : IntKind} {v z : Value} {f : Int → Option Value} {key : Int} {k : Value → Bool → Prop} (h : MapO H m q v f) (hk : k ((f key).getD z) (f key).isSome) :
    getM q z v (.int q key) H k := by
  obtain ⟨r, es, cl, rfl, h2, h3, h4⟩ := h
  unfold getM
  simp only [h3]
  rcases h4.2 key with ⟨h, hf⟩ | ⟨i, x, h, hf⟩
  · rw [h]; simpa [hf] using hk
  · rw [h]; simpa [hf] using hk

theorem findNow_mod {q : IntKind} {key : Int} {v x : Value} (key' : Int) : ∀ {es : List MapEntry} {s j : Nat}, (∀ e ∈ es, ∃ a, e.key = .int q a) → Instr.findNow (.int q) (.int q key) es s = some (some (j, v)) →
    s ≤ j ∧ Instr.findNow (.int q) (.int q key') (es.modify (j - s) fun e => { e with key := .int q key, val := x }) s = if key' = key then some (some (j, x)) else Instr.findNow (.int q) (.int q key') es s
  | [], s, j, _, h => by simp [Instr.findNow] at h
  | e :: es, s, j, hw, h => by
    obtain ⟨a, ha⟩ := hw e (by simp)
    unfold Instr.findNow at h
    simp only [ha, Instr.sameNow, if_true] at h
    by_cases hka : key = a
    · subst hka
      simp only [beq_self_eq_true, Option.some.injEq, Prod.mk.injEq] at h
      obtain ⟨rfl, rfl⟩ := h
      refine ⟨Nat.le_refl _, ?_⟩
      simp only [Nat.sub_self, List.modify_zero_cons]
      unfold Instr.findNow
      simp only [ha, Instr.sameNow, if_true]
      by_cases hk : key' = key
      · subst hk; simp
      · rw [if_neg hk]
        have : (key' == key) = false := by simpa using hk
        simp [this]
    · have hf : (key == a) = false := by simpa using hka
      simp only [hf] at h
      obtain ⟨h1, h2⟩ := findNow_mod key' (x := x) (fun e he => hw e (by simp [he])) h
      refine ⟨by omega, ?_⟩
      rw [show j - s = (j - (s + 1)) + 1 from by omega, List.modify_succ_cons]
      unfold Instr.findNow
      simp only [ha, Instr.sameNow, if_true]
      by_cases hk : key' = a
      · subst hk
        have : ¬ key' = key := fun e => hka e.symm
        simp [this]
      · have : (key' == a) = false := by simpa using hk
        simp only [this]
        exact h2

theorem findNow_push {q : IntKind} {key a : Int} {x : MapEntry} (ha : x.key = .int q a) : ∀ {es : List MapEntry} {s : Nat}, (∀ e ∈ es, ∃ a, e.key = .int q a) →
    Instr.findNow (.int q) (.int q key) (es ++ [x]) s = match Instr.findNow (.int q) (.int q key) es s with
      | some none => if key = a then some (some (s + es.length, x.val)) else some none
      | r => r
  | [], s, _ => by
    simp only [List.nil_append, Instr.findNow, ha, Instr.sameNow, if_true]
    by_cases hk : key = a
    · subst hk; simp
    · have : (key == a) = false := by simpa using hk
      simp [this, hk]
  | e :: es, s, hw => by
    obtain ⟨c, hc⟩ := hw e (by simp)
    rw [List.cons_append]
    unfold Instr.findNow
    simp only [hc, Instr.sameNow, if_true]
    by_cases hk : key = c
    · subst hk; simp
    · have : (key == c) = false := by simpa using hk
      simp only [this]
      rw [findNow_push ha (fun e he => hw e (by simp [he]))]
      cases hf : Instr.findNow (.int q) (.int q key) es (s + 1) with
      | none => rfl
      | some r =>
        cases r with
        | none => simp only [List.length_cons]; rw [show s + 1 + es.length = s + (es.length + 1) from by omega]
        | some p => rfl

theorem MapO.put {H : Heap} {m : Nat} {q : IntKind} {v x : Value} {f : Int → Option Value} {key : Int} {k : Heap → Prop} (h : MapO H m q v f)
    (hk : ∀ H', MapO H' m q v (fun y => if y = key then some x else f y) → Same m H H' → k H') : putM q v (.int q key) x H k := by
  obtain ⟨r, es, cl, rfl, h2, h3, h4⟩ := h
  have hlt := (Array.getElem?_eq_some_iff.1 h3).1
  have same : ∀ o, Same m H (H.setIfInBounds r o) := fun o => ⟨by simp, fun b hb => by rw [Array.getElem?_setIfInBounds_ne (by omega)]⟩
  have here : ∀ o, (H.setIfInBounds r o)[r]? = some o := fun o => by simp [hlt]
  unfold putM
  refine ⟨rfl, ?_⟩
  simp only [h3]
  rcases h4.2 key with ⟨h, hf⟩ | ⟨i, y, h, hf⟩
  · rw [h]
    refine hk _ ⟨r, _, _, rfl, h2, here _, ?_, fun key' => ?_⟩ (same _)
    · intro e he
      simp only [Array.toList_push, List.mem_append, List.mem_singleton] at he
      rcases he with he | rfl
      · exact h4.1 e he
      · exact ⟨key, rfl⟩
    · rw [Array.toList_push, findNow_push (a := key) rfl h4.1]
      by_cases hk' : key' = key
      · subst hk'
        rw [h]
        exact .inr ⟨0 + es.toList.length, x, by simp, by simp⟩
      · rcases h4.2 key' with ⟨h', hf'⟩ | ⟨i', y', h', hf'⟩
        · rw [h']; exact .inl ⟨by simp [hk'], by simp [hk', hf']⟩
        · rw [h']; exact .inr ⟨i', y', rfl, by simp [hk', hf']⟩
  · rw [h]
    refine hk _ ⟨r, _, _, rfl, h2, here _, ?_, fun key' => ?_⟩ (same _)
    · intro e he
      rw [Array.toList_modify] at he
      obtain ⟨j, hj⟩ := List.mem_iff_getElem?.1 he
      rw [List.getElem?_modify] at hj
      cases hx : es.toList[j]? with
      | none => rw [hx] at hj; cases hj
      | some e0 =>
        rw [hx] at hj
        simp only [Option.map_eq_map, Option.map_some, Option.some.injEq] at hj
        split at hj
        · subst hj; exact ⟨key, rfl⟩
        · subst hj; exact h4.1 _ (List.mem_of_getElem? hx)
    · rw [Array.toList_modify]
      have := (findNow_mod (x := x) key' h4.1 h).2
      simp only [Nat.sub_zero] at this
      rw [this]
      by_cases hk' : key' = key
      · subst hk'; exact .inr ⟨i, x, by simp, by simp⟩
      · simp only [if_neg hk']
        exact h4.2 key'

/-! ### Loops, joins -/

theorem loop_up {B : List (List Value) → Heap → (List (List Value) → Heap → Prop) → Prop} {s : List (List Value)} {H : Heap} (N : Nat) (I : Nat → List (List Value) → Heap → Prop) (h0 : I 0 s H)
    (hB : ∀ i s H (K : List (List Value) → Heap → Prop), i ≤ N → I i s H → (∀ s' H', i < N → I (i + 1) s' H' → K s' H') → B s H K) : LoopPT B s H := by
  refine ⟨fun n s H => n ≤ N ∧ I (N - n) s H, N, ⟨Nat.le_refl _, by simpa using h0⟩, fun n s H ⟨hn, hI⟩ => hB _ _ _ _ (by omega) hI fun s' H' hlt hI' => ⟨n - 1, by omega, by omega, ?_⟩⟩
  rw [show N - (n - 1) = N - n + 1 from by omega]
  exact hI'

theorem join_of {A : (List (List Value) → Heap → Prop) → Prop} {k : List (List Value) → Heap → Prop} (J : List (List Value) → Heap → Prop)
    (hA : ∀ K : List (List Value) → Heap → Prop, (∀ s H, J s H → K s H) → A K) (hk : ∀ s H, J s H → k s H) : JoinPT A k := hA k hk

end Go.Ab
