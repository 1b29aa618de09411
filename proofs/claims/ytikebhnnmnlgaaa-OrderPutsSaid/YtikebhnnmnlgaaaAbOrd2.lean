/- Contracts: putting back; and the law's function whole. -/
import Derived.Test.YtikebhnnmnlgaaaAbOrd
namespace Go.Proofs.Ytikebhnnmnlgaaa
open Go.Ab
set_option linter.unusedVariables false
set_option maxRecDepth 20000

theorem ext_p0 {a b : Value} {k : Value → Prop} (h : k a) : extractV 0 (.tuple #[a, b]) k := h
theorem ext_p1 {a b : Value} {k : Value → Prop} (h : k b) : extractV 1 (.tuple #[a, b]) k := h

theorem zero30 : zeroL Try.prog 30 = [.int .u32 0] := by kernel_rfl
theorem zero3 : zeroL Try.prog 3 = [.int .i64 0] := by kernel_rfl

theorem undoN_length (p c : List Int) : ∀ i, (undoN p c i).length = p.length
  | 0 => by simp [undoN]
  | i + 1 => by simp [undoN, undoN_length p c i]

theorem mk30 {n : Nat} {H : Heap} {m : Nat} {k : Value → Heap → Prop} (hm : m ≤ H.size) (hn : n < 4294967296)
    (hk : ∀ v H', Own H' m 1 v (us (List.replicate n 0)) → Same m H H' → k v H') : mkS 30 1 4 (zeroL Try.prog 30) (.int .i64 (n : Int)) (.int .i64 (n : Int)) H k := by
  rw [zero30]
  refine mk1 hm rfl ?_ (fun v H' h hs => hk v H' (by simpa [us] using h) hs)
  unfold mkS asI
  refine ⟨?_, ?_⟩
  · omega
  · unfold newC; trivial

/-- What both loops do. -/
theorem undo_step {H : Heap} {m1 m2 m : Nat} {a b t : Value} {p c : List Int} {i : Nat} {k : Heap → Prop} (ha : Rd H m1 1 a (ints p)) (hb : Rd H m2 1 b (us c)) (hz : ordE p c = 0) (hi : i < p.length)
    (ht : Own H m 1 t (us (undoN p c i))) (hk : ∀ H', Own H' m 1 t (us (undoN p c (i + 1))) → Same m H H' → k H') :
    idxS 1 a (.int .i64 (i : Int)) fun x => loadP false 1 x H fun v => idxS 1 b (.int .i64 (i : Int)) fun y => loadP false 1 y H fun u => idxS 1 t v fun z => storeP false 1 z u H k := by
  obtain ⟨h1, h2, h3⟩ := ordE_zero hz
  have hr := h3.2 _ (List.getElem_mem hi)
  refine ha.get (x := .int .i64 p[i]) (by simp [hi]) (hb.get (x := .int .u32 (c[i]'(by omega))) (by simp [show i < c.length by omega]) ?_)
  rw [show p[i] = ((p[i].toNat : Nat) : Int) from by omega]
  refine ht.put (by simp [undoN_length]; omega) rfl fun H2 h hs => hk H2 ?_ hs
  have e1 : p.getD i 0 = p[i] := by simp [List.getD_eq_getElem?_getD, hi]
  have e2 : c.getD i 0 = c[i]'(by omega) := by simp [List.getD_eq_getElem?_getD, show i < c.length by omega]
  unfold undoN
  rw [e1, e2]
  simpa [us, List.map_set] using h

theorem c_Undo {H : Heap} {m1 m2 : Nat} {a b : Value} {p : List Int} {c : List Int} {Q : Value → Heap → Prop} (ha : Rd H m1 1 a (ints p)) (hb : Rd H m2 1 b (us c)) (hl : p.length < 4294967296)
    (hQ : ∀ v H', Own H' H.size 1 v (us (undoM p c)) → Same H.size H H' → Q (.tuple #[v, .int .i64 (ordE p c)]) H') : callV Try.prog (fnV fn_order_Undo) [a, b] H Q := by
  apply S_order_Undo_of
  unfold S_order_Undo
  refine c_asked ha hb (by omega) fun H1 hs1 => ?_
  simp only [bin_neq, asB_bool]
  refine ifD_of (fun hne => ?_) (fun hz => ?_)
  · refine hQ _ _ ?_ hs1
    unfold undoM
    rw [if_neg hne]
    exact Own.nil _ _ _
  · have hz : ordE p c = 0 := by omega
    have ha1 := ha.turn hs1 (.inr (Nat.le_refl _))
    have hb1 := hb.turn hs1 (.inr (Nat.le_refl _))
    refine ha1.len ?_
    simp only [List.length_map]
    refine mk30 hs1.size hl fun t H2 ht hs2 => ?_
    have hs12 := hs1.trans hs2 (Nat.le_refl _)
    refine (ha.turn hs12 (.inr (Nat.le_refl _))).len ?_
    simp only [List.length_map]
    refine loop_up p.length (fun i s H' => s = [[.int .i64 (i : Int)]] ∧ Same H.size H H' ∧ Own H' H.size 1 t (us (undoN p c i))) ⟨rfl, hs12, ht⟩ ?_
    rintro i s H' K hi ⟨rfl, hs, hv⟩ hK
    simp only [sv_cons, bin_lss, asB_bool]
    refine ifD_of (fun hlt => ?_) (fun hge => ?_)
    · have hlt : i < p.length := by omega
      refine undo_step (ha.turn hs (.inr (Nat.le_refl _))) (hb.turn hs (.inr (Nat.le_refl _))) hz hlt hv fun H3 h3 hs3 => ?_
      simp only [bin_add]
      rw [wrap_succ (by omega)]
      exact hK _ _ hlt ⟨rfl, hs.trans hs3 (Nat.le_refl _), h3⟩
    · have : i = p.length := by omega
      subst this
      rw [hz] at hQ
      refine hQ _ _ ?_ hs
      unfold undoM
      rw [if_pos hz]; exact hv

theorem c_refUndo {H : Heap} {m1 m2 : Nat} {a b : Value} {p : List Int} {c : List Int} {Q : Value → Heap → Prop} (ha : Rd H m1 1 a (ints p)) (hb : Rd H m2 1 b (us c)) (hl : p.length < 4294967296)
    (hQ : ∀ v H', Own H' H.size 1 v (us (undoM p c)) → Same H.size H H' → Q (.tuple #[v, .int .i64 (ordE p c)]) H') : callV Try.prog (fnV fn_ref21_Undo) [a, b] H Q := by
  apply S_ref21_Undo_of
  unfold S_ref21_Undo
  refine c_Orders ha hb (by omega) ?_
  simp only [bin_neq, asB_bool]
  refine ifD_of (fun hne => ?_) (fun hz => ?_)
  · refine hQ _ _ ?_ (.refl _ _)
    unfold undoM
    rw [if_neg hne]
    exact Own.nil _ _ _
  · have hz : ordE p c = 0 := by omega
    refine ha.len ?_
    simp only [List.length_map]
    refine mk30 (Nat.le_refl _) hl fun t H2 ht hs2 => ?_
    refine loop_up p.length (fun i s H' => s = [[.int .i64 (i : Int)]] ∧ Same H.size H H' ∧ Own H' H.size 1 t (us (undoN p c i))) ⟨rfl, hs2, ht⟩ ?_
    rintro i s H' K hi ⟨rfl, hs, hv⟩ hK
    have ha' := ha.turn hs (.inr (Nat.le_refl _))
    refine ha'.len ?_
    simp only [sv_cons, bin_lss, asB_bool, List.length_map]
    refine ifD_of (fun hlt => ?_) (fun hge => ?_)
    · have hlt : i < p.length := by omega
      refine undo_step ha' (hb.turn hs (.inr (Nat.le_refl _))) hz hlt hv fun H3 h3 hs3 => ?_
      simp only [bin_add]
      rw [wrap_succ (by omega)]
      exact hK _ _ hlt ⟨rfl, hs.trans hs3 (Nat.le_refl _), h3⟩
    · have : i = p.length := by omega
      subst this
      rw [hz] at hQ
      refine hQ _ _ ?_ hs
      unfold undoM
      rw [if_pos hz]; exact hv

/-! ### The law -/

theorem c_OrderPuts {H : Heap} {m1 m2 : Nat} {a b : Value} {p : List Int} {c : List Int} {Q : Value → Heap → Prop} (ha : Rd H m1 1 a (ints p)) (hb : Rd H m2 1 b (us c))
    (hQ : ∀ H', Same H.size H H' → Q (.bool true) H') : callV Try.prog (fnV fn_law21_OrderPuts) [a, b] H Q := by
  apply S_law21_OrderPuts_of
  unfold S_law21_OrderPuts
  have yes : ∀ K8 : List (List Value) → Heap → Prop, K8 [[.bool (decide (p.length > 1030 ∨ c.length > 1030))]] H →
      (lenSl a H fun t27 => binV (.int .i64) .gtr t27 (.int .i64 1030) fun t28 => asB t28 fun b30 => ifB b30 (K8 [[(.bool true)]] H) (lenSl b H fun t32 => binV (.int .i64) .gtr t32 (.int .i64 1030) fun t33 => K8 [[t33]] H)) := by
    intro K8 h
    refine ha.len ?_
    simp only [bin_gtr, asB_bool, List.length_map]
    refine ifD_of (fun h1 => ?_) (fun h1 => ?_)
    · rw [decide_eq_true (.inl (by omega))] at h; exact h
    · refine hb.len ?_
      try simp only [bin_gtr, List.length_map]
      by_cases h2 : c.length > 1030
      · rw [decide_eq_true (.inr h2)] at h
        rw [decide_eq_true (by omega)]; exact h
      · rw [decide_eq_false (by omega)] at h
        rw [decide_eq_false (by omega)]; exact h
  refine join_of (fun s H' => H' = H ∧ ∃ t, s = [[.bool t]] ∧ (t = false → p.length ≤ 1030 ∧ c.length ≤ 1030)) (fun K8 hK => ?_) ?_
  · refine ha.len ?_
    simp only [bin_gtr, asB_bool, List.length_map]
    have rest := yes K8 (hK _ _ ⟨rfl, _, rfl, fun h => by simpa using h⟩)
    refine ifD_of (fun h1 => ?_) (fun h1 => ?_)
    · refine ha.len ?_
      simp only [bin_lss, asB_bool, List.length_map]
      refine ifD_of (fun h2 => ?_) (fun h2 => ?_)
      · exact hK _ _ ⟨rfl, true, rfl, by simp⟩
      · exact rest
    · exact rest
  rintro s H' ⟨rfl, t, rfl, ht⟩
  simp only [sv_cons, asB_bool]
  refine ifB_of (fun h => hQ _ (.refl _ _)) (fun h => ?_)
  obtain ⟨hp, hc⟩ := ht h
  -- copies of the function's own
  refine bld0 (m := H'.size) (n := 1) (Nat.le_refl _) fun v1 H1 hv1 hs1 => ?_
  refine hv1.app (by omega) (ha.turn hs1 (.inr (Nat.le_refl _))) (by decide +kernel) hs1.size (by simp; omega) (by simp; omega) fun o1 H2 ho1 hs2 => ?_
  have hs2 := hs1.trans hs2 (Nat.le_refl _)
  rw [List.nil_append] at ho1
  refine bld0 (m := H2.size) (n := 1) (Nat.le_refl _) fun v2 H3 hv2 hs3 => ?_
  refine hv2.app (by omega) (hb.turn (hs2.trans hs3 hs2.size) (.inr (Nat.le_refl _))) (by decide +kernel) hs3.size (by simp; omega) (by simp; omega) fun o2 H4 ho2 hs4 => ?_
  rw [List.nil_append] at ho2
  have hs34 := hs3.trans hs4 (Nat.le_refl _)
  have ho1 := ho1.turn hs34 (Nat.le_refl _)
  have hs := hs2.trans hs34 hs2.size
  have hl : (ints p).length < 9223372036854775807 := by simp; omega
  refine c_Apply ho1.rd ho2.rd (by omega) fun r1 H5 hr1 hs5 => ?_
  refine ext_p0 (ext_p1 ?_)
  have hsA := hs.trans hs5 hs.size
  refine c_refApply (ha.turn hsA (.inr (Nat.le_refl _))) (hb.turn hsA (.inr (Nat.le_refl _))) (by omega) fun r2 H6 hr2 hs6 => ?_
  refine ext_p0 (ext_p1 ?_)
  have hs46 := hs5.trans hs6 hs5.size
  have ho1' := ho1.turn hs46 (Nat.le_refl _)
  have ho2' := ho2.turn hs46 (Nat.le_refl _)
  refine c_Undo ho1'.rd ho2'.rd (by omega) fun r3 H7 hr3 hs7 => ?_
  refine ext_p0 (ext_p1 ?_)
  have hs47 := hs46.trans hs7 hs46.size
  have hsB := hs.trans hs47 hs.size
  refine c_refUndo (ha.turn hsB (.inr (Nat.le_refl _))) (hb.turn hsB (.inr (Nat.le_refl _))) (by omega) fun r4 H8 hr4 hs8 => ?_
  refine ext_p0 (ext_p1 ?_)
  have hs48 := hs47.trans hs8 hs47.size
  have hr1' := ((hr1.turn hs6 (Nat.le_refl _)).turn hs7 (Nat.le_refl _)).turn hs8 (Nat.le_refl _)
  have hr2' := (hr2.turn hs7 (Nat.le_refl _)).turn hs8 (Nat.le_refl _)
  have hr3' := hr3.turn hs8 (Nat.le_refl _)
  have la : (applyM p c).length ≤ 1030 := by unfold applyM; split <;> simp <;> omega
  have lu : (undoM p c).length ≤ 1030 := by unfold undoM; split <;> simp [undoN_length]; omega
  refine join_of (fun s H' => H' = H8 ∧ s = [[.bool true]]) (fun K29 hK => ?_) ?_
  · refine c_SameCells hr1'.rd hr2'.rd (by omega) ?_
    simp only [decide_true, asB_bool, ifB_true, bin_eql]
    refine c_SameCells hr3'.rd hr4.rd (by omega) ?_
    simp only [decide_true, asB_bool, ifB_true]
    exact hK _ _ ⟨rfl, rfl⟩
  rintro s H' ⟨rfl, rfl⟩
  have ho1'' := ho1.turn hs48 (Nat.le_refl _)
  have ho2'' := ho2.turn hs48 (Nat.le_refl _)
  have hH : Same H4.size H4 H' := hs48
  refine loop_up (applyM p c).length (fun i s G => s = [[.int .i64 (i : Int)]] ∧ Same H4.size H' G ∧ ∃ xs : List Int, xs.length = (applyM p c).length ∧ Own G H4.size 1 r1 (us xs)) ⟨rfl, .refl _ _, _, rfl, hr1'⟩ ?_
  rintro i s G K hi ⟨rfl, hsG, xs, hxs, hown⟩ hK
  refine hown.rd.len ?_
  simp only [sv_cons, bin_lss, asB_bool, List.length_map]
  refine ifD_of (fun hlt => ?_) (fun hge => ?_)
  · have hlt : i < xs.length := by omega
    refine hown.rd.get (x := .int .u32 xs[i]) (by simp [hlt]) ?_
    simp only [bin_add]
    refine hown.put (by simpa using hlt) rfl fun G2 h2 hs2 => ?_
    rw [wrap_succ (by omega)]
    refine hK _ _ (by omega) ⟨rfl, hsG.trans hs2 (Nat.le_refl _), xs.set i (IntKind.u32.wrap (xs[i] + 1)), by simpa using hxs, ?_⟩
    simpa [us, List.map_set] using h2
  · have hsC : Same H4.size H4 G := hH.trans hsG (Nat.le_refl _)
    have hsD := hs.trans hsC hs.size
    refine join_of (fun s H' => s = [[.bool true]] ∧ Same H4.size H4 H') (fun K44 hK => ?_) ?_
    · try simp only [sv_cons, asB_bool, ifB_true]
      refine c_SameInts (ho1.turn hsC (Nat.le_refl _)).rd (ha.turn hsD (.inr (Nat.le_refl _))) (by omega) ?_
      simp only [decide_true, asB_bool, ifB_true]
      refine c_SameCells (ho2.turn hsC (Nat.le_refl _)).rd (hb.turn hsD (.inr (Nat.le_refl _))) (by omega) ?_
      simp only [decide_true]
      exact hK _ _ ⟨rfl, hsC⟩
    · rintro s G' ⟨rfl, hsE⟩
      exact hQ _ (hs.trans hsE hs.size)

end Go.Proofs.Ytikebhnnmnlgaaa
