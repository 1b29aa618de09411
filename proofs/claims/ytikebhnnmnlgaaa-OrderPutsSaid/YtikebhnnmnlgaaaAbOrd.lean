/- Contracts: what the functions of 'order' and of its reference do with a list and cells. -/
import Derived.Test.YtikebhnnmnlgaaaAbSh
import Derived.Test.YtikebhnnmnlgaaaAbRep
namespace Go.Proofs.Ytikebhnnmnlgaaa
open Go.Ab
set_option linter.unusedVariables false

abbrev ints (xs : List Int) : List Value := xs.map (.int .i64)
abbrev us (xs : List Int) : List Value := xs.map (.int .u32)

theorem take_eq_succ {α : Type} {xs ys : List α} {i : Nat} (hx : i < xs.length) (hy : i < ys.length) (h : xs.take i = ys.take i) (he : xs[i] = ys[i]) : xs.take (i + 1) = ys.take (i + 1) := by
  rw [List.take_succ_eq_append_getElem hx, List.take_succ_eq_append_getElem hy, h, he]

theorem c_SameInts {H : Heap} {m1 m2 : Nat} {a b : Value} {xs ys : List Int} {Q : Value → Heap → Prop} (ha : Rd H m1 1 a (ints xs)) (hb : Rd H m2 1 b (ints ys)) (hl : xs.length < 9223372036854775807)
    (hQ : Q (.bool (decide (xs = ys))) H) : callV Try.prog (fnV fn_ref01_SameInts) [a, b] H Q := by
  apply S_ref01_SameInts_of
  unfold S_ref01_SameInts
  refine ha.len (hb.len ?_)
  simp only [bin_neq, asB_bool, List.length_map]
  refine ifD_of (fun hne => ?_) (fun heq => ?_)
  · rw [decide_eq_false (fun e => hne (by rw [e]))] at hQ; exact hQ
  · have heq : xs.length = ys.length := by omega
    refine loop_up xs.length (fun i s H' => s = [[.int .i64 (i : Int)]] ∧ H' = H ∧ xs.take i = ys.take i) ⟨rfl, rfl, by simp⟩ ?_
    rintro i s H' K hi ⟨rfl, rfl, ht⟩ hK
    refine ha.len ?_
    simp only [sv_cons, bin_lss, asB_bool, List.length_map]
    refine ifD_of (fun hlt => ?_) (fun hge => ?_)
    · have hlt : i < xs.length := by omega
      have hlt' : i < ys.length := by omega
      refine ha.get (x := .int .i64 xs[i]) (by simp [hlt]) (hb.get (x := .int .i64 ys[i]) (by simp [hlt']) ?_)
      simp only [bin_neq, asB_bool]
      refine ifD_of (fun hne => ?_) (fun he => ?_)
      · rw [decide_eq_false (fun e => hne (by subst e; rfl))] at hQ; exact hQ
      · simp only [bin_add]
        rw [wrap_succ (by omega)]
        exact hK _ _ hlt ⟨rfl, rfl, take_eq_succ hlt hlt' ht (by simpa using he)⟩
    · have : i = xs.length := by omega
      subst this
      rw [List.take_length, heq, List.take_length] at ht
      rw [decide_eq_true ht] at hQ; exact hQ

theorem c_SameCells {H : Heap} {m1 m2 : Nat} {a b : Value} {xs ys : List Int} {Q : Value → Heap → Prop} (ha : Rd H m1 1 a (us xs)) (hb : Rd H m2 1 b (us ys)) (hl : xs.length < 9223372036854775807)
    (hQ : Q (.bool (decide (xs = ys))) H) : callV Try.prog (fnV fn_ref21_SameCells) [a, b] H Q := by
  apply S_ref21_SameCells_of
  unfold S_ref21_SameCells
  refine ha.len (hb.len ?_)
  simp only [bin_neq, asB_bool, List.length_map]
  refine ifD_of (fun hne => ?_) (fun heq => ?_)
  · rw [decide_eq_false (fun e => hne (by rw [e]))] at hQ; exact hQ
  · have heq : xs.length = ys.length := by omega
    refine loop_up xs.length (fun i s H' => s = [[.int .i64 (i : Int)]] ∧ H' = H ∧ xs.take i = ys.take i) ⟨rfl, rfl, by simp⟩ ?_
    rintro i s H' K hi ⟨rfl, rfl, ht⟩ hK
    refine ha.len ?_
    simp only [sv_cons, bin_lss, asB_bool, List.length_map]
    refine ifD_of (fun hlt => ?_) (fun hge => ?_)
    · have hlt : i < xs.length := by omega
      have hlt' : i < ys.length := by omega
      refine ha.get (x := .int .u32 xs[i]) (by simp [hlt]) (hb.get (x := .int .u32 ys[i]) (by simp [hlt']) ?_)
      simp only [bin_neq, asB_bool]
      refine ifD_of (fun hne => ?_) (fun he => ?_)
      · rw [decide_eq_false (fun e => hne (by subst e; rfl))] at hQ; exact hQ
      · simp only [bin_add]
        rw [wrap_succ (by omega)]
        exact hK _ _ hlt ⟨rfl, rfl, take_eq_succ hlt hlt' ht (by simpa using he)⟩
    · have : i = xs.length := by omega
      subst this
      rw [List.take_length, heq, List.take_length] at ht
      rw [decide_eq_true ht] at hQ; exact hQ

/-! ### Orders -/

abbrev okP (p : List Int) : Prop := p.Nodup ∧ ∀ x ∈ p, 0 ≤ x ∧ x < p.length
def ordE (p c : List Int) : Int := if p.length > 1024 then 4 else if c.length ≠ p.length then 2 else if okP p then 0 else 2

theorem c_asked {H : Heap} {m1 m2 : Nat} {a b : Value} {p : List Int} {c : List Int} {Q : Value → Heap → Prop} (ha : Rd H m1 1 a (ints p)) (hb : Rd H m2 1 b (us c)) (hl : p.length < 9223372036854775807)
    (hQ : ∀ H', Same H.size H H' → Q (.int .i64 (ordE p c)) H') : callV Try.prog (fnV fn_order_asked) [a, b] H Q := by
  apply S_order_asked_of
  unfold S_order_asked
  refine ha.len ?_
  simp only [bin_gtr, asB_bool, List.length_map]
  refine ifD_of (fun hbig => ?_) (fun hsm => ?_)
  · have := hQ H (.refl _ _)
    unfold ordE at this
    rw [if_pos (by omega)] at this; exact this
  refine hb.len (ha.len ?_)
  simp only [bin_neq, asB_bool, List.length_map]
  refine ifD_of (fun hne => ?_) (fun heq => ?_)
  · have := hQ H (.refl _ _)
    unfold ordE at this
    rw [if_neg (by omega), if_pos (by omega)] at this; exact this
  have bad : ∀ H', Same H.size H H' → ¬ okP p → Q (.int .i64 2) H' := fun H' hs hno => by
    have := hQ H' hs
    unfold ordE at this
    rw [if_neg (by omega), if_neg (by omega), if_neg hno] at this; exact this
  refine mkM_of (q := .i64) (Nat.le_refl _) fun mp H1 hmp hs1 => ?_
  have ha1 := ha.turn hs1 (.inr (Nat.le_refl _))
  refine ha1.len ?_
  simp only [List.length_map]
  refine loop_up p.length (fun i s H' => s = [[.int .i64 (i : Int)]] ∧ Same H.size H H' ∧ MapO H' H.size .i64 mp (fun x => if x ∈ p.take i then some (.int .i64 1) else none) ∧
      (p.take i).Nodup ∧ ∀ x ∈ p.take i, 0 ≤ x ∧ x < p.length) ⟨rfl, hs1, by simpa using hmp, by simp, by simp⟩ ?_
  rintro i s H' K hi ⟨rfl, hs, hm, hnd, hr⟩ hK
  have ha' := ha.turn hs (.inr (Nat.le_refl _))
  simp only [sv_cons, bin_lss, asB_bool]
  refine ifD_of (fun hlt => ?_) (fun hge => ?_)
  · have hlt : i < p.length := by omega
    refine ha'.get (x := .int .i64 p[i]) (by simp [hlt]) (hm.get ?_)
    have hv : ((if p[i] ∈ p.take i then some (Value.int .i64 1) else none).getD (.int .i64 0)) = .int .i64 (if p[i] ∈ p.take i then 1 else 0) := by split <;> rfl
    rw [hv]
    simp only [bin_add]
    refine hm.put fun H2 hm2 hs2 => ?_
    have hs' := hs.trans hs2 (Nat.le_refl _)
    have ha2 := ha.turn hs' (.inr (Nat.le_refl _))
    refine join_of (fun s H'' => H'' = H2 ∧ s = [[.bool (decide (p[i] ∈ p.take i ∨ p[i] < 0 ∨ p[i] ≥ p.length))]]) (fun K' hK' => ?_) ?_
    · refine hm2.get ?_
      simp only [if_true, Option.getD_some, bin_gtr, asB_bool]
      refine ifD_of (fun h1 => ?_) (fun h1 => ?_)
      · refine hK' _ _ ⟨rfl, ?_⟩
        by_cases hin : p[i] ∈ p.take i
        · simp [hin]
        · simp [hin, IntKind.wrap, IntKind.bits, IntKind.signed] at h1
      · have hin : ¬ p[i] ∈ p.take i := fun hin => h1 (by simp [hin, IntKind.wrap, IntKind.bits, IntKind.signed])
        simp only [bin_lss, asB_bool]
        refine ifD_of (fun h2 => hK' _ _ ⟨rfl, by simp [h2]⟩) (fun h2 => ?_)
        refine ha2.len ?_
        simp only [bin_geq, List.length_map]
        exact hK' _ _ ⟨rfl, by simp [hin, h2]⟩
    · rintro s' H'' ⟨rfl, rfl⟩
      simp only [sv_cons, asB_bool]
      refine ifD_of (fun hbad => ?_) (fun hgood => ?_)
      · refine bad _ hs' fun ⟨h1, h2⟩ => ?_
        rcases hbad with h | h | h
        · rw [← List.take_append_drop i p, List.nodup_append] at h1
          have hd : p[i] ∈ p.drop i := by rw [List.mem_drop_iff_getElem]; exact ⟨0, by omega, by simp⟩
          exact h1.2.2 _ h _ hd rfl
        · have := h2 _ (List.getElem_mem hlt); omega
        · have := h2 _ (List.getElem_mem hlt); omega
      · rw [wrap_succ (by omega)]
        have h1 : ¬ p[i] ∈ p.take i := fun h => hgood (.inl h)
        have h2 : 0 ≤ p[i] ∧ p[i] < p.length := ⟨by omega, by omega⟩
        refine hK _ _ hlt ⟨rfl, hs', ?_, ?_, ?_⟩
        · refine cast (congrArg _ (funext fun x => ?_)) hm2
          have hmem : x ∈ p.take (i + 1) ↔ x ∈ p.take i ∨ x = p[i] := by rw [List.take_succ_eq_append_getElem hlt, List.mem_append, List.mem_singleton]
          by_cases hx : x = p[i]
          · rw [if_pos (hmem.2 (.inr hx)), if_pos hx, if_neg h1]; rfl
          · rw [if_neg hx]
            by_cases hin : x ∈ p.take i
            · rw [if_pos hin, if_pos (hmem.2 (.inl hin))]
            · rw [if_neg hin, if_neg (fun h => (hmem.1 h).elim hin hx)]
        · rw [List.take_succ_eq_append_getElem hlt, List.nodup_append]
          refine ⟨hnd, by simp, fun x hx y hy => ?_⟩
          simp at hy; subst hy
          exact fun e => h1 (e ▸ hx)
        · intro x hx
          rw [List.take_succ_eq_append_getElem hlt, List.mem_append, List.mem_singleton] at hx
          rcases hx with hx | rfl
          · exact hr x hx
          · exact h2
  · have : i = p.length := by omega
    subst this
    rw [List.take_length] at hnd hr
    have := hQ _ hs
    unfold ordE at this
    rw [if_neg (by omega), if_neg (by omega), if_pos ⟨hnd, hr⟩] at this; exact this

theorem c_among {H : Heap} {m1 : Nat} {a : Value} {p : List Int} {x : Int} {Q : Value → Heap → Prop} (ha : Rd H m1 1 a (ints p)) (hl : p.length < 9223372036854775807)
    (hQ : Q (.bool (decide (x ∈ p))) H) : callV Try.prog (fnV fn_ref21_among) [a, .int .i64 x] H Q := by
  apply S_ref21_among_of
  unfold S_ref21_among
  refine loop_up p.length (fun i s H' => s = [[.int .i64 (i : Int)]] ∧ H' = H ∧ ¬ x ∈ p.take i) ⟨rfl, rfl, by simp⟩ ?_
  rintro i s H' K hi ⟨rfl, rfl, hno⟩ hK
  refine ha.len ?_
  simp only [sv_cons, bin_lss, asB_bool, List.length_map]
  refine ifD_of (fun hlt => ?_) (fun hge => ?_)
  · have hlt : i < p.length := by omega
    refine ha.get (x := .int .i64 p[i]) (by simp [hlt]) ?_
    simp only [bin_eql, asB_bool]
    refine ifD_of (fun he => ?_) (fun hne => ?_)
    · rw [decide_eq_true (he ▸ List.getElem_mem hlt)] at hQ; exact hQ
    · simp only [bin_add]
      rw [wrap_succ (by omega)]
      refine hK _ _ hlt ⟨rfl, rfl, fun h => ?_⟩
      rw [List.take_succ_eq_append_getElem hlt, List.mem_append, List.mem_singleton] at h
      rcases h with h | h
      · exact hno h
      · exact hne h.symm
  · have : i = p.length := by omega
    subst this
    rw [List.take_length] at hno
    rw [decide_eq_false hno] at hQ; exact hQ

theorem perm_of {α : Type} [DecidableEq α] : ∀ {l1 l2 : List α}, l1.Nodup → (∀ x ∈ l1, x ∈ l2) → l2.length ≤ l1.length → l1.Perm l2
  | [], l2, _, _, h => by
    have : l2 = [] := List.length_eq_zero_iff.1 (by simpa using h)
    subst this; exact .nil
  | a :: l1, l2, hn, hs, h => by
    rw [List.nodup_cons] at hn
    have ha := hs a (by simp)
    refine ((perm_of (l2 := l2.erase a) hn.2 (fun x hx => ?_) ?_).cons a).trans (List.perm_cons_erase ha).symm
    · exact (List.mem_erase_of_ne (fun e => hn.1 (by rw [← e]; exact hx))).2 (hs x (by simp [hx]))
    · rw [List.length_erase_of_mem ha]; simp at h; omega

theorem okP_iff (p : List Int) : okP p ↔ ∀ i : Nat, i < p.length → (i : Int) ∈ p := by
  have hR : ((List.range p.length).map Int.ofNat).Nodup := by
    unfold List.Nodup
    rw [List.pairwise_map]
    exact List.nodup_range.imp fun h e => h (Int.ofNat.inj e)
  constructor
  · rintro ⟨hn, hr⟩ i hi
    have := perm_of (l1 := p) (l2 := (List.range p.length).map Int.ofNat) hn (fun x hx => by
      obtain ⟨h0, h1⟩ := hr x hx
      exact List.mem_map.2 ⟨x.toNat, by simp; omega, by simp; omega⟩) (by simp)
    exact this.mem_iff.2 (List.mem_map.2 ⟨i, by simpa using hi, rfl⟩)
  · intro h
    have := perm_of (l1 := (List.range p.length).map Int.ofNat) (l2 := p) hR (fun x hx => by
      obtain ⟨i, hi, rfl⟩ := List.mem_map.1 hx
      exact h i (by simpa using hi)) (by simp)
    refine ⟨this.nodup_iff.1 hR, fun x hx => ?_⟩
    obtain ⟨i, hi, rfl⟩ := List.mem_map.1 (this.mem_iff.2 hx)
    simp at hi ⊢
    omega

theorem c_Orders {H : Heap} {m1 m2 : Nat} {a b : Value} {p : List Int} {c : List Int} {Q : Value → Heap → Prop} (ha : Rd H m1 1 a (ints p)) (hb : Rd H m2 1 b (us c)) (hl : p.length < 9223372036854775807)
    (hQ : Q (.int .i64 (ordE p c)) H) : callV Try.prog (fnV fn_ref21_Orders) [a, b] H Q := by
  apply S_ref21_Orders_of
  unfold S_ref21_Orders
  refine ha.len ?_
  simp only [bin_gtr, asB_bool, List.length_map]
  unfold ordE at hQ
  refine ifD_of (fun hbig => ?_) (fun hsm => ?_)
  · rw [if_pos (by omega)] at hQ; exact hQ
  rw [if_neg (by omega)] at hQ
  refine hb.len (ha.len ?_)
  simp only [bin_neq, asB_bool, List.length_map]
  refine ifD_of (fun hne => ?_) (fun heq => ?_)
  · rw [if_pos (by omega)] at hQ; exact hQ
  rw [if_neg (by omega)] at hQ
  refine loop_up p.length (fun i s H' => s = [[.int .i64 (i : Int)]] ∧ H' = H ∧ ∀ j : Nat, j < i → (j : Int) ∈ p) ⟨rfl, rfl, by simp⟩ ?_
  rintro i s H' K hi ⟨rfl, rfl, hall⟩ hK
  refine ha.len ?_
  simp only [sv_cons, bin_lss, asB_bool, List.length_map]
  refine ifD_of (fun hlt => ?_) (fun hge => ?_)
  · have hlt : i < p.length := by omega
    refine c_among ha hl ?_
    simp only [un_not, asB_bool]
    refine ifB_of (fun h => ?_) (fun h => ?_)
    · rw [if_neg (fun hok => by have := (okP_iff p).1 hok i hlt; simp [this] at h)] at hQ; exact hQ
    · simp only [bin_add]
      rw [wrap_succ (by omega)]
      refine hK _ _ hlt ⟨rfl, rfl, fun j hj => ?_⟩
      by_cases hji : j = i
      · subst hji; simpa using h
      · exact hall j (by omega)
  · have : i = p.length := by omega
    subst this
    rw [if_pos ((okP_iff p).2 hall)] at hQ; exact hQ

/-! ### Putting -/

def applyM (p c : List Int) : List Int := if ordE p c = 0 then p.map fun x => c.getD x.toNat 0 else []
def undoN (p c : List Int) : Nat → List Int
  | 0 => List.replicate p.length 0
  | i + 1 => (undoN p c i).set (p.getD i 0).toNat (c.getD i 0)
def undoM (p c : List Int) : List Int := if ordE p c = 0 then undoN p c p.length else []

theorem ordE_zero {p c : List Int} (h : ordE p c = 0) : p.length ≤ 1024 ∧ c.length = p.length ∧ okP p := by
  unfold ordE at h
  split at h
  · cases h
  · split at h
    · cases h
    · split at h
      · rename_i h1 h2 h3; exact ⟨by omega, by omega, h3⟩
      · cases h

theorem us_map {p c : List Int} : (p.map fun x => Value.int .u32 (c.getD x.toNat 0)) = us (p.map fun x => c.getD x.toNat 0) := by simp [us]

/-- A list gone through, a new list made. -/
theorem c_each {H : Heap} {m1 : Nat} {a fv : Value} {p : List Int} {ys : List Value} {Q : Value → Heap → Prop} (ha : Rd H m1 1 a (ints p)) (hl : p.length < 4294967296) (hy : ys.length = p.length) (hok : ys.all okc = true)
    (hf : ∀ (i : Nat) (hi : i < p.length) (H' : Heap) (K : Value → Heap → Prop), Same H.size H H' → K (ys[i]'(by omega)) H' → callV Try.prog fv [.int .i64 (i : Int), .int .i64 p[i]] H' K)
    (hQ : ∀ v H', Own H' H.size 1 v ys → Same H.size H H' → Q v H') : callV Try.prog (fnV fn_order_each_int_uint32) [a, fv] H Q := by
  apply S_order_each_int_uint32_of
  unfold S_order_each_int_uint32
  refine ha.len ?_
  simp only [List.length_map]
  refine loop_up p.length (fun i s H' => ∃ v, s = [[v], [.int .i64 (i : Int)]] ∧ Same H.size H H' ∧ Own H' H.size 1 v (ys.take i)) ⟨_, rfl, .refl _ _, by simpa using Own.nil H H.size 1⟩ ?_
  rintro i s H' K hi ⟨v, rfl, hs, hv⟩ hK
  have ha' := ha.turn hs (.inr (Nat.le_refl _))
  simp only [sv_cons, sv_cons1, bin_lss, asB_bool]
  refine ifD_of (fun hlt => ?_) (fun hge => ?_)
  · have hlt : i < p.length := by omega
    refine ha'.get (x := .int .i64 p[i]) (by simp [hlt]) ?_
    refine hf i hlt H' _ hs ?_
    have hoki : okc (ys[i]'(by omega)) = true := List.all_eq_true.1 hok _ (List.getElem_mem _)
    refine bld1 (m := H'.size) (Nat.le_refl _) hoki fun o H2 ho hs2 => ?_
    have hv2 := hv.turn hs2 (Nat.le_refl _)
    refine hv2.app (by omega) ho.rd (by decide +kernel) (by have := hs.size; have := hs2.size; omega) (by simp; omega) (by simp; omega) fun v' H3 hv3 hs3 => ?_
    simp only [bin_add]
    rw [wrap_succ (by omega)]
    refine hK _ _ hlt ⟨v', rfl, (hs.trans hs2 hs.size).trans hs3 (Nat.le_refl _), ?_⟩
    rw [List.take_succ_eq_append_getElem (by omega)]
    exact hv3
  · have : i = p.length := by omega
    subst this
    rw [← hy, List.take_length] at hv
    exact hQ _ _ hv hs

theorem c_Apply {H : Heap} {m1 m2 : Nat} {a b : Value} {p : List Int} {c : List Int} {Q : Value → Heap → Prop} (ha : Rd H m1 1 a (ints p)) (hb : Rd H m2 1 b (us c)) (hl : p.length < 4294967296)
    (hQ : ∀ v H', Own H' H.size 1 v (us (applyM p c)) → Same H.size H H' → Q (.tuple #[v, .int .i64 (ordE p c)]) H') : callV Try.prog (fnV fn_order_Apply) [a, b] H Q := by
  apply S_order_Apply_of
  unfold S_order_Apply
  have hbs : ∃ x y z, b = .slice x y z := by obtain ⟨x, y, z, h, _⟩ := hb; exact ⟨x, y, z, h⟩
  obtain ⟨x, y, z, rfl⟩ := hbs
  simp only [okc, ifB_true]
  unfold newC
  have hs1 : Same H.size H (H.push (.cells [Value.slice x y z].toArray 23 (0, 0))) := .push _ (Nat.le_refl _)
  have hbox : ∀ H' k, Same (H.size + 1) (H.push (.cells [Value.slice x y z].toArray 23 (0, 0))) H' → k (Value.slice x y z) → loadP false 1 (.pointer (some ⟨H.size, 0, none⟩)) H' k := fun H' k hs hk => by
    have : H'[H.size]? = some (.cells [Value.slice x y z].toArray 23 (0, 0)) := by rw [hs.same _ (by omega)]; simp
    unfold loadP cellsAt
    simp only [this]
    exact hk
  refine hbox _ _ (.refl _ _) ?_
  refine c_asked (ha.turn hs1 (.inr (Nat.le_refl _))) (hb.turn hs1 (.inr (Nat.le_refl _))) (by omega) fun H2 hs2 => ?_
  have hsz : (H.push (.cells [Value.slice x y z].toArray 23 (0, 0))).size = H.size + 1 := by simp
  rw [hsz] at hs2
  have hs12 := hs1.trans hs2 (by omega)
  simp only [bin_neq, asB_bool]
  refine ifD_of (fun hne => ?_) (fun hz => ?_)
  · refine hQ _ _ ?_ hs12
    unfold applyM
    rw [if_neg hne]
    exact Own.nil _ _ _
  · have hz : ordE p c = 0 := by omega
    obtain ⟨h1, h2, h3⟩ := ordE_zero hz
    refine c_each (ys := us (applyM p c)) (ha.turn hs12 (.inr (Nat.le_refl _))) hl (by unfold applyM; rw [if_pos hz]; simp) (by simp [okc]) (fun i hi H' K hs' hK => ?_) fun v H' hv hs' => ?_
    · apply C_order_Apply_1_of
      unfold S_order_Apply_1
      refine hbox _ _ (hs2.trans (hs'.mono (by have := hs2.size; rw [hsz] at this; exact this)) (Nat.le_refl _)) ?_
      have hb' := (hb.turn hs12 (.inr (Nat.le_refl _))).turn hs' (.inr (Nat.le_refl _))
      have hr := h3.2 _ (List.getElem_mem hi)
      rw [show p[i] = ((p[i].toNat : Nat) : Int) from by omega]
      refine hb'.get (x := .int .u32 (c.getD p[i].toNat 0)) ?_ ?_
      · simp only [List.getElem?_map]
        rw [List.getElem?_eq_getElem (by omega)]
        simp [List.getD_eq_getElem?_getD, List.getElem?_eq_getElem (show p[i].toNat < c.length by omega)]
      · have : (us (applyM p c))[i]'(by unfold applyM; rw [if_pos hz]; simpa using hi) = .int .u32 (c.getD p[i].toNat 0) := by
          simp [applyM, hz]
        rw [← this]; exact hK
    · rw [hz] at hQ
      refine hQ _ _ (hv.down (Nat.le_trans hs12.size (Nat.le_refl _))) (hs12.trans (hs'.mono hs12.size) (Nat.le_refl _))

theorem c_refApply {H : Heap} {m1 m2 : Nat} {a b : Value} {p : List Int} {c : List Int} {Q : Value → Heap → Prop} (ha : Rd H m1 1 a (ints p)) (hb : Rd H m2 1 b (us c)) (hl : p.length < 4294967296)
    (hQ : ∀ v H', Own H' H.size 1 v (us (applyM p c)) → Same H.size H H' → Q (.tuple #[v, .int .i64 (ordE p c)]) H') : callV Try.prog (fnV fn_ref21_Apply) [a, b] H Q := by
  apply S_ref21_Apply_of
  unfold S_ref21_Apply
  refine c_Orders ha hb (by omega) ?_
  simp only [bin_neq, asB_bool]
  refine ifD_of (fun hne => ?_) (fun hz => ?_)
  · refine hQ _ _ ?_ (.refl _ _)
    unfold applyM
    rw [if_neg hne]
    exact Own.nil _ _ _
  · have hz : ordE p c = 0 := by omega
    obtain ⟨h1, h2, h3⟩ := ordE_zero hz
    refine loop_up p.length (fun i s H' => ∃ v, s = [[v], [.int .i64 (i : Int)]] ∧ Same H.size H H' ∧ Own H' H.size 1 v (us ((applyM p c).take i))) ⟨_, rfl, .refl _ _, by simpa using Own.nil H H.size 1⟩ ?_
    have hal : (applyM p c).length = p.length := by unfold applyM; rw [if_pos hz]; simp
    rintro i s H' K hi ⟨v, rfl, hs, hv⟩ hK
    have ha' := ha.turn hs (.inr (Nat.le_refl _))
    have hb' := hb.turn hs (.inr (Nat.le_refl _))
    refine ha'.len ?_
    simp only [sv_cons, sv_cons1, bin_lss, asB_bool, List.length_map]
    refine ifD_of (fun hlt => ?_) (fun hge => ?_)
    · have hlt : i < p.length := by omega
      refine ha'.get (x := .int .i64 p[i]) (by simp [hlt]) ?_
      have hr := h3.2 _ (List.getElem_mem hlt)
      rw [show p[i] = ((p[i].toNat : Nat) : Int) from by omega]
      refine hb'.get (x := .int .u32 (c.getD p[i].toNat 0)) ?_ ?_
      · simp only [List.getElem?_map]
        rw [List.getElem?_eq_getElem (by omega)]
        simp [List.getD_eq_getElem?_getD, List.getElem?_eq_getElem (show p[i].toNat < c.length by omega)]
      · refine bld1 (m := H'.size) (Nat.le_refl _) rfl fun o H2 ho hs2 => ?_
        have hv2 := hv.turn hs2 (Nat.le_refl _)
        refine hv2.app (by omega) ho.rd (by decide +kernel) (by have := hs.size; have := hs2.size; omega) (by simp; omega) (by simp; omega) fun v' H3 hv3 hs3 => ?_
        simp only [bin_add]
        rw [wrap_succ (by omega)]
        refine hK _ _ hlt ⟨v', rfl, (hs.trans hs2 hs.size).trans hs3 (Nat.le_refl _), ?_⟩
        rw [List.take_succ_eq_append_getElem (by omega)]
        have : (applyM p c)[i]'(by omega) = c.getD p[i].toNat 0 := by simp [applyM, hz]
        rw [this]
        simpa [us] using hv3
    · have : i = p.length := by omega
      subst this
      rw [← hal, List.take_length] at hv
      rw [hz] at hQ
      exact hQ _ _ hv hs

end Go.Proofs.Ytikebhnnmnlgaaa
