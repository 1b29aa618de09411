/- Contracts: slots' bytes, positions' bytes. -/
import Derived.Test.YtlmpjhbfgakgdaaDoorConSha
import Derived.Test.YtlmpjhbfgakgdaaDoorConStash
import Derived.Lib.MakeNoZero
import Derived.Laws.Externs
import Derived.Test.YtlmpjhbfgakgdaaDoorShRec
import Derived.Stop.BytesEq
import Derived.Test.YtlmpjhbfgakgdaaDoorAbArr
namespace Go.Proofs.YtlmpjhbfgakgdaaDoor
open Go.Ab Go.Md
set_option linter.unusedVariables false
set_option linter.unusedSimpArgs false
set_option maxRecDepth 20000

variable {H : Heap} {Q : Value → Heap → Prop} {A B C : Nat → Prop}

theorem flat_one {α : Type} {f : α → Value} (xs : List α) : (xs.map fun x => [f x]).flatten = xs.map f := by
  induction xs with
  | nil => rfl
  | cons x xs ih => simpa using ih

theorem sl_blk {α : Type} {R : Rep α} {f : α → Value} {xs : List α} {cs : List Value} {b o c : Nat} (hn : R.n = 1) (hr : ∀ x ∈ xs, R.rel H A [f x] x) (h : Ab.Blk H b cs)
    (hs : seg cs o xs.length = xs.map f) (hl : o + xs.length ≤ cs.length) (hA : A b) (hc : xs.length ≤ c) : Sl R H A (.slice (some ⟨b, o, none⟩) xs.length c) xs := by
  refine ⟨some ⟨b, o, none⟩, c - xs.length, xs.map fun x => [f x], by rw [Nat.add_sub_cancel' hc], by simp, fun i cs' x h1 h2 => ?_, .inr ⟨b, o, rfl, hA, ?_⟩⟩
  · rw [List.getElem?_map, h2] at h1
    cases h1
    exact hr x (List.mem_of_getElem? h2)
  · rw [hn, Nat.mul_one, h.cells hl, hs, flat_one]
theorem sl_bytes {xs : List UInt8} {cs : List Value} {b o c : Nat} (h : Ab.Blk H b cs) (hs : seg cs o xs.length = xs.map b8) (hl : o + xs.length ≤ cs.length) (hA : A b) (hc : xs.length ≤ c) :
    Sl rU8 H A (.slice (some ⟨b, o, none⟩) xs.length c) xs := sl_blk rfl (fun x _ => ⟨rfl, trivial⟩) h hs hl hA hc

theorem i_quoU {a b : Int} {c : Nat} {k : Value → Prop} {m n : Nat} (ha : a = (m : Int)) (hb : b = (n : Int)) (hn : n ≠ 0) (h : c = m / n) (hc : c < 18446744073709551616) (hk : k (.int .u64 (c : Int))) : binV (.int .u64) .quo (.int .u64 a) (.int .u64 b) k := by
  subst ha; subst hb; subst h
  refine w_quo (by omega) ?_
  rw [quo_nat, wrap_nat (q := .u64) hc]; exact hk

theorem c_Digits {n k : Nat} (hk : k ≤ 8) (hn : n < 256 ^ k) (hQ : ∀ u H', Bd rU8 H H' u (leB k n) → Q (tup2 u (.bool true)) H') : callV Tryd.prog (fnV fn_ref01_Digits) [.int .u64 (n : Int), .int .i64 (k : Int)] H Q := by
  apply S_ref01_Digits_of
  unfold S_ref01_Digits
  have h64 := lt64 hn hk
  refine loop_up k (fun j s H' => ∃ u, s = [[.int .u64 ((n / 256 ^ j : Nat) : Int)], [u], [.int .i64 (j : Int)]] ∧ Bd rU8 H H' u (leB j n)) ⟨.slice none 0 0, by simp, Bd.nil _ (Fr.refl _ _)⟩ ?_
  rintro j s H' K hj ⟨u, rfl, bd⟩ hK
  (try simp only [sv_cons, sv_cons1, sc_cons, sc_cons1, asB_bool, bin_lss, bin_leq, bin_geq, bin_gtr, bin_neq, bin_eql, un_not, Bool.not_true, Bool.not_false]); (try refine asB_mk ?_)
  refine ifD_of (fun c => ?_) (fun c => ?_)
  · have hj' : j < k := by omega
    refine i_rem (c := n / 256 ^ j % 256) (m := n / 256 ^ j) (n := 256) rfl rfl (by omega) rfl ?_
    rw [b8_mod, show UInt8.ofNat (n / 256 ^ j % 256) = UInt8.ofNat (n / 256 ^ j) by apply UInt8.toNat_inj.1; rw [UInt8.toNat_ofNat', UInt8.toNat_ofNat']; exact Nat.mod_mod _ _]
    refine bd.push (v := u) (u := b8 _) (Fr.refl _ _) vrep_b8 rfl (by omega) (fun _ => rfl) (by kernel_rfl) (by kernel_rfl) (fun y hy => hy.elim) (by rw [leB_len]; omega) (by rw [leB_len]; omega) fun w' H5 bd5 => ?_
    have hle : n / 256 ^ j ≤ n := Nat.div_le_self _ _
    refine i_quoU (c := n / 256 ^ j / 256) (m := n / 256 ^ j) (n := 256) rfl rfl (by omega) rfl (by omega) ?_
    rw [i_add (c := j + 1) (by omega) (by omega), show n / 256 ^ j / 256 = n / 256 ^ (j + 1) from mul256]
    exact hK _ _ hj' ⟨w', rfl, by rw [leB_snoc]; exact bd5⟩
  · have : j = k := by omega
    subst this
    rw [Nat.div_eq_of_lt hn]
    (try simp only [sv_cons, sv_cons1, sc_cons, sc_cons1, asB_bool, bin_lss, bin_leq, bin_geq, bin_gtr, bin_neq, bin_eql, un_not, Bool.not_true, Bool.not_false]); (try refine asB_mk ?_)
    have := hQ u H' bd
    simpa using this

theorem c_Total {v : Value} {sz : List Nat} (hv : Sl (rI .i64) H A v (nI sz)) (hl : sz.length ≤ 60) (hs : ∀ k ∈ sz, k ≤ 8) (hQ : Q (.int .i64 (sz.sum : Nat)) H) : callV Tryd.prog (fnV fn_ref01_Total) [v] H Q := by
  apply S_ref01_Total_of
  unfold S_ref01_Total
  refine hv.len ?_
  rw [nI_len]
  (try simp only [sv_cons, sv_cons1, sc_cons, sc_cons1, asB_bool, bin_lss, bin_leq, bin_geq, bin_gtr, bin_neq, bin_eql, un_not, Bool.not_true, Bool.not_false]); (try refine asB_mk ?_)
  refine ifD_of (fun c => absurd c (by omega)) (fun _ => ?_)
  have hsm : ∀ l : List Nat, (∀ k ∈ l, k ≤ 8) → l.sum ≤ 8 * l.length := by
    intro l hl
    induction l with
    | nil => simp
    | cons x l ih =>
      have h1 := hl x List.mem_cons_self
      have h2 := ih fun k hk => hl k (List.mem_cons_of_mem _ hk)
      rw [List.sum_cons, List.length_cons]; omega
  refine loop_up sz.length (fun i s H' => s = [[.int .i64 ((sz.take i).sum : Nat)], [.int .i64 (i : Int)]] ∧ H = H') ⟨rfl, rfl⟩ ?_
  rintro i s H' K hi ⟨rfl, rfl⟩ hK
  refine hv.len ?_
  rw [nI_len]
  (try simp only [sv_cons, sv_cons1, sc_cons, sc_cons1, asB_bool, bin_lss, bin_leq, bin_geq, bin_gtr, bin_neq, bin_eql, un_not, Bool.not_true, Bool.not_false]); (try refine asB_mk ?_)
  have h1 := hsm (sz.take i) fun k hk => hs k (List.mem_of_mem_take hk)
  have h2 : (sz.take i).length ≤ sz.length := by rw [List.length_take]; omega
  refine ifD_of (fun c => ?_) (fun c => ?_)
  · have hi' : i < sz.length := by omega
    have hx := List.getElem?_eq_getElem hi'
    have h8 := hs _ (List.getElem_mem hi')
    refine join_of (fun s' H' => s' = [[.bool false]] ∧ H = H') (fun K hK => ?_) ?_
    · refine hv.getI (nI_get hx) fun hw => ?_
      (try simp only [sv_cons, sv_cons1, sc_cons, sc_cons1, asB_bool, bin_lss, bin_leq, bin_geq, bin_gtr, bin_neq, bin_eql, un_not, Bool.not_true, Bool.not_false]); (try refine asB_mk ?_)
      refine ifD_of (fun c => absurd c (by omega)) (fun _ => ?_)
      refine hv.getI (nI_get hx) fun hw => ?_
      (try simp only [sv_cons, sv_cons1, sc_cons, sc_cons1, asB_bool, bin_lss, bin_leq, bin_geq, bin_gtr, bin_neq, bin_eql, un_not, Bool.not_true, Bool.not_false]); (try refine asB_mk ?_)
      refine hK _ _ ⟨?_, rfl⟩
      rw [decide_eq_false]
      omega
    rintro s' H' ⟨rfl, rfl⟩
    (try simp only [sv_cons, sv_cons1, sc_cons, sc_cons1, asB_bool, bin_lss, bin_leq, bin_geq, bin_gtr, bin_neq, bin_eql, un_not, Bool.not_true, Bool.not_false]); (try refine asB_mk ?_)
    refine ifF_of rfl ?_
    refine hv.getI (nI_get hx) fun hw => ?_
    rw [i_add (c := (sz.take i).sum + sz[i]) (by omega) (by omega), i_add (c := i + 1) (by omega) (by omega)]
    refine hK _ _ hi' ⟨?_, rfl⟩
    rw [show (sz.take (i + 1)).sum = (sz.take i).sum + sz[i] by rw [List.take_add_one, hx, List.sum_append]; rfl]
  · have : i = sz.length := by omega
    subst this
    rw [List.take_length] at *
    refine ifD_of (fun c => absurd c (by omega)) (fun _ => hQ)

theorem c_ref01_numbers {v : Value} {sz : List Nat} (hv : Sl (rI .i64) H A v (nI sz)) (hl : sz.length ≤ 60) (hs : ∀ k ∈ sz, 1 ≤ k ∧ k ≤ 8) (hQ : Q (.bool true) H) : callV Tryd.prog (fnV fn_ref01_numbers) [v] H Q := by
  apply S_ref01_numbers_of
  unfold S_ref01_numbers
  refine loop_up sz.length (fun i s H' => s = [[.int .i64 (i : Int)]] ∧ H = H') ⟨rfl, rfl⟩ ?_
  rintro i s H' K hi ⟨rfl, rfl⟩ hK
  refine hv.len ?_
  rw [nI_len]
  (try simp only [sv_cons, sv_cons1, sc_cons, sc_cons1, asB_bool, bin_lss, bin_leq, bin_geq, bin_gtr, bin_neq, bin_eql, un_not, Bool.not_true, Bool.not_false]); (try refine asB_mk ?_)
  refine ifD_of (fun c => ?_) (fun c => ?_)
  · have hi' : i < sz.length := by omega
    have hx := List.getElem?_eq_getElem hi'
    have h8 := hs _ (List.getElem_mem hi')
    refine join_of (fun s' H' => s' = [[.bool false]] ∧ H = H') (fun K hK => ?_) ?_
    · refine hv.getI (nI_get hx) fun hw => ?_
      (try simp only [sv_cons, sv_cons1, sc_cons, sc_cons1, asB_bool, bin_lss, bin_leq, bin_geq, bin_gtr, bin_neq, bin_eql, un_not, Bool.not_true, Bool.not_false]); (try refine asB_mk ?_)
      refine ifD_of (fun c => absurd c (by omega)) (fun _ => ?_)
      refine hv.getI (nI_get hx) fun hw => ?_
      (try simp only [sv_cons, sv_cons1, sc_cons, sc_cons1, asB_bool, bin_lss, bin_leq, bin_geq, bin_gtr, bin_neq, bin_eql, un_not, Bool.not_true, Bool.not_false]); (try refine asB_mk ?_)
      refine hK _ _ ⟨?_, rfl⟩
      rw [decide_eq_false]
      omega
    rintro s' H' ⟨rfl, rfl⟩
    (try simp only [sv_cons, sv_cons1, sc_cons, sc_cons1, asB_bool, bin_lss, bin_leq, bin_geq, bin_gtr, bin_neq, bin_eql, un_not, Bool.not_true, Bool.not_false]); (try refine asB_mk ?_)
    refine ifF_of rfl ?_
    rw [i_add (c := i + 1) (by omega) (by omega)]
    exact hK _ _ hi' ⟨rfl, rfl⟩
  · refine c_Total hv hl (fun k hk => (hs k hk).2) ?_
    (try simp only [sv_cons, sv_cons1, sc_cons, sc_cons1, asB_bool, bin_lss, bin_leq, bin_geq, bin_gtr, bin_neq, bin_eql, un_not, Bool.not_true, Bool.not_false]); (try refine asB_mk ?_)
    rw [decide_eq_true (by omega)]
    exact hQ

theorem c_ref01_Put {v w : Value} {l sz : List Nat} (hv : Sl (rI .u64) H A v (nI l)) (hw : Sl (rI .i64) H B w (nI sz)) (hlen : l.length = sz.length) (hl : sz.length ≤ 60) (hs : ∀ k ∈ sz, 1 ≤ k ∧ k ≤ 8)
    (hn : ∀ (i n k : Nat), l[i]? = some n → sz[i]? = some k → n < 256 ^ k) (hQ : ∀ u H', Bd rU8 H H' u (putL l sz) → Q (tup2 u (.int .i64 0)) H') :
    callV Tryd.prog (fnV fn_ref01_Put) [v, w] H Q := by
  apply S_ref01_Put_of
  unfold S_ref01_Put
  refine join_of (fun s' H' => s' = [[.bool false]] ∧ H = H') (fun K hK => ?_) ?_
  · refine c_ref01_numbers hw hl hs ?_
    (try simp only [sv_cons, sv_cons1, sc_cons, sc_cons1, asB_bool, bin_lss, bin_leq, bin_geq, bin_gtr, bin_neq, bin_eql, un_not, Bool.not_true, Bool.not_false]); (try refine asB_mk ?_)
    refine ifF_of rfl ?_
    refine hv.len (hw.len ?_)
    (try simp only [sv_cons, sv_cons1, sc_cons, sc_cons1, asB_bool, bin_lss, bin_leq, bin_geq, bin_gtr, bin_neq, bin_eql, un_not, Bool.not_true, Bool.not_false]); (try refine asB_mk ?_)
    refine hK _ _ ⟨?_, rfl⟩
    rw [nI_len, nI_len, hlen]; simp
  rintro s' H' ⟨rfl, rfl⟩
  (try simp only [sv_cons, sv_cons1, sc_cons, sc_cons1, asB_bool, bin_lss, bin_leq, bin_geq, bin_gtr, bin_neq, bin_eql, un_not, Bool.not_true, Bool.not_false]); (try refine asB_mk ?_)
  refine ifF_of rfl ?_
  have hpl := put_len hlen (fun k hk => (hs k hk).2)
  refine loop_up l.length (fun i s H' => ∃ u, s = [[u], [.int .i64 (i : Int)]] ∧ Bd rU8 H H' u ((putX l sz).take i).flatten) ⟨.slice none 0 0, rfl, Bd.nil _ (Fr.refl _ _)⟩ ?_
  rintro i s H3 K hi ⟨u, rfl, bd⟩ hK
  refine (hv.g bd.g).len ?_
  rw [nI_len]
  (try simp only [sv_cons, sv_cons1, sc_cons, sc_cons1, asB_bool, bin_lss, bin_leq, bin_geq, bin_gtr, bin_neq, bin_eql, un_not, Bool.not_true, Bool.not_false]); (try refine asB_mk ?_)
  have hp := hpl i
  refine ifD_of (fun c => ?_) (fun c => ?_)
  · have hi' : i < l.length := by omega
    have hx := List.getElem?_eq_getElem hi'
    have hz := List.getElem?_eq_getElem (show i < sz.length by omega)
    have hnk := hn i _ _ hx hz
    have hk8 := hs _ (List.getElem_mem (show i < sz.length by omega))
    have htp := take_put hx hz
    generalize l[i] = n at *
    generalize sz[i]'(by omega) = k at *
    refine (hv.g bd.g).getI (nI_get hx) fun _ => (hw.g bd.g).getI (nI_get hz) fun _ => ?_
    refine c_Digits hk8.2 hnk fun w2 H4 bd4 => ext0 (v := w2) rfl (ext0 (v := .bool true) rfl ?_)
    (try simp only [sv_cons, sv_cons1, sc_cons, sc_cons1, asB_bool, bin_lss, bin_leq, bin_geq, bin_gtr, bin_neq, bin_eql, un_not, Bool.not_true, Bool.not_false]); (try refine asB_mk ?_)
    refine ifF_of rfl ?_
    refine bd.app bd4.g bd4.sl.src.f8 rfl (by omega) (by kernel_rfl) (fun y hy => hy.elim) (by rw [leB_len]; omega) (by rw [leB_len]; omega) fun w3 H5 bd5 => ?_
    rw [i_add (c := i + 1) (by omega) (by omega)]
    exact hK _ _ hi' ⟨w3, rfl, by rw [htp]; exact bd5⟩
  · have : i = l.length := by omega
    subst this
    rw [List.take_of_length_le (by unfold putX; simp; omega)] at bd
    exact hQ _ _ bd

theorem nI_wrap {l : List Nat} (h : ∀ n ∈ l, n < 9223372036854775808) : (∀ x ∈ nI l, IntKind.u64.wrap x = x) ∧ ∀ x ∈ nI l, IntKind.i64.wrap x = x := by
  constructor
  · intro x hx
    unfold nI at hx
    obtain ⟨n, hn, rfl⟩ := List.mem_map.1 hx
    have := h n hn
    exact wrap_nat (q := .u64) (by show _ < 2 ^ 64; omega)
  · intro x hx
    unfold nI at hx
    obtain ⟨n, hn, rfl⟩ := List.mem_map.1 hx
    exact wrap_nat (q := .i64) (h n hn)

def slOk (b : Md.Blk) : Prop := (0 ≤ b.id ∧ b.id < 64) ∧ (0 ≤ b.leaf ∧ b.leaf < 64) ∧ b.data.length ≤ 1000

theorem put2 {a b : Nat} (ha : a < 256 ^ 4) (hb : b < 256 ^ 4) : ∀ (i n k : Nat), [a, b][i]? = some n → [4, 4][i]? = some k → n < 256 ^ k := by
  intro i n k h1 h2
  match i, h1, h2 with
  | 0, h1, h2 => simp at h1 h2; subst h1; subst h2; exact ha
  | 1, h1, h2 => simp at h1 h2; subst h1; subst h2; exact hb
theorem put1 {a : Nat} (ha : a < 256 ^ 4) : ∀ (i n k : Nat), [a][i]? = some n → [4][i]? = some k → n < 256 ^ k := by
  intro i n k h1 h2
  match i, h1, h2 with
  | 0, h1, h2 => simp at h1 h2; subst h1; subst h2; exact ha

theorem c_ref09_Of {b : Md.Blk} {w : Value} (hb : Sl rU8 H A w b.data) (hk : slOk b) (hQ : ∀ u H', Bd rU8 H H' u (slotB b) → Q u H') : callV Tryd.prog (fnV fn_ref09_Of) [vBlk b w] H Q := by
  apply S_ref09_Of_of
  unfold S_ref09_Of
  obtain ⟨⟨h1, h2⟩, ⟨h3, h4⟩, h5⟩ := hk
  refine newT_of fun H1 g1 s1 => ?_
  have e1 : (.int .i64 b.leaf : Value) = .int .i64 ((b.leaf.toNat : Nat) : Int) := by rw [Int.toNat_of_nonneg h3]
  rw [e1, i_add (c := (b.id + 1).toNat) (by omega) (by omega), cv_nat (q := .u64) (by show _ < 2 ^ 64; omega), cv_nat (q := .u64) (by show _ < 2 ^ 64; omega)]
  have hw1 := nI_wrap (l := [(b.id + 1).toNat, b.leaf.toNat]) (fun n hn => by simp at hn; omega)
  refine bld_I (q := .u64) (nI [(b.id + 1).toNat, b.leaf.toNat]) hw1.1 rfl fun u H2 hu g2 s2 => ?_
  refine bld_I (q := .i64) (nI [4, 4]) (nI_wrap (by decide)).2 rfl fun t H3 ht g3 s3 => ?_
  refine c_ref01_Put (A := fun _ => True) (B := fun _ => True) (l := [(b.id + 1).toNat, b.leaf.toNat]) (sz := [4, 4]) ((hu.g g3).slF fun _ _ => trivial) (ht.slF fun _ _ => trivial) rfl (by decide) (by decide)
    (put2 (by omega) (by omega)) fun u4 H4 bd => ext0 (v := u4) rfl (ext0 (v := .int .i64 0) rfl ?_)
  have g := ((g1.trans g2).trans g3)
  have bd0 : Bd rU8 H H4 u4 (putL [(b.id + 1).toNat, b.leaf.toNat] [4, 4]) := ⟨g.trans bd.g, bd.ow.elim fun k hk => ⟨k, hk.1.mono fun y hy _ => ⟨Nat.le_trans g.size hy.1, hy.2⟩, hk.2.imp id fun h => Nat.lt_of_le_of_lt g.size h⟩⟩
  rw [putL_2] at bd0
  refine bd0.app (Fr.refl _ _) (hb.g bd0.g).src.f8 rfl (by omega) (by kernel_rfl) (fun y hy => hy.elim) (by rw [List.length_append, leB_len, leB_len]; omega) (by rw [List.length_append, leB_len, leB_len]; omega) fun u5 H5 bd5 => ?_
  exact hQ _ _ bd5

theorem c_slot_Write {l : Lvl} {b : Md.Blk} {w : Value} (hl : i64 l.width) (hb : Sl rU8 H A w b.data) (hk : slOk b) (he : blkE l b = 0) (hQ : ∀ u H', Bd rU8 H H' u (slotB b) → Q (tup2 u (.int .i64 0)) H') :
    callV Tryd.prog (fnV fn_slot_Write) [.agg (cLvl l).toArray, vBlk b w] H Q := by
  apply S_slot_Write_of
  unfold S_slot_Write
  obtain ⟨⟨h1, h2⟩, ⟨h3, h4⟩, h5⟩ := hk
  refine newT_of fun H1 g1 s1 => newT_of fun H2 g2 s2 => ?_
  refine c_slot_Check hl (hb.g (g1.trans g2)) fun H3 g3 => ?_
  rw [he]
  (try simp only [sv_cons, sv_cons1, sc_cons, sc_cons1, asB_bool, bin_lss, bin_leq, bin_geq, bin_gtr, bin_neq, bin_eql, un_not, Bool.not_true, Bool.not_false]); (try refine asB_mk ?_)
  refine ifF_of (by rfl) ?_
  refine Blk.new fun H4 b4 g4 s4 => ?_
  refine b4.storeA (vs := [.int .i64 4, .int .i64 4]) rfl rfl (by simp) fun H5 b5 f5 s5 => ?_
  have g := (((g1.trans g2).trans g3).trans g4).then f5 fun y hy => by have := ((g1.trans g2).trans g3).size; omega
  have e1 : (.int .i64 b.leaf : Value) = .int .i64 ((b.leaf.toNat : Nat) : Int) := by rw [Int.toNat_of_nonneg h3]
  have e2 : (.int .i64 b.id : Value) = .int .i64 ((b.id.toNat : Nat) : Int) := by rw [Int.toNat_of_nonneg h1]
  rw [e1, e2, cv_nat (q := .u64) (by show _ < 2 ^ 64; omega), bin_add,
    show IntKind.u64.wrap ((b.id.toNat : Int) + 1) = (((b.id + 1).toNat : Nat) : Int) by
      rw [show (b.id.toNat : Int) + 1 = (((b.id + 1).toNat : Nat) : Int) by omega]; exact wrap_nat (q := .u64) (by show _ < 2 ^ 64; omega), cv_nat (q := .u64) (by show _ < 2 ^ 64; omega)]
  refine slA_of (lo := 0) (hi := 2) (optI_none (d := ((0 : Nat) : Int))) (optI_none (d := ((2 : Nat) : Int))) (by omega) (by omega) (by omega) ?_
  have hs4 : Sl (rI .i64) H5 (fun _ => True) (.slice (some ⟨H3.size, 0 + 0 * 1, none⟩) (2 - 0) (2 - 0)) (nI [4, 4]) :=
    sl_blk (f := fun x => .int .i64 x) (xs := nI [4, 4]) (c := 2) rfl (fun x hx => ⟨rfl, (nI_wrap (l := [4, 4]) (by decide)).2 x hx⟩) b5 rfl (by decide) trivial (by decide)
  have hw1 := nI_wrap (l := [(b.id + 1).toNat, b.leaf.toNat]) (fun n hn => by simp at hn; omega)
  refine bld_I (q := .u64) (nI [(b.id + 1).toNat, b.leaf.toNat]) hw1.1 rfl fun u H6 hu g6 s6 => ?_
  refine c_num_Put (A := fun _ => True) (B := fun _ => True) (l := [(b.id + 1).toNat, b.leaf.toNat]) (sz := [4, 4]) (hu.slF fun _ _ => trivial) (hs4.g g6) rfl (by decide) (by decide)
    (put2 (by omega) (by omega)) fun u4 H7 bd => ext0 (v := u4) rfl (ext0 (v := .int .i64 0) rfl ?_)
  have bd0 := bd.wide (g.trans g6)
  rw [putL_2] at bd0
  refine bd0.app (Fr.refl _ _) (hb.g bd0.g).src.f8 rfl (by omega) (by kernel_rfl) (fun y hy => hy.elim) (by rw [List.length_append, leB_len, leB_len]; omega) (by rw [List.length_append, leB_len, leB_len]; omega) fun u5 H8 bd8 => ?_
  exact hQ _ _ bd8

theorem c_slot_None {l : Lvl} (hl : i64 l.width) (hs : 1 ≤ slotsL l) (h : 0 ≤ l.size ∧ l.size ≤ 1000) (hQ : ∀ u H', Bd rU8 H H' u (List.replicate (8 + l.size).toNat 0) → Q (tup2 u (.int .i64 0)) H') :
    callV Tryd.prog (fnV fn_slot_None) [.agg (cLvl l).toArray] H Q := by
  apply S_slot_None_of
  unfold S_slot_None
  refine newT_of fun H1 g1 s1 => c_slot_Slots hl fun H2 g2 => ?_
  rw [if_neg (by omega)]
  refine ext0 (v := .int .i64 (slotsL l)) rfl (ext0 (v := .int .i64 0) rfl ?_)
  (try simp only [sv_cons, sv_cons1, sc_cons, sc_cons1, asB_bool, bin_lss, bin_leq, bin_geq, bin_gtr, bin_neq, bin_eql, un_not, Bool.not_true, Bool.not_false]); (try refine asB_mk ?_)
  refine ifF_of (by rfl) ?_
  rw [i_add (c := (8 + l.size).toNat) (by omega) (by omega)]
  refine mk_zero (R := rU8) (H := H2) (A := fun _ => False) (x := (0 : UInt8)) ⟨by kernel_rfl, trivial⟩ rfl (by decide) (by omega) (by omega) fun u H3 hu g3 s3 => ?_
  exact hQ _ _ ⟨(g1.trans g2).trans g3, _, hu.mono fun y hy _ => hy.1.elim, .inr (by have := (g1.trans g2).size; omega)⟩

def entE (h n : Int) : Int := if highE h ≠ 0 then 2 else if 0 ≤ n ∧ n ≤ many h then 0 else 8

theorem c_entry_Check {h n : Int} (hQ : Q (.int .i64 (entE h n)) H) : callV Tryd.prog (fnV fn_entry_Check) [.int .i64 h, .int .i64 n] H Q := by
  apply S_entry_Check_of
  unfold S_entry_Check
  refine c_geo_Leaves ?_
  unfold leavesV
  unfold entE at hQ
  by_cases hh : highE h = 0
  · rw [if_pos hh]
    rw [if_neg (by omega)] at hQ
    have hm := many_le (highE_ok.1 hh)
    refine ext0 (v := .int .i64 (many h)) rfl (ext0 (v := .int .i64 0) rfl ?_)
    (try simp only [sv_cons, sv_cons1, sc_cons, sc_cons1, asB_bool, bin_lss, bin_leq, bin_geq, bin_gtr, bin_neq, bin_eql, un_not, Bool.not_true, Bool.not_false]); (try refine asB_mk ?_)
    refine ifF_of (by rfl) ?_
    refine join_of (fun s H' => s = [[.bool (decide (¬ (0 ≤ n ∧ n ≤ many h)))]] ∧ H = H') (fun K hK => ?_) ?_
    · (try simp only [sv_cons, sv_cons1, sc_cons, sc_cons1, asB_bool, bin_lss, bin_leq, bin_geq, bin_gtr, bin_neq, bin_eql, un_not, Bool.not_true, Bool.not_false]); (try refine asB_mk ?_)
      refine ifD_of (fun c => hK _ _ ⟨?_, rfl⟩) (fun c => ?_)
      · rw [decide_eq_true (by omega)]
      · simp only [bin_add]
        rw [wrap_i64 (x := 1 + many h) ⟨by omega, by omega⟩]
        (try simp only [sv_cons, sv_cons1, sc_cons, sc_cons1, asB_bool, bin_lss, bin_leq, bin_geq, bin_gtr, bin_neq, bin_eql, un_not, Bool.not_true, Bool.not_false]); (try refine asB_mk ?_)
        refine hK _ _ ⟨?_, rfl⟩
        congr 3
        simp only [decide_eq_decide]; omega
    · rintro s H' ⟨rfl, rfl⟩
      (try simp only [sv_cons, sv_cons1, sc_cons, sc_cons1, asB_bool, bin_lss, bin_leq, bin_geq, bin_gtr, bin_neq, bin_eql, un_not, Bool.not_true, Bool.not_false]); (try refine asB_mk ?_)
      refine ifD_of (fun c => ?_) (fun c => ?_)
      · rw [if_neg c] at hQ; exact hQ
      · rw [if_pos (Classical.not_not.1 c)] at hQ; exact hQ
  · rw [if_neg hh]
    rw [if_pos hh] at hQ
    refine ext0 (v := .int .i64 0) rfl (ext0 (v := .int .i64 2) rfl ?_)
    (try simp only [sv_cons, sv_cons1, sc_cons, sc_cons1, asB_bool, bin_lss, bin_leq, bin_geq, bin_gtr, bin_neq, bin_eql, un_not, Bool.not_true, Bool.not_false]); (try refine asB_mk ?_)
    exact ifT_of (by rfl) hQ

theorem c_entry_Write {h n : Int} (he : entE h n = 0) (hQ : ∀ u H', Bd rU8 H H' u (leB 4 n.toNat) → Q (tup2 u (.int .i64 0)) H') : callV Tryd.prog (fnV fn_entry_Write) [.int .i64 h, .int .i64 n] H Q := by
  apply S_entry_Write_of
  unfold S_entry_Write
  refine c_entry_Check ?_
  rw [he]
  (try simp only [sv_cons, sv_cons1, sc_cons, sc_cons1, asB_bool, bin_lss, bin_leq, bin_geq, bin_gtr, bin_neq, bin_eql, un_not, Bool.not_true, Bool.not_false]); (try refine asB_mk ?_)
  refine ifF_of (by rfl) ?_
  have hb : 0 ≤ n ∧ n ≤ 64 := by
    unfold entE at he
    split at he
    · cases he
    · rename_i h1
      have hm := many_le (highE_ok.1 (Classical.not_not.1 h1))
      split at he
      · omega
      · cases he
  have e1 : (.int .i64 n : Value) = .int .i64 ((n.toNat : Nat) : Int) := by rw [Int.toNat_of_nonneg hb.1]
  rw [e1, cv_nat (q := .u64) (by show _ < 2 ^ 64; omega)]
  have hw1 := nI_wrap (l := [n.toNat]) (fun n hn => by simp at hn; omega)
  refine bld_I (q := .u64) (nI [n.toNat]) hw1.1 rfl fun u H2 hu g2 s2 => ?_
  refine bld_I (q := .i64) (nI [4]) (nI_wrap (by decide)).2 rfl fun t H3 ht g3 s3 => ?_
  refine c_num_Put (A := fun _ => True) (B := fun _ => True) (l := [n.toNat]) (sz := [4]) ((hu.g g3).slF fun _ _ => trivial) (ht.slF fun _ _ => trivial) rfl (by decide) (by decide)
    (put1 (by omega)) fun u4 H4 bd => ext0 (v := u4) rfl (ext0 (v := .int .i64 0) rfl ?_)
  have bd0 := bd.wide (g2.trans g3)
  rw [putL_1] at bd0
  exact hQ _ _ bd0

theorem c_ref19_May {h n : Int} (hh : 0 ≤ h ∧ h ≤ 62) (hQ : Q (.bool (decide (0 ≤ n ∧ n ≤ many h))) H) : callV Tryd.prog (fnV fn_ref19_May) [.int .i64 h, .int .i64 n] H Q := by
  apply S_ref19_May_of
  unfold S_ref19_May
  refine join_of (fun s H' => s = [[.bool (decide (0 ≤ n ∧ n ≤ many h))]] ∧ H = H') (fun K hK => ?_) ?_
  · (try simp only [sv_cons, sv_cons1, sc_cons, sc_cons1, asB_bool, bin_lss, bin_leq, bin_geq, bin_gtr, bin_neq, bin_eql, un_not, Bool.not_true, Bool.not_false]); (try refine asB_mk ?_)
    refine ifD_of (fun c => ?_) (fun c => hK _ _ ⟨?_, rfl⟩)
    · refine c_ref07_Many hh ?_
      (try simp only [sv_cons, sv_cons1, sc_cons, sc_cons1, asB_bool, bin_lss, bin_leq, bin_geq, bin_gtr, bin_neq, bin_eql, un_not, Bool.not_true, Bool.not_false]); (try refine asB_mk ?_)
      refine hK _ _ ⟨?_, rfl⟩
      congr 3
      simp only [decide_eq_decide]; omega
    · rw [decide_eq_false (by omega)]
  · rintro s H' ⟨rfl, rfl⟩
    exact hQ

theorem c_ref19_Bytes {n : Int} (h : 0 ≤ n ∧ n ≤ 1000) (hQ : ∀ u H', Bd rU8 H H' u (leB 4 n.toNat) → Q u H') : callV Tryd.prog (fnV fn_ref19_Bytes) [.int .i64 n] H Q := by
  apply S_ref19_Bytes_of
  unfold S_ref19_Bytes
  have e1 : (.int .i64 n : Value) = .int .i64 ((n.toNat : Nat) : Int) := by rw [Int.toNat_of_nonneg h.1]
  rw [e1, cv_nat (q := .u64) (by show _ < 2 ^ 64; omega)]
  exact c_Digits (n := n.toNat) (k := 4) (by omega) (by omega) fun u H' bd => ext0 (v := u) rfl (ext0 (v := .bool true) rfl (hQ _ _ bd))

theorem xc_make {P : Program} {g n : Nat} {fn : Func} {ps : Array TypeId} {t e : TypeId} (hf : P.funcs[g]? = some fn) (hname : (fn.name == "runtime.NumGoroutine") = false) (hb : fn.body.isNone = true) (hnx : Extern.findNext fn = none)
    (he : Extern.find fn = some (Extern.BytealgMakeNoZero.makeNoZero ps #[t])) (ht : P.underlying t = some (.slice e)) (hn : n ≤ 1000000)
    (hQ : ∀ cs H', n ≤ cs.length → Ab.Blk H' H.size cs → G H H' → H'.size = H.size + 1 → Q (.slice (some ⟨H.size, 0, none⟩) n cs.length) H') : xcV P g [.int .i64 (n : Int)] H Q := by
  intro w hw
  obtain ⟨cs, hr, hge, _⟩ := Lib.run_makeNoZero (P := P) w ps t e ht n (by omega)
  have hd : Agree H w.drew.drew := ⟨hw.size, hw.same⟩
  obtain ⟨H', hT, e1, hb', hg, hs⟩ := newC_sound (H := H) (k := fun b H' => b = H.size ∧ Ab.Blk H' H.size cs.toList ∧ G H H' ∧ H'.size = H.size + 1) hd
    (Blk.new (e := e) (cs := cs.toList) fun H' h1 h2 h3 => ⟨rfl, h1, h2, h3⟩)
  have ew : w.heap.size = H.size := hw.size
  refine ⟨_, H', _, ?_, (Turns.drew hw).trans ((Turns.drew (w := w.drew) (H := H) ⟨hw.size, hw.same⟩).trans hT), hQ cs.toList H' hge hb' hg hs⟩
  rw [run_callFunc_extern hf hname hb hnx he, show (#[.int .i64 (n : Int)] : Array Value) = #[Value.int .i64 n] from rfl]
  rw [hr, ew]
  rfl

theorem mkNZ : ∃ (fn : Func) (tP tR e : TypeId), Tryd.prog.funcs[fn_internal_bytealg_MakeNoZero]? = some fn ∧ (fn.name == "runtime.NumGoroutine") = false ∧ fn.body.isNone = true ∧ Extern.findNext fn = none ∧
    Extern.find fn = some (Extern.BytealgMakeNoZero.makeNoZero #[tP] #[tR]) ∧ Tryd.prog.underlying tR = some (.slice e) :=
  ⟨(match Tryd.prog.funcs[fn_internal_bytealg_MakeNoZero]? with | some f => f | none => Tryd.f0),
   ((match Tryd.prog.funcs[fn_internal_bytealg_MakeNoZero]? with | some f => f | none => Tryd.f0).params.getD 0 0), ((match Tryd.prog.funcs[fn_internal_bytealg_MakeNoZero]? with | some f => f | none => Tryd.f0).resultTypes.getD 0 0),
   (match Tryd.prog.underlying ((match Tryd.prog.funcs[fn_internal_bytealg_MakeNoZero]? with | some f => f | none => Tryd.f0).resultTypes.getD 0 0) with | some (.slice e) => e | _ => 0),
   by kernel_rfl, by kernel_rfl, by kernel_rfl, by kernel_rfl, by kernel_rfl, by kernel_rfl⟩

/-- A copy within a block, of as many as there are. -/
theorem cp_two {b o1 o2 dl sl c1 c2 : Nat} {cs : List Value} (h : Ab.Blk H b cs) (hn0 : 0 < min sl dl) (h1 : o1 + dl ≤ cs.length) (h2 : o2 + sl ≤ cs.length) (ho : (seg cs o2 (min sl dl)).all okc = true)
    (hk : ∀ H', Ab.Blk H' b (setSeg cs o1 (seg cs o2 (min sl dl))) → Fr (fun y => y ≠ b) H H' → Q (.int .i64 (min sl dl : Nat)) H') :
    cpS 1 (.slice (some ⟨b, o1, none⟩) dl c1) (.slice (some ⟨b, o2, none⟩) sl c2) H Q := by
  simp only [cpS, lenX, cutX]
  have hl := seg_length (cs := cs) (o := o2) (n := min sl dl) (by omega)
  obtain ⟨w1, w2, w3, w4⟩ := h.set (vs := seg cs o2 (min sl dl)) (o := o1) (by rw [hl]; omega)
  have hk' := hk _ w2 w3
  have hc2 := h.cells (o := o2) (n := min sl dl) (by omega)
  generalize min sl dl = m at *
  obtain ⟨m, rfl⟩ : ∃ m', m = m' + 1 := ⟨m - 1, by omega⟩
  simp only [srcC, Nat.mul_one, hc2]
  refine ⟨ho, ?_⟩
  generalize seg cs o2 (m + 1) = xs at *
  match xs, hl with
  | y :: ys, hl => exact ⟨w1, hk'⟩

/-- A copy into a block. -/
theorem cp_in {b o1 dl c1 : Nat} {cs : List Value} {v : Value} {xs : List UInt8} (h : Ab.Blk H b cs) (hv : Sl rU8 H A v xs) (hn0 : 0 < xs.length) (hle : xs.length ≤ dl) (h1 : o1 + dl ≤ cs.length)
    (hk : ∀ H', Ab.Blk H' b (setSeg cs o1 (xs.map b8)) → Fr (fun y => y ≠ b) H H' → Q (.int .i64 (xs.length : Nat)) H') :
    cpS 1 (.slice (some ⟨b, o1, none⟩) dl c1) v H Q := by
  have h0 := hv
  obtain ⟨a, sp, css, rfl, g2, g3, g4⟩ := hv
  simp only [cpS, lenX, cutX]
  rw [Nat.min_eq_left hle]
  have hf : css.flatten = xs.map b8 := by
    have e : css = xs.map fun x => [b8 x] := by
      apply List.ext_getElem?
      intro i
      by_cases hi : i < xs.length
      · have hx := List.getElem?_eq_getElem hi
        have hc := List.getElem?_eq_getElem (show i < css.length by omega)
        rw [hc, List.getElem?_map, hx]
        exact congrArg some (g3 i _ _ hc hx).1
      · rw [List.getElem?_eq_none (by omega), List.getElem?_eq_none (by simp; omega)]
    rw [e, flat_one]
  rcases g4 with rfl | ⟨b', o, rfl, hA, hc⟩
  · simp at hn0
  · obtain ⟨w1, w2, w3, w4⟩ := h.set (vs := xs.map b8) (o := o1) (by rw [List.length_map]; omega)
    have hk' := hk _ w2 w3
    rw [hf] at hc
    obtain ⟨m, em⟩ : ∃ m', xs.length = m' + 1 := ⟨xs.length - 1, by omega⟩
    rw [em] at hc hk' ⊢
    rw [show rU8.n = 1 from rfl] at hc
    simp only [srcC, hc]
    refine ⟨ok_bytes _, ?_⟩
    match xs, em with
    | y :: ys, em => exact ⟨w1, hk'⟩

theorem Mul_small {x y : Nat} (hx : x < 1000000) (hy : y < 1000000) (hQ : Q (.tuple #[.int .u64 0, .int .u64 ((x * y : Nat) : Int)]) H) : callV Tryd.prog (fnV fn_math_bits_Mul) [.int .u64 (x : Int), .int .u64 (y : Int)] H Q := by
  apply S_math_bits_Mul_of
  unfold S_math_bits_Mul
  apply S_math_bits_Mul64_of
  unfold S_math_bits_Mul64
  have hxy : x * y < 1000000 * 1000000 := Nat.mul_lt_mul'' hx hy
  have ea : ∀ z : Nat, z < 1000000 → z &&& 4294967295 = z := fun z hz => by
    rw [show (4294967295 : Nat) = 2 ^ 32 - 1 from rfl, Nat.and_two_pow_sub_one_eq_mod]; exact Nat.mod_eq_of_lt (by omega)
  have wn : ∀ z : Nat, z < 18446744073709551616 → IntKind.u64.wrap (z : Int) = (z : Int) := fun z hz => wrap_nat (q := .u64) hz
  have em : (.int .u64 4294967295 : Value) = .int .u64 ((4294967295 : Nat) : Int) := rfl
  have e32 : (.int .u64 32 : Value) = .int .u64 ((32 : Nat) : Int) := rfl
  rw [em, e32, w_and (q := .u64) (by show _ < 2 ^ 64; omega) (by decide), ea x hx, w_shrN (q := .u64) (by decide), show x / 2 ^ 32 = 0 from Nat.div_eq_of_lt (by omega),
    w_and (q := .u64) (by show _ < 2 ^ 64; omega) (by decide), ea y hy, w_shrN (q := .u64) (by decide), show y / 2 ^ 32 = 0 from Nat.div_eq_of_lt (by omega)]
  have m1 : (x : Int) * (y : Int) = ((x * y : Nat) : Int) := by simp
  simp only [bin_mul, bin_add]
  rw [m1, wn _ (by omega)]
  have z0 : IntKind.u64.wrap (((0 : Nat) : Int) * (y : Int)) = ((0 : Nat) : Int) := by simp; rfl
  have z1 : IntKind.u64.wrap ((x : Int) * ((0 : Nat) : Int)) = ((0 : Nat) : Int) := by simp; rfl
  have z2 : IntKind.u64.wrap (((0 : Nat) : Int) * ((0 : Nat) : Int)) = ((0 : Nat) : Int) := rfl
  rw [z0, w_shrN (q := .u64) (by decide)]
  have hq : x * y / 2 ^ 32 < 4294967296 := Nat.lt_of_le_of_lt (Nat.div_le_div_right (Nat.le_of_lt hxy)) (by decide)
  have a1 : ((0 : Nat) : Int) + ((x * y / 2 ^ 32 : Nat) : Int) = ((x * y / 2 ^ 32 : Nat) : Int) := by simp
  rw [bin_add, a1, wn _ (by omega), w_and (q := .u64) (by show _ < 2 ^ 64; omega) (by decide), show (4294967295 : Nat) = 2 ^ 32 - 1 from rfl, Nat.and_two_pow_sub_one_eq_mod, Nat.mod_eq_of_lt (show x * y / 2 ^ 32 < 2 ^ 32 by omega),
    w_shrN (q := .u64) (by decide), show x * y / 2 ^ 32 / 2 ^ 32 = 0 from Nat.div_eq_of_lt (by omega), z1]
  have a2 : ((x * y / 2 ^ 32 : Nat) : Int) + ((0 : Nat) : Int) = ((x * y / 2 ^ 32 : Nat) : Int) := by simp
  rw [bin_add, a2, wn _ (by omega), z2]
  have a3 : IntKind.u64.wrap (((0 : Nat) : Int) + ((0 : Nat) : Int)) = ((0 : Nat) : Int) := rfl
  rw [bin_add, a3, w_shrN (q := .u64) (by decide), show x * y / 2 ^ 32 / 2 ^ 32 = 0 from Nat.div_eq_of_lt (by omega), bin_add, a3]
  exact ext0 (v := .int .u64 0) rfl (ext0 (v := .int .u64 ((x * y : Nat) : Int)) rfl hQ)

theorem zset {cs : List Value} {o m p : Nat} (hp : o + m ≤ cs.length) (h0 : ∀ j, j < p → cs[j]? = some (b8 0)) (ho : o ≤ p) (vs : List Value) (hv : vs = List.replicate m (b8 0)) :
    ∀ j, j < o + m → (setSeg cs o vs)[j]? = some (b8 0) := by
  intro j hj
  subst hv
  unfold setSeg
  by_cases h : j < o
  · rw [List.append_assoc, List.getElem?_append_left (by rw [List.length_take]; omega), List.getElem?_take, if_pos h]
    exact h0 j (by omega)
  · rw [List.append_assoc, List.getElem?_append_right (by rw [List.length_take]; omega), List.getElem?_append_left (by rw [List.length_take, List.length_replicate]; omega), List.getElem?_replicate, if_pos (by rw [List.length_take]; omega)]
theorem zseg {cs : List Value} {m p : Nat} (hp : p ≤ cs.length) (h0 : ∀ j, j < p → cs[j]? = some (b8 0)) (hm : m ≤ p) : seg cs 0 m = List.replicate m (b8 0) := by
  apply List.ext_getElem?
  intro j
  unfold seg
  rw [List.drop_zero, List.getElem?_take, List.getElem?_replicate]
  by_cases h : j < m
  · rw [if_pos h, if_pos h]; exact h0 j (by omega)
  · rw [if_neg h, if_neg h]

theorem c_Repeat0 {v : Value} {L n : Nat} (hv : Sl rU8 H A v (List.replicate L 0)) (hL : 1 ≤ L ∧ L ≤ 90) (hn : n ≤ 90) (hQ : ∀ u H', Sl rU8 H' (fun y => H.size ≤ y) u (List.replicate (L * n) 0) → G H H' → Q u H') :
    callV Tryd.prog (fnV fn_bytes_Repeat) [v, .int .i64 (n : Int)] H Q := by
  apply S_bytes_Repeat_of
  unfold S_bytes_Repeat
  have hvl : ∀ {H' : Heap} {k : Value → Prop}, k (.int .i64 (L : Int)) → lenSl v H' k := fun hk => hv.len (by rw [List.length_replicate]; exact hk)
  (try simp only [sv_cons, sv_cons1, sc_cons, sc_cons1, asB_bool, bin_lss, bin_leq, bin_geq, bin_gtr, bin_neq, bin_eql, un_not, Bool.not_true, Bool.not_false]); (try refine asB_mk ?_)
  refine ifD_of (fun c => ?_) (fun c => ?_)
  · have : n = 0 := by omega
    subst this
    exact bld_nil rU8 fun t H1 ht g1 s1 => hQ _ _ (ht.slF fun k hk => by omega) g1
  have hn1 : 1 ≤ n := by omega
  have hN : L * n ≤ 90 * 90 := Nat.mul_le_mul hL.2 hn
  have hN1 : L ≤ L * n := by rw [show L = L * 1 by omega, Nat.mul_assoc]; exact Nat.mul_le_mul_left _ (by omega)
  (try simp only [sv_cons, sv_cons1, sc_cons, sc_cons1, asB_bool, bin_lss, bin_leq, bin_geq, bin_gtr, bin_neq, bin_eql, un_not, Bool.not_true, Bool.not_false]); (try refine asB_mk ?_)
  refine join_of (fun s H' => H = H') (fun K hK => ifD_of (fun c => absurd c (by omega)) (fun _ => hK _ _ rfl)) ?_
  rintro s H' rfl
  refine hvl ?_
  rw [cv_nat (q := .u64) (by show _ < 2 ^ 64; omega), cv_nat (q := .u64) (by show _ < 2 ^ 64; omega)]
  refine Mul_small (by omega) (by omega) (ext0 (v := .int .u64 0) rfl (ext0 (v := .int .u64 ((L * n : Nat) : Int)) rfl ?_))
  generalize L * n = N at *
  refine join_of (fun s H' => s = [[.bool false]] ∧ H = H') (fun K hK => ?_) ?_
  · (try simp only [sv_cons, sv_cons1, sc_cons, sc_cons1, asB_bool, bin_lss, bin_leq, bin_geq, bin_gtr, bin_neq, bin_eql, un_not, Bool.not_true, Bool.not_false]); (try refine asB_mk ?_)
    refine ifF_of rfl ?_
    (try simp only [sv_cons, sv_cons1, sc_cons, sc_cons1, asB_bool, bin_lss, bin_leq, bin_geq, bin_gtr, bin_neq, bin_eql, un_not, Bool.not_true, Bool.not_false]); (try refine asB_mk ?_)
    refine hK _ _ ⟨?_, rfl⟩
    rw [decide_eq_false]
    omega
  rintro s H' ⟨rfl, rfl⟩
  (try simp only [sv_cons, sv_cons1, sc_cons, sc_cons1, asB_bool, bin_lss, bin_leq, bin_geq, bin_gtr, bin_neq, bin_eql, un_not, Bool.not_true, Bool.not_false]); (try refine asB_mk ?_)
  refine join_of (fun s H' => H = H') (fun K hK => ifF_of rfl (hK _ _ rfl)) ?_
  rintro s H' rfl
  rw [cv_nat (q := .i64) (by show _ < 2 ^ 63; omega)]
  refine hvl ?_
  (try simp only [sv_cons, sv_cons1, sc_cons, sc_cons1, asB_bool, bin_lss, bin_leq, bin_geq, bin_gtr, bin_neq, bin_eql, un_not, Bool.not_true, Bool.not_false]); (try refine asB_mk ?_)
  refine ifD_of (fun c => absurd c (by omega)) (fun _ => ?_)
  (try simp only [sv_cons, sv_cons1, sc_cons, sc_cons1, asB_bool, bin_lss, bin_leq, bin_geq, bin_gtr, bin_neq, bin_eql, un_not, Bool.not_true, Bool.not_false]); (try refine asB_mk ?_)
  refine join_of (fun s H' => s = [[.int .i64 (N : Int)]] ∧ H = H') (fun K hK => ifD_of (fun c => absurd c (by omega)) (fun _ => hK _ _ ⟨rfl, rfl⟩)) ?_
  rintro s H' ⟨rfl, rfl⟩
  obtain ⟨fn, tP, tR, e, q1, q2, q3, q4, q5, q6⟩ := mkNZ
  refine xc_make q1 q2 q3 q4 q5 q6 (by omega) fun cs H1 hcl b1 g1 s1 => ?_
  simp only [slS, optI, asI]
  refine ⟨⟨by omega, by omega, by omega, by omega, fun x h => by cases h; rfl⟩, ?_⟩
  have eA : slAdd (some ⟨H.size, 0, none⟩) 0 (N : Int) 1 = some ⟨H.size, 0, none⟩ := by
    unfold slAdd
    by_cases h : (N : Int) = 0
    · rw [if_pos h]
    · rw [if_neg h]; rfl
  rw [eA, show ((N : Int) - 0).toNat = N by omega]
  refine cp_in b1 (hv.g g1) (by rw [List.length_replicate]; omega) (by rw [List.length_replicate]; omega) (by omega) fun H2 b2 f2 => ?_
  rw [List.length_replicate, List.map_replicate] at *
  have hset := zset (cs := cs) (o := 0) (m := L) (p := 0) (by omega) (fun j hj => by omega) (by omega) _ rfl
  have hlen2 : (setSeg cs 0 (List.replicate L (b8 0))).length = cs.length := by
    unfold setSeg; simp; omega
  refine loop_up N (fun i s H' => ∃ (p : Nat) (cs' : List Value), s = [[.int .i64 (p : Int)]] ∧ Ab.Blk H' H.size cs' ∧ cs'.length = cs.length ∧ (∀ j, j < p → cs'[j]? = some (b8 0)) ∧ L ≤ p ∧ p ≤ N ∧ (p < N → i < p) ∧ G H H')
    ⟨L, _, rfl, b2, hlen2, fun j hj => hset j (by omega), by omega, by omega, fun _ => by omega, g1.then f2 fun y hy => by omega⟩ ?_
  rintro i s H3 K hi ⟨p, cs', rfl, b3, hl3, h03, hp1, hp2, hpi, g3⟩ hK
  (try simp only [sv_cons, sv_cons1, sc_cons, sc_cons1, asB_bool, bin_lss, bin_leq, bin_geq, bin_gtr, bin_neq, bin_eql, un_not, Bool.not_true, Bool.not_false]); (try refine asB_mk ?_)
  refine ifD_of (fun c2 => ?_) (fun c2 => ?_)
  · have hpN : p < N := by omega
    simp only [minV]
    rw [if_neg (by omega)]
    have e2 : slAdd (some ⟨H.size, 0, none⟩) (p : Int) (N : Int) 1 = some ⟨H.size, p, none⟩ := by
      unfold slAdd
      rw [if_neg (by omega)]; simp
    refine ⟨⟨by omega, by omega, by omega, by omega, fun x h => by cases h; rfl⟩, ?_⟩
    refine ⟨⟨by omega, by omega, by omega, by omega, fun x h => by cases h; rfl⟩, ?_⟩
    rw [e2, eA, show ((N : Int) - (p : Int)).toNat = N - p by omega, show ((p : Int) - 0).toNat = p by omega]
    have hsg := zseg (cs := cs') (m := min p (N - p)) (p := p) (by omega) h03 (by omega)
    refine cp_two b3 (by omega) (by omega) (by omega) (by rw [hsg]; simp [ok_b8]) fun H4 b4 f4 => ?_
    rw [i_add (c := p + min p (N - p)) (by omega) (by omega)]
    refine hK _ _ (by omega) ⟨p + min p (N - p), _, rfl, b4, ?_, zset (by omega) h03 (by omega) _ hsg, by omega, by omega, fun _ => by have := hpi hpN; omega, g3.then f4 fun y hy => by omega⟩
    rw [hsg]
    unfold setSeg; simp; omega
  · have : p = N := by omega
    subst this
    have hz := zseg (cs := cs') (m := p) (p := p) (by omega) h03 (by omega)
    have hsl := sl_bytes (A := fun y => H.size ≤ y) (xs := List.replicate p 0) (c := p) b3 (by rw [List.length_replicate, List.map_replicate]; exact hz) (by rw [List.length_replicate]; omega) (Nat.le_refl _) (by rw [List.length_replicate]; omega)
    rw [List.length_replicate] at hsl
    exact hQ _ _ hsl g3

theorem lvl_seg (l : Lvl) : seg (setSeg [(.int .i64 0), (.int .i64 0), (.int .i64 0), (.int .i64 0)] 0 (cLvl l)) 0 4 = cLvl l := rfl
theorem lvl_ok (l : Lvl) : (cLvl l).all okc = true := rfl

theorem c_oram_level {c : Cfg} {i : Nat} {l : Lvl} (hm : c.may) (hi : c.all[i]? = some l) (hQ : ∀ H', G H H' → Q (tup2 (.agg (cLvl l).toArray) (.int .i64 0)) H') :
    callV Tryd.prog (fnV fn_oram_level) [.agg (cCfg c).toArray, .int .i64 (i : Int)] H Q := by
  apply S_oram_level_of
  unfold S_oram_level
  have hlt := (List.getElem?_eq_some_iff.1 hi).1
  refine newT_of fun H1 g1 s1 => newT_of fun H2 g2 s2 => c_conf_Levels fun v H3 hv g3 => ?_
  have e1 : c.levels = c.all := if_pos hm
  have e2 : c.err = 0 := if_pos hm
  rw [e2]
  rw [e1] at hv
  refine ext0 (v := v) rfl (ext0 (v := .int .i64 0) rfl ?_)
  refine join_of (fun s H' => s = [[.bool false]] ∧ H3 = H') (fun K hK => ?_) ?_
  · (try simp only [sv_cons, sv_cons1, sc_cons, sc_cons1, asB_bool, bin_lss, bin_leq, bin_geq, bin_gtr, bin_neq, bin_eql, un_not, Bool.not_true, Bool.not_false]); (try refine asB_mk ?_)
    refine ifF_of (by rfl) ?_
    (try simp only [sv_cons, sv_cons1, sc_cons, sc_cons1, asB_bool, bin_lss, bin_leq, bin_geq, bin_gtr, bin_neq, bin_eql, un_not, Bool.not_true, Bool.not_false]); (try refine asB_mk ?_)
    refine ifD_of (fun c => absurd c (by omega)) (fun _ => ?_)
    refine hv.len ?_
    (try simp only [sv_cons, sv_cons1, sc_cons, sc_cons1, asB_bool, bin_lss, bin_leq, bin_geq, bin_gtr, bin_neq, bin_eql, un_not, Bool.not_true, Bool.not_false]); (try refine asB_mk ?_)
    refine hK _ _ ⟨?_, rfl⟩
    rw [decide_eq_false]
    omega
  rintro s H' ⟨rfl, rfl⟩
  (try simp only [sv_cons, sv_cons1, sc_cons, sc_cons1, asB_bool, bin_lss, bin_leq, bin_geq, bin_gtr, bin_neq, bin_eql, un_not, Bool.not_true, Bool.not_false]); (try refine asB_mk ?_)
  refine ifF_of rfl ?_
  refine hv.get rfl hi fun cs hcs => ?_
  obtain ⟨rfl, _⟩ := hcs
  refine cellsV_all (n := 4) rfl (lvl_ok l) (ifL_of (Nat.le_refl 4) ?_)
  exact hQ _ ((g1.trans g2).trans g3)

theorem c_oram_Check {c : Cfg} {i : Nat} {l : Lvl} {o : Orm} {w : Value} (hm : c.may) (hi : c.all[i]? = some l) (ho : o.root.length = 32) (hw : Sl rBlk H A w o.stash) (hl : o.stash.length ≤ 1000000)
    (hQ : ∀ H', G H H' → Q (.int .i64 (stE l o.stash)) H') : callV Tryd.prog (fnV fn_oram_Check) [.agg (cCfg c).toArray, .int .i64 (i : Int), .agg (cOrm o w).toArray] H Q := by
  apply S_oram_Check_of
  unfold S_oram_Check
  have hok := Cfg.all_ok hm.1 l (List.mem_of_getElem? hi)
  refine newT_of fun H1 g1 s1 => ?_
  refine cellsU_all (cOrm_len ho) ?_
  refine newT_of fun H2 g2 s2 => c_oram_level hm hi fun H3 g3 => ext0 (v := .agg (cLvl l).toArray) rfl (ext0 (v := .int .i64 0) rfl ?_)
  refine newT_of fun H4 g4 s4 => cellsV_all (n := 4) rfl (lvl_ok l) ?_
  (try simp only [sv_cons, sv_cons1, sc_cons, sc_cons1, asB_bool, bin_lss, bin_leq, bin_geq, bin_gtr, bin_neq, bin_eql, un_not, Bool.not_true, Bool.not_false]); (try refine asB_mk ?_)
  refine ifF_of (by rfl) ?_
  refine ifL_of (Nat.le_refl 4) (ifL_of (by rw [cOrm_len ho]; omega) ?_)
  rw [seg_val' (cOrm_32 ho), lvl_seg]
  have g := ((g1.trans g2).trans g3).trans g4
  exact c_stash_Check (by have := hok; unfold Lvl.ok at this; unfold i64; omega) (hw.g g) hl fun H5 g5 => hQ _ (g.trans g5)

theorem c_ref18_Level {c : Cfg} {i : Nat} {l : Lvl} (hm : c.may) (hi : c.all[i]? = some l) (hQ : ∀ H', G H H' → Q (tup2 (.agg (cLvl l).toArray) (.bool true)) H') :
    callV Tryd.prog (fnV fn_ref18_Level) [.agg (cCfg c).toArray, .int .i64 (i : Int)] H Q := by
  apply S_ref18_Level_of
  unfold S_ref18_Level
  have hlt := (List.getElem?_eq_some_iff.1 hi).1
  refine newT_of fun H1 g1 s1 => newT_of fun H2 g2 s2 => c_ref08_May fun H3 g3 => ?_
  rw [decide_eq_true hm]
  (try simp only [sv_cons, sv_cons1, sc_cons, sc_cons1, asB_bool, bin_lss, bin_leq, bin_geq, bin_gtr, bin_neq, bin_eql, un_not, Bool.not_true, Bool.not_false]); (try refine asB_mk ?_)
  refine ifF_of rfl ?_
  refine c_ref08_All hm.1 fun v H4 hv g4 => ?_
  refine join_of (fun s H' => s = [[.bool false]] ∧ H4 = H') (fun K hK => ?_) ?_
  · (try simp only [sv_cons, sv_cons1, sc_cons, sc_cons1, asB_bool, bin_lss, bin_leq, bin_geq, bin_gtr, bin_neq, bin_eql, un_not, Bool.not_true, Bool.not_false]); (try refine asB_mk ?_)
    refine ifD_of (fun c => absurd c (by omega)) (fun _ => ?_)
    refine hv.len ?_
    (try simp only [sv_cons, sv_cons1, sc_cons, sc_cons1, asB_bool, bin_lss, bin_leq, bin_geq, bin_gtr, bin_neq, bin_eql, un_not, Bool.not_true, Bool.not_false]); (try refine asB_mk ?_)
    refine hK _ _ ⟨?_, rfl⟩
    rw [decide_eq_false]
    omega
  rintro s H' ⟨rfl, rfl⟩
  (try simp only [sv_cons, sv_cons1, sc_cons, sc_cons1, asB_bool, bin_lss, bin_leq, bin_geq, bin_gtr, bin_neq, bin_eql, un_not, Bool.not_true, Bool.not_false]); (try refine asB_mk ?_)
  refine ifF_of rfl ?_
  refine hv.get rfl hi fun cs hcs => ?_
  obtain ⟨rfl, _⟩ := hcs
  refine cellsV_all (n := 4) rfl (lvl_ok l) (ifL_of (Nat.le_refl 4) ?_)
  exact hQ _ (((g1.trans g2).trans g3).trans g4)

theorem c_ref18_May {c : Cfg} {i : Nat} {l : Lvl} {o : Orm} {w : Value} (hm : c.may) (hi : c.all[i]? = some l) (ho : o.root.length = 32) (hw : Sl rBlk H A w o.stash) (hl : o.stash.length ≤ 1000000)
    (hQ : ∀ H', G H H' → Q (.bool (stMay l o.stash)) H') : callV Tryd.prog (fnV fn_ref18_May) [.agg (cCfg c).toArray, .int .i64 (i : Int), .agg (cOrm o w).toArray] H Q := by
  apply S_ref18_May_of
  unfold S_ref18_May
  have hok := Cfg.all_ok hm.1 l (List.mem_of_getElem? hi)
  refine newT_of fun H1 g1 s1 => ?_
  refine cellsU_all (cOrm_len ho) ?_
  refine newT_of fun H2 g2 s2 => c_ref18_Level hm hi fun H3 g3 => ext0 (v := .agg (cLvl l).toArray) rfl (ext0 (v := .bool true) rfl ?_)
  refine newT_of fun H4 g4 s4 => cellsV_all (n := 4) rfl (lvl_ok l) ?_
  have g := ((g1.trans g2).trans g3).trans g4
  refine join_of (fun s H' => s = [[.bool (stMay l o.stash)]] ∧ G H H') (fun K hK => ?_) ?_
  · (try simp only [sv_cons, sv_cons1, sc_cons, sc_cons1, asB_bool, bin_lss, bin_leq, bin_geq, bin_gtr, bin_neq, bin_eql, un_not, Bool.not_true, Bool.not_false]); (try refine asB_mk ?_)
    refine ifT_of rfl ?_
    refine ifL_of (Nat.le_refl 4) (ifL_of (by rw [cOrm_len ho]; omega) ?_)
    rw [seg_val' (cOrm_32 ho), lvl_seg]
    exact c_ref16_May (by have := hok; unfold Lvl.ok at this; omega) (hw.g g) hl fun H5 g5 => hK _ _ ⟨rfl, g.trans g5⟩
  rintro s H' ⟨rfl, g⟩
  exact hQ _ g

theorem c_rec_Check_1 {c : Cfg} {a : Nat} {v : Value} {n : Int} (hm : c.may) (hb : Ab.Blk H a [v]) (hv : Sl rLvl H A v c.all) (hQ : Q (.bool (decide (¬ (0 ≤ n ∧ n ≤ many (lastL c).high)))) H) :
    callV Tryd.prog (.func (.func fn_rec_Check_1) #[] #[.pointer (some ⟨a, 0, none⟩)]) [.int .i64 n] H Q := by
  apply C_rec_Check_1_of
  unfold S_rec_Check_1
  have hp := Cfg.all_pos hm.1
  have hlen := hm.2
  refine hb.load rfl (hb.load rfl (hv.len ?_))
  rw [i_sub (c := c.all.length - 1) (by omega) (by omega)]
  refine hv.getF (off := 2) (m := 1) (agg := false) rfl (by omega) (lastL_get hm.1) fun cs hcs => ?_
  obtain ⟨rfl, _⟩ := hcs
  have hok := lastL_ok hm.1
  refine c_entry_Check ?_
  show binV (.int .i64) .neq (.int .i64 (entE (lastL c).high n)) (.int .i64 0) _
  simp only [bin_neq]
  have hh : ¬ highE (lastL c).high ≠ 0 := by rw [Classical.not_not]; exact highE_ok.2 (by unfold Lvl.ok at hok; omega)
  have : decide (entE (lastL c).high n ≠ 0) = decide (¬ (0 ≤ n ∧ n ≤ many (lastL c).high)) := by
    unfold entE
    rw [if_neg hh, decide_eq_decide]
    split <;> omega
  rw [this]
  exact hQ

abbrev vSto (s : Sto) (lv mv : Value) : Value := .agg #[lv, mv, .int .u64 (s.next : Int), .int .u64 (s.ticks : Int)]
/-- A store of few blocks. -/
structure Sm (s : Sto) : Prop where
  levels : s.levels.length ≤ 6
  stash : ∀ o ∈ s.levels, o.stash.length ≤ 60
  data : ∀ o ∈ s.levels, ∀ b ∈ o.stash, b.data.length ≤ 100
  map : s.map.length ≤ 100
/-- What stands for a store. -/
structure StV (H : Heap) (A : Nat → Prop) (s : Sto) (lv mv : Value) : Prop where
  l : Sl rOrm H A lv s.levels
  m : Sl (rI .i64) H A mv s.map
theorem StV.g {H' : Heap} {s : Sto} {lv mv : Value} (h : StV H A s lv mv) (hf : G H H') : StV H' A s lv mv := ⟨h.l.g hf, h.m.g hf⟩

theorem z_orm : (zeroL Tryd.prog 52).length = 33 := by kernel_rfl

theorem stE_all {c : Cfg} (hc : c.num) {l : Lvl} (hl : l ∈ c.all) {s : List Md.Blk} : stE l s ≠ 0 ↔ ¬ stMay l s = true := by
  have := Cfg.all_slots hc hl
  rw [ne_eq, stE_0]
  exact ⟨fun h h2 => h ⟨this, h2⟩, fun h h2 => h h2.2⟩

theorem c_rec_Check {c : Cfg} {s : Sto} {lv mv : Value} (hs : StV H A s lv mv) (hsm : Sm s) (hQ : ∀ (e : Int) H', G H H' → (e = 0 ∧ stoMay c s ∨ e = 8 ∧ ¬ stoMay c s) → Q (.int .i64 e) H') :
    callV Tryd.prog (fnV fn_rec_Check) [.agg (cCfg c).toArray, vSto s lv mv] H Q := by
  apply S_rec_Check_of
  unfold S_rec_Check
  refine newT_of fun H1 g1 s1 => newT_of fun H2 g2 s2 => c_conf_Levels fun v H3 hv g3 => ?_
  refine ext0 (v := v) rfl (ext0 (v := .int .i64 c.err) rfl ?_)
  refine Blk.new fun H4 b4 g4 s4 => ?_
  refine b4.store hv.okcv (by simp) fun H5 b5 f5 s5 => ?_
  have g34 := (g1.trans g2).trans g3
  have g := (g34.trans g4).then f5 fun y hy => by have := g34.size; omega
  have hv5 : Sl rLvl H5 (fun y => y < H3.size) v c.levels := (hv.mono (A' := fun y => y < H3.size) fun y _ hy => hy).up ⟨by have := g4.size; omega, fun x hx _ => (f5.same x (by have := g4.size; omega) (by omega)).trans (g4.same x hx trivial)⟩ (B := fun _ => True) fun y hy _ => ⟨trivial, hy⟩
  have b5 : Ab.Blk H5 H3.size [v] := b5
  have hs5 := hs.g g
  have no : ∀ H', G H H' → ¬ stoMay c s → Q (.int .i64 8) H' := fun H' g h => hQ 8 H' g (.inr ⟨rfl, h⟩)
  clear g1 g2 g3 hv b4 f5 g4 g34
  by_cases hm : c.may
  rotate_left
  · have e2 : c.err = 8 := if_neg hm
    rw [e2]
    refine join_of (fun s' H' => s' = [[.bool true]] ∧ H5 = H') (fun K hK => ?_) ?_
    · (try simp only [sv_cons, sv_cons1, sc_cons, sc_cons1, asB_bool, bin_lss, bin_leq, bin_geq, bin_gtr, bin_neq, bin_eql, un_not, Bool.not_true, Bool.not_false]); (try refine asB_mk ?_)
      exact ifT_of (by rfl) (hK _ _ ⟨rfl, rfl⟩)
    rintro s' H' ⟨rfl, rfl⟩
    (try simp only [sv_cons, sv_cons1, sc_cons, sc_cons1, asB_bool, bin_lss, bin_leq, bin_geq, bin_gtr, bin_neq, bin_eql, un_not, Bool.not_true, Bool.not_false]); (try refine asB_mk ?_)
    exact ifT_of rfl (no _ g fun h => hm h.1)
  have e1 : c.levels = c.all := if_pos hm
  have e2 : c.err = 0 := if_pos hm
  rw [e2]
  rw [e1] at hv5
  have hp := Cfg.all_pos hm.1
  have hlen := hm.2
  refine join_of (fun s' H' => s' = [[.bool (decide (¬ (s.levels.length = c.all.length ∧ (s.map.length : Int) = (lastL c).blocks)))]] ∧ H5 = H') (fun K hK => ?_) ?_
  · (try simp only [sv_cons, sv_cons1, sc_cons, sc_cons1, asB_bool, bin_lss, bin_leq, bin_geq, bin_gtr, bin_neq, bin_eql, un_not, Bool.not_true, Bool.not_false]); (try refine asB_mk ?_)
    refine ifF_of (by rfl) ?_
    refine hs5.l.len (b5.load rfl (hv5.len ?_))
    (try simp only [sv_cons, sv_cons1, sc_cons, sc_cons1, asB_bool, bin_lss, bin_leq, bin_geq, bin_gtr, bin_neq, bin_eql, un_not, Bool.not_true, Bool.not_false]); (try refine asB_mk ?_)
    refine ifD_of (fun c1 => hK _ _ ⟨?_, rfl⟩) (fun c1 => ?_)
    · rw [decide_eq_true (by omega)]
    · refine hs5.m.len (b5.load rfl (b5.load rfl (hv5.len ?_)))
      rw [i_sub (c := c.all.length - 1) (by omega) (by omega)]
      refine hv5.getF (off := 0) (m := 1) (agg := false) rfl (by omega) (lastL_get hm.1) fun cs hcs => ?_
      obtain ⟨rfl, _⟩ := hcs
      show binV (.int .i64) .neq (.int .i64 (s.map.length : Int)) (.int .i64 (lastL c).blocks) _
      simp only [bin_neq]
      refine hK _ _ ⟨?_, rfl⟩
      congr 3
      simp only [decide_eq_decide]; omega
  rintro s' H' ⟨rfl, rfl⟩
  (try simp only [sv_cons, sv_cons1, sc_cons, sc_cons1, asB_bool, bin_lss, bin_leq, bin_geq, bin_gtr, bin_neq, bin_eql, un_not, Bool.not_true, Bool.not_false]); (try refine asB_mk ?_)
  refine ifD_of (fun c1 => no _ g fun h => c1 h.2.1) (fun c1 => ?_)
  have hlens := Classical.not_not.1 c1
  refine hs5.l.len ?_
  refine loop_up s.levels.length (fun i s' H' => s' = [[.int .i64 (i : Int)]] ∧ G H5 H' ∧ ∀ j, j < i → ∀ l o, c.all[j]? = some l → s.levels[j]? = some o → stMay l o.stash = true) ⟨rfl, Fr.refl _ _, fun j hj => by omega⟩ ?_
  rintro i s' H6 K hi ⟨rfl, g6, hall⟩ hK
  (try simp only [sv_cons, sv_cons1, sc_cons, sc_cons1, asB_bool, bin_lss, bin_leq, bin_geq, bin_gtr, bin_neq, bin_eql, un_not, Bool.not_true, Bool.not_false]); (try refine asB_mk ?_)
  refine ifD_of (fun c2 => ?_) (fun c2 => ?_)
  · have hi' : i < s.levels.length := by omega
    have hx := List.getElem?_eq_getElem hi'
    have hl := List.getElem?_eq_getElem (show i < c.all.length by omega)
    have hmem := List.getElem_mem hi'
    have hlm := List.getElem_mem (show i < c.all.length by omega)
    generalize s.levels[i] = o at *
    generalize c.all[i]'(by omega) = l at *
    refine (hs5.l.g g6).get rfl hx fun cs hcs => ?_
    obtain ⟨w, rfl, hr, hw⟩ := hcs
    refine newT_of fun H7 g7 s7 => ?_
    refine cellsV_all (cOrm_len hr) (cOrm_ok hw.okcv) ?_
    refine ifL_of (by rw [z_orm]; omega) (ifL_of (by rw [setSeg_all (by rw [z_orm, cOrm_len hr]), cOrm_len hr]; omega) ?_)
    rw [setSeg_all (by rw [z_orm, cOrm_len hr]), seg_all (cOrm_len hr)]
    refine c_oram_Check hm hl hr (hw.g g7) (by have := hsm.stash o hmem; omega) fun H8 g8 => ?_
    have gg := (g6.trans g7).trans g8
    (try simp only [sv_cons, sv_cons1, sc_cons, sc_cons1, asB_bool, bin_lss, bin_leq, bin_geq, bin_gtr, bin_neq, bin_eql, un_not, Bool.not_true, Bool.not_false]); (try refine asB_mk ?_)
    refine ifD_of (fun c3 => no _ (g.trans gg) fun h => (stE_all hm.1 hlm).1 c3 (h.2.2.1 i l o hl hx)) (fun c3 => ?_)
    have hmay : stMay l o.stash = true := Classical.byContradiction fun h => c3 ((stE_all hm.1 hlm).2 h)
    rw [i_add (c := i + 1) (by omega) (by omega)]
    refine hK _ _ hi' ⟨rfl, gg, fun j hj l' o' hl' ho' => ?_⟩
    by_cases e : j = i
    · subst e
      rw [hl] at hl'; rw [hx] at ho'
      cases hl'; cases ho'
      exact hmay
    · exact hall j (by omega) l' o' hl' ho'
  · have hin : i = s.levels.length := by omega
    refine c_ContainsFunc_int (fun n => decide (¬ (0 ≤ n ∧ n ≤ many (lastL c).high))) (hs5.m.g g6) (by have := hsm.map; omega)
      (fun x _ H' K g' hK => c_rec_Check_1 hm ((b5.g g6).g g') ((hv5.g g6).g g') (hK _ (Fr.refl _ _))) fun H7 g7 => ?_
    (try simp only [sv_cons, sv_cons1, sc_cons, sc_cons1, asB_bool, bin_lss, bin_leq, bin_geq, bin_gtr, bin_neq, bin_eql, un_not, Bool.not_true, Bool.not_false]); (try refine asB_mk ?_)
    have gg := (g.trans g6).trans g7
    refine ifB_of (fun hb => no _ gg fun h => ?_) (fun hb => hQ 0 _ gg (.inl ⟨rfl, hm, hlens, fun j l o hl ho => hall j (by have := (List.getElem?_eq_some_iff.1 ho).1; omega) l o hl ho, fun n hn => ?_⟩))
    · obtain ⟨x, hx, hb⟩ := List.any_eq_true.1 hb
      exact (of_decide_eq_true hb) (h.2.2.2 x hx)
    · have := List.any_eq_false.1 hb n hn
      simpa using this

theorem c_ref20_May {c : Cfg} {s : Sto} {lv mv : Value} (hs : StV H A s lv mv) (hsm : Sm s) (hQ : ∀ (b : Bool) H', G H H' → (b = true ↔ stoMay c s) → Q (.bool b) H') :
    callV Tryd.prog (fnV fn_ref20_May) [.agg (cCfg c).toArray, vSto s lv mv] H Q := by
  apply S_ref20_May_of
  unfold S_ref20_May
  have no : ∀ H', G H H' → ¬ stoMay c s → Q (.bool false) H' := fun H' g h => hQ false H' g ⟨(fun h => by cases h), fun h' => absurd h' h⟩
  refine newT_of fun H1 g1 s1 => newT_of fun H2 g2 s2 => c_ref08_May fun H3 g3 => ?_
  have g := (g1.trans g2).trans g3
  by_cases hm : c.may
  rotate_left
  · rw [decide_eq_false hm]
    (try simp only [sv_cons, sv_cons1, sc_cons, sc_cons1, asB_bool, bin_lss, bin_leq, bin_geq, bin_gtr, bin_neq, bin_eql, un_not, Bool.not_true, Bool.not_false]); (try refine asB_mk ?_)
    exact ifT_of rfl (no _ g fun h => hm h.1)
  rw [decide_eq_true hm]
  (try simp only [sv_cons, sv_cons1, sc_cons, sc_cons1, asB_bool, bin_lss, bin_leq, bin_geq, bin_gtr, bin_neq, bin_eql, un_not, Bool.not_true, Bool.not_false]); (try refine asB_mk ?_)
  refine ifF_of rfl ?_
  refine c_ref08_All hm.1 fun v H4 hv g4 => ?_
  have g := g.trans g4
  have hp := Cfg.all_pos hm.1
  have hlen := hm.2
  have hok := lastL_ok hm.1
  refine hv.len ?_
  rw [i_sub (c := c.all.length - 1) (by omega) (by omega)]
  refine hv.get rfl (lastL_get hm.1) fun cs hcs => ?_
  obtain ⟨rfl, _⟩ := hcs
  refine newT_of fun H5 g5 s5 => cellsV_all (n := 4) rfl (lvl_ok _) ?_
  have hv5 := hv.g g5
  have g := g.trans g5
  have hs5 := hs.g g
  refine join_of (fun s' H' => s' = [[.bool (decide (¬ (s.levels.length = c.all.length ∧ (s.map.length : Int) = (lastL c).blocks)))]] ∧ H5 = H') (fun K hK => ?_) ?_
  · refine hs5.l.len (hv5.len ?_)
    (try simp only [sv_cons, sv_cons1, sc_cons, sc_cons1, asB_bool, bin_lss, bin_leq, bin_geq, bin_gtr, bin_neq, bin_eql, un_not, Bool.not_true, Bool.not_false]); (try refine asB_mk ?_)
    refine ifD_of (fun c1 => hK _ _ ⟨?_, rfl⟩) (fun c1 => ?_)
    · rw [decide_eq_true (by omega)]
    · refine hs5.m.len (ifL_of (show 0 + 1 ≤ 4 by omega) ?_)
      show binV (.int .i64) .neq (.int .i64 (s.map.length : Int)) (.int .i64 (lastL c).blocks) _
      simp only [bin_neq]
      refine hK _ _ ⟨?_, rfl⟩
      congr 3
      simp only [decide_eq_decide]; omega
  rintro s' H' ⟨rfl, rfl⟩
  (try simp only [sv_cons, sv_cons1, sc_cons, sc_cons1, asB_bool, bin_lss, bin_leq, bin_geq, bin_gtr, bin_neq, bin_eql, un_not, Bool.not_true, Bool.not_false]); (try refine asB_mk ?_)
  refine ifD_of (fun c1 => no _ g fun h => c1 h.2.1) (fun c1 => ?_)
  have hlens := Classical.not_not.1 c1
  refine loop_up c.all.length (fun i s' H' => s' = [[.int .i64 (i : Int)]] ∧ G H5 H' ∧ ∀ j, j < i → ∀ l o, c.all[j]? = some l → s.levels[j]? = some o → stMay l o.stash = true) ⟨rfl, Fr.refl _ _, fun j hj => by omega⟩ ?_
  rintro i s' H6 K hi ⟨rfl, g6, hall⟩ hK
  refine (hv5.g g6).len ?_
  (try simp only [sv_cons, sv_cons1, sc_cons, sc_cons1, asB_bool, bin_lss, bin_leq, bin_geq, bin_gtr, bin_neq, bin_eql, un_not, Bool.not_true, Bool.not_false]); (try refine asB_mk ?_)
  refine ifD_of (fun c2 => ?_) (fun c2 => ?_)
  · have hi' : i < s.levels.length := by omega
    have hx := List.getElem?_eq_getElem hi'
    have hl := List.getElem?_eq_getElem (show i < c.all.length by omega)
    have hmem := List.getElem_mem hi'
    generalize s.levels[i] = o at *
    generalize c.all[i]'(by omega) = l at *
    refine (hs5.l.g g6).get rfl hx fun cs hcs => ?_
    obtain ⟨w, rfl, hr, hw⟩ := hcs
    refine c_ref18_May hm hl hr hw (by have := hsm.stash o hmem; omega) fun H8 g8 => ?_
    have gg := g6.trans g8
    (try simp only [sv_cons, sv_cons1, sc_cons, sc_cons1, asB_bool, bin_lss, bin_leq, bin_geq, bin_gtr, bin_neq, bin_eql, un_not, Bool.not_true, Bool.not_false]); (try refine asB_mk ?_)
    by_cases hmay : stMay l o.stash = true
    · rw [hmay]
      refine ifF_of rfl ?_
      rw [i_add (c := i + 1) (by omega) (by omega)]
      refine hK _ _ (by omega) ⟨rfl, gg, fun j hj l' o' hl' ho' => ?_⟩
      by_cases e : j = i
      · subst e
        rw [hl] at hl'; rw [hx] at ho'
        cases hl'; cases ho'
        exact hmay
      · exact hall j (by omega) l' o' hl' ho'
    · rw [Bool.not_eq_true] at hmay
      rw [hmay]
      exact ifT_of rfl (no _ (g.trans gg) fun h => by rw [h.2.2.1 i l o hl hx] at hmay; cases hmay)
  · refine loop_up s.map.length (fun i s' H' => s' = [[.int .i64 (i : Int)]] ∧ G H5 H' ∧ ∀ n ∈ s.map.take i, 0 ≤ n ∧ n ≤ many (lastL c).high) ⟨rfl, g6, by simp⟩ ?_
    rintro k s' H7 K2 hk ⟨rfl, g7, hmp⟩ hK2
    have hmap := hsm.map
    refine (hs5.m.g g7).len ?_
    (try simp only [sv_cons, sv_cons1, sc_cons, sc_cons1, asB_bool, bin_lss, bin_leq, bin_geq, bin_gtr, bin_neq, bin_eql, un_not, Bool.not_true, Bool.not_false]); (try refine asB_mk ?_)
    refine ifD_of (fun c3 => ?_) (fun c3 => ?_)
    · have hk' : k < s.map.length := by omega
      have hx := List.getElem?_eq_getElem hk'
      refine ifL_of (show 2 + 1 ≤ 4 by omega) ?_
      refine (hs5.m.g g7).getI hx fun hw => ?_
      refine c_ref19_May (h := (lastL c).high) (n := s.map[k]) (by unfold Lvl.ok at hok; omega) ?_
      (try simp only [sv_cons, sv_cons1, sc_cons, sc_cons1, asB_bool, bin_lss, bin_leq, bin_geq, bin_gtr, bin_neq, bin_eql, un_not, Bool.not_true, Bool.not_false]); (try refine asB_mk ?_)
      by_cases hn : 0 ≤ s.map[k] ∧ s.map[k] ≤ many (lastL c).high
      · rw [decide_eq_true hn]
        refine ifF_of rfl ?_
        rw [i_add (c := k + 1) (by omega) (by omega)]
        refine hK2 _ _ hk' ⟨rfl, g7, fun n hn' => ?_⟩
        rw [List.take_add_one, hx] at hn'
        rcases List.mem_append.1 hn' with h | h
        · exact hmp n h
        · simp at h; rw [h]; exact hn
      · rw [decide_eq_false hn]
        exact ifT_of rfl (no _ (g.trans g7) fun h => hn (h.2.2.2 _ (List.getElem_mem hk')))
    · have : k = s.map.length := by omega
      subst this
      rw [List.take_length] at hmp
      exact hQ true _ (g.trans g7) ⟨fun _ => ⟨hm, hlens, fun j l o hl ho => hall j (by have := (List.getElem?_eq_some_iff.1 hl).1; omega) l o hl ho, hmp⟩, fun _ => rfl⟩

theorem ints_step {xs ys : List Int} {i : Nat} (h : xs.take i = ys.take i) (h1 : i < xs.length) (h2 : i < ys.length) (e : xs[i] = ys[i]) : xs.take (i + 1) = ys.take (i + 1) := by
  rw [List.take_succ_eq_append_getElem h1, List.take_succ_eq_append_getElem h2, h, e]

theorem c_ref01_SameInts {a b : Value} {xs ys : List Int} (ha : Sl (rI .i64) H A a xs) (hb : Sl (rI .i64) H B b ys) (hl : xs.length ≤ 1000000) (hQ : Q (.bool (decide (xs = ys))) H) : callV Tryd.prog (fnV fn_ref01_SameInts) [a, b] H Q := by
  apply S_ref01_SameInts_of
  unfold S_ref01_SameInts
  refine ha.len (hb.len ?_)
  try simp only [sv_cons, sv_cons1, sc_cons, sc_cons1, asB_bool, ifB_true, ifB_false, un_not, bin_lss, bin_leq, bin_gtr, bin_geq, bin_eql, bin_neq, bin_add, bin_sub, bin_mul, ok_int, ok_bool, ok_slice, ok_str, ok_ptr, ok_map, ok_func, ok_iface, ok_nil, List.all_cons, List.all_nil, Bool.and_true, Bool.true_and, seg, setSeg, List.drop_succ_cons, List.drop_zero, List.take_succ_cons, List.take_zero, List.cons_append, List.nil_append, List.append_nil, List.length_cons, List.length_nil, List.drop_nil, List.size_toArray, Nat.reduceAdd, Nat.reduceLeDiff, Nat.reduceBEq, Nat.zero_add, Nat.le_refl, decide_true, mkV, List.headD_cons, cellsV, w_fldV, w_ext, w_fldP, List.getElem?_toArray, List.getElem?_cons_zero, List.getElem?_cons_succ, beq_self_eq_true, selV]
  refine ifD_of (fun h => ?_) (fun h => ?_)
  · rw [decide_eq_false (fun e => h (by rw [e]))] at hQ; exact hQ
  have hlen : xs.length = ys.length := by omega
  refine loop_up xs.length (fun i s H' => H' = H ∧ s = [[.int .i64 (i : Int)]] ∧ xs.take i = ys.take i) ⟨rfl, rfl, by simp⟩ ?_
  rintro i s H' K hi ⟨rfl, rfl, he⟩ hK
  refine ha.len ?_
  try simp only [sv_cons, sv_cons1, sc_cons, sc_cons1, asB_bool, ifB_true, ifB_false, un_not, bin_lss, bin_leq, bin_gtr, bin_geq, bin_eql, bin_neq, bin_add, bin_sub, bin_mul, ok_int, ok_bool, ok_slice, ok_str, ok_ptr, ok_map, ok_func, ok_iface, ok_nil, List.all_cons, List.all_nil, Bool.and_true, Bool.true_and, seg, setSeg, List.drop_succ_cons, List.drop_zero, List.take_succ_cons, List.take_zero, List.cons_append, List.nil_append, List.append_nil, List.length_cons, List.length_nil, List.drop_nil, List.size_toArray, Nat.reduceAdd, Nat.reduceLeDiff, Nat.reduceBEq, Nat.zero_add, Nat.le_refl, decide_true, mkV, List.headD_cons, cellsV, w_fldV, w_ext, w_fldP, List.getElem?_toArray, List.getElem?_cons_zero, List.getElem?_cons_succ, beq_self_eq_true, selV]
  refine ifD_of (fun h1 => ?_) (fun h1 => ?_)
  · have l1 : i < xs.length := by omega
    have l2 : i < ys.length := by omega
    refine ha.getI (List.getElem?_eq_getElem l1) fun _ => hb.getI (List.getElem?_eq_getElem l2) fun _ => ?_
    try simp only [sv_cons, sv_cons1, sc_cons, sc_cons1, asB_bool, ifB_true, ifB_false, un_not, bin_lss, bin_leq, bin_gtr, bin_geq, bin_eql, bin_neq, bin_add, bin_sub, bin_mul, ok_int, ok_bool, ok_slice, ok_str, ok_ptr, ok_map, ok_func, ok_iface, ok_nil, List.all_cons, List.all_nil, Bool.and_true, Bool.true_and, seg, setSeg, List.drop_succ_cons, List.drop_zero, List.take_succ_cons, List.take_zero, List.cons_append, List.nil_append, List.append_nil, List.length_cons, List.length_nil, List.drop_nil, List.size_toArray, Nat.reduceAdd, Nat.reduceLeDiff, Nat.reduceBEq, Nat.zero_add, Nat.le_refl, decide_true, mkV, List.headD_cons, cellsV, w_fldV, w_ext, w_fldP, List.getElem?_toArray, List.getElem?_cons_zero, List.getElem?_cons_succ, beq_self_eq_true, selV]
    refine ifD_of (fun h2 => ?_) (fun h2 => ?_)
    · rw [decide_eq_false (fun e => h2 (by simp only [e]))] at hQ; exact hQ
    · rw [wrap_i64 (by unfold i64; omega)]
      exact hK _ _ l1 ⟨rfl, by simp, ints_step he l1 l2 (Classical.not_not.1 h2)⟩
  · rw [List.take_of_length_le (by omega), List.take_of_length_le (by omega)] at he
    rw [decide_eq_true he] at hQ; exact hQ

theorem c_IndexFunc_Orm {v fv : Value} {xs : List Orm} (f : Orm → Bool) (hv : Sl rOrm H A v xs) (hl : xs.length ≤ 1000000)
    (hf : ∀ o ∈ xs, ∀ w H' (K : Value → Heap → Prop), G H H' → Sl rBlk H' A w o.stash → o.root.length = 32 → (∀ H'', G H' H'' → K (.bool (f o)) H'') → callV Tryd.prog fv [.agg (cOrm o w).toArray] H' K)
    (hQ : ∀ k H', G H H' → (0 ≤ k ↔ xs.any f = true) → Q (.int .i64 k) H') : callV Tryd.prog (fnV fn_slices_IndexFunc_api_Oram_api_Oram) [v, fv] H Q := by
  apply S_slices_IndexFunc_api_Oram_api_Oram_of
  unfold S_slices_IndexFunc_api_Oram_api_Oram
  refine hv.len ?_
  refine loop_up xs.length (fun i s H' => s = [[.int .i64 (i : Int)]] ∧ G H H' ∧ ∀ x ∈ xs.take i, f x = false) ⟨rfl, Fr.refl _ _, by simp⟩ ?_
  rintro i s H' K hi ⟨rfl, gt, hno⟩ hK
  (try simp only [sv_cons, sv_cons1, sc_cons, sc_cons1, asB_bool, bin_lss, bin_leq, bin_geq, bin_gtr, bin_neq, bin_eql, un_not, Bool.not_true, Bool.not_false]); (try refine asB_mk ?_)
  refine ifD_of (fun c => ?_) (fun c => ?_)
  · have hi' : i < xs.length := by omega
    have hx := List.getElem?_eq_getElem hi'
    refine (hv.g gt).get rfl hx fun cs hcs => ?_
    obtain ⟨w, rfl, hr, hw⟩ := hcs
    refine hf _ (List.getElem_mem hi') w _ _ gt hw hr fun H2 g2 => ?_
    (try simp only [sv_cons, sv_cons1, sc_cons, sc_cons1, asB_bool, bin_lss, bin_leq, bin_geq, bin_gtr, bin_neq, bin_eql, un_not, Bool.not_true, Bool.not_false]); (try refine asB_mk ?_)
    refine ifB_of (fun hb => ?_) (fun hb => ?_)
    · refine hQ _ _ (gt.trans g2) ⟨fun _ => List.any_eq_true.2 ⟨_, List.getElem_mem hi', hb⟩, fun _ => by omega⟩
    · rw [i_add (c := i + 1) (by omega) (by omega)]
      refine hK _ _ hi' ⟨rfl, gt.trans g2, fun x hx' => ?_⟩
      rw [List.take_add_one, hx] at hx'
      rcases List.mem_append.1 hx' with h | h
      · exact hno x h
      · simp at h; rw [h]; exact hb
  · have : i = xs.length := by omega
    subst this
    rw [List.take_length] at hno
    refine hQ _ _ gt ⟨fun h => by omega, fun h => ?_⟩
    obtain ⟨x, hx, hb⟩ := List.any_eq_true.1 h
    rw [hno x hx] at hb; cases hb

theorem c_ContainsFunc_Orm {v fv : Value} {xs : List Orm} (f : Orm → Bool) (hv : Sl rOrm H A v xs) (hl : xs.length ≤ 1000000)
    (hf : ∀ o ∈ xs, ∀ w H' (K : Value → Heap → Prop), G H H' → Sl rBlk H' A w o.stash → o.root.length = 32 → (∀ H'', G H' H'' → K (.bool (f o)) H'') → callV Tryd.prog fv [.agg (cOrm o w).toArray] H' K)
    (hQ : ∀ H', G H H' → Q (.bool (xs.any f)) H') : callV Tryd.prog (fnV fn_slices_ContainsFunc_api_Oram_api_Oram) [v, fv] H Q := by
  apply S_slices_ContainsFunc_api_Oram_api_Oram_of
  unfold S_slices_ContainsFunc_api_Oram_api_Oram
  refine c_IndexFunc_Orm f hv hl hf fun k H' g hk => ?_
  (try simp only [sv_cons, sv_cons1, sc_cons, sc_cons1, asB_bool, bin_lss, bin_leq, bin_geq, bin_gtr, bin_neq, bin_eql, un_not, Bool.not_true, Bool.not_false]); (try refine asB_mk ?_)
  rw [show decide (0 ≤ k) = xs.any f by rw [Bool.eq_iff_iff, decide_eq_true_iff]; exact hk]
  exact hQ _ g

theorem c_token_Seal_1 {c : Cfg} {a : Nat} {o : Orm} {w : Value} (hb : Ab.Blk H a (cCfg c)) (hw : Sl rBlk H A w o.stash) (hr : o.root.length = 32) (hQ : ∀ H', G H H' → Q (.bool (decide ((o.stash.length : Int) > c.stash))) H') :
    callV Tryd.prog (.func (.func fn_token_Seal_1) #[] #[.pointer (some ⟨a, 0, none⟩)]) [.agg (cOrm o w).toArray] H Q := by
  apply C_token_Seal_1_of
  unfold S_token_Seal_1
  refine cellsU_all (cOrm_len hr) ?_
  refine newT_of fun H1 g1 s1 => ifL_of (by rw [cOrm_len hr]; omega) ?_
  rw [seg_val' (cOrm_32 hr)]
  refine hw.len ?_
  simp only [w_fldP]
  refine (hb.g g1).load (v := .int .i64 c.stash) rfl ?_
  simp only [bin_gtr]
  exact hQ _ g1

theorem dig_eq {xs ys : List UInt8} {k : Value → Prop} (hx : xs.length = 32) (hy : ys.length = 32) (h : k (.bool (decide (xs = ys)))) : eqV Tryd.prog 49 .eql (.agg (xs.map b8).toArray) (.agg (ys.map b8).toArray) k := by
  obtain ⟨e, ht, he, hz⟩ : ∃ e, Tryd.prog.underlying 49 = some (.array 32 e) ∧ Tryd.prog.underlying e = some (.int .u8) ∧ szOf Tryd.prog e = some 1 := ⟨5, by kernel_rfl, by kernel_rfl, by kernel_rfl⟩
  refine ⟨_, fun ox oy w => ?_, h⟩
  have hg : (eqGuard .eql 49 ox oy (.agg (xs.map b8).toArray) (.agg (ys.map b8).toArray)).run Tryd.prog w = .ok () w := run_eqGuard_agg w .eql 49 ox oy _ _ (by kernel_rfl)
  have hb := run_eql_bytes (P := Tryd.prog) w 49 e 32 ht he (fun w => run_sizeOf' hz) xs ys hx hy
  have e2 : (xs == ys) = decide (xs = ys) := by by_cases h : xs = ys <;> simp [h]
  rw [e2] at hb
  simp only [Sem.run_bind, hg, Result.andThen_ok]
  exact hb

theorem Orm.eq {a b : Orm} : a = b ↔ a.root = b.root ∧ a.stash = b.stash := by cases a; cases b; simp

theorem cOrm_seg {x : Orm} {w : Value} (h : x.root.length = 32) : seg (cOrm x w) 0 32 = x.root.map b8 := seg_app (by rw [List.length_map, h])

theorem c_ref18_SameOram {a b : Orm} {v w : Value} (ha : Sl rBlk H A v a.stash) (hb : Sl rBlk H B w b.stash) (hra : a.root.length = 32) (hrb : b.root.length = 32) (hl : a.stash.length ≤ 1000000)
    (hQ : ∀ H', G H H' → Q (.bool (decide (a = b))) H') : callV Tryd.prog (fnV fn_ref18_SameOram) [.agg (cOrm a v).toArray, .agg (cOrm b w).toArray] H Q := by
  apply S_ref18_SameOram_of
  unfold S_ref18_SameOram
  refine cellsU_all (cOrm_len hra) (newT_of fun H1 g1 s1 => cellsU_all (cOrm_len hrb) (newT_of fun H2 g2 s2 => ?_))
  have g := g1.trans g2
  refine join_of (fun s' H' => s' = [[.bool (decide (a = b))]] ∧ G H H') (fun K hK => ?_) ?_
  · refine ifL_of (by rw [cOrm_len hra]; omega) (ifL_of (by rw [cOrm_len hrb]; omega) ?_)
    rw [cOrm_seg hra, cOrm_seg hrb]
    refine dig_eq hra hrb ?_
    (try simp only [sv_cons, sv_cons1, sc_cons, sc_cons1, asB_bool, bin_lss, bin_leq, bin_geq, bin_gtr, bin_neq, bin_eql, un_not, Bool.not_true, Bool.not_false]); (try refine asB_mk ?_)
    refine ifD_of (fun c1 => ?_) (fun c1 => ?_)
    · refine ifL_of (by rw [cOrm_len hra]; omega) (ifL_of (by rw [cOrm_len hrb]; omega) ?_)
      rw [seg_val' (cOrm_32 hra), seg_val' (cOrm_32 hrb)]
      refine c_ref09_SameAll (ha.g g) (hb.g g) (by omega) fun H3 g3 => hK _ _ ⟨?_, g.trans g3⟩
      congr 3
      rw [decide_eq_decide, Orm.eq]
      exact ⟨fun h => ⟨c1, h⟩, fun h => h.2⟩
    · refine hK _ _ ⟨?_, g⟩
      rw [decide_eq_false (fun h => c1 (Orm.eq.1 h).1)]
  · rintro s' H' ⟨rfl, g⟩
    exact hQ _ g

theorem cOrm_set {x : Orm} {w u : Value} (h : x.root.length = 32) : setSeg (cOrm x w) 32 [u] = cOrm x u := by
  rw [setSeg_val' (by rw [cOrm_len h]; omega)]
  unfold cOrm
  rw [List.set_append_right _ _ (by rw [List.length_map]; omega)]; simp [h]

theorem c_ref18_TwinOram {o : Orm} {w : Value} (hw : Sl rBlk H A w o.stash) (hr : o.root.length = 32) (hl : o.stash.length ≤ 1000) (hf : ∀ b ∈ o.stash, fits b)
    (hQ : ∀ u H', Sl rBlk H' (fun y => H.size ≤ y) u o.stash → G H H' → Q (.agg (cOrm o u).toArray) H') : callV Tryd.prog (fnV fn_ref18_TwinOram) [.agg (cOrm o w).toArray] H Q := by
  apply S_ref18_TwinOram_of
  unfold S_ref18_TwinOram
  refine cellsU_all (cOrm_len hr) (newT_of fun H1 g1 s1 => newT_of fun H2 g2 s2 => ?_)
  have g := g1.trans g2
  have gs := g.size
  refine ifL_of (by rw [cOrm_len hr]; omega) ?_
  rw [seg_val' (cOrm_32 hr)]
  refine c_ref09_TwinAll (hw.g g) hl hf fun u H3 hu g3 => ?_
  refine ifT_of hu.okcv (ifL_of (by rw [cOrm_len hr]; omega) ?_)
  rw [cOrm_set hr, seg_all (cOrm_len hr)]
  refine ifL_of (by rw [cOrm_len hr]; omega) (cellsV_all (cOrm_len hr) (cOrm_ok hu.okcv) ?_)
  refine ifL_of (by rw [z_orm]; omega) ?_
  rw [setSeg_all (by rw [z_orm, cOrm_len hr]), seg_all (cOrm_len hr)]
  exact ifL_of (by rw [cOrm_len hr]; omega) (hQ u H3 (hu.mono fun y hy _ => by omega) (g.trans g3))

theorem c_ref20_TwinStore {s : Sto} {lv mv : Value} (hs : StV H A s lv mv) (hsm : Sm s) (hQ : ∀ lv' mv' H', StV H' (fun y => H.size ≤ y) s lv' mv' → G H H' → Q (vSto s lv' mv') H') :
    callV Tryd.prog (fnV fn_ref20_TwinStore) [vSto s lv mv] H Q := by
  apply S_ref20_TwinStore_of
  unfold S_ref20_TwinStore
  refine newT_of fun H1 g1 s1 => newT_of fun H2 g2 s2 => ?_
  have g := g1.trans g2
  have hm := hsm.map
  have hlv := hsm.levels
  refine join_of (fun s' H' => ∃ mv', s' = [[.slice none 0 0, mv', .int .u64 (s.next : Int), .int .u64 (s.ticks : Int)]] ∧ Sl (rI .i64) H' (fun y => H.size ≤ y) mv' s.map ∧ G H H') (fun K hK => ?_) ?_
  · have app : ∀ (H' H'' : Heap) (t : Value) (K2 : Value → Heap → Prop), G H H' → Bd (rI .i64) H H' t [] → G H' H'' → (∀ w H3, Sl (rI .i64) H3 (fun y => H.size ≤ y) w s.map → G H H3 → K2 w H3) → appS 3 1 8 (zeroL Tryd.prog 3) t mv H'' K2 := by
      intro H' H'' t K2 g' bd g'' hk
      refine bd.app g'' ((hs.m.g g').g g'').src.fI rfl (by omega) (by kernel_rfl) (fun y hy => hy.elim) (by simp; omega) (by simp; omega) fun w H3 bd3 => ?_
      rw [List.nil_append] at bd3
      exact hk w H3 bd3.sl bd3.g
    have nl : ∀ (H' : Heap) (K2 : Value → Heap → Prop), G H H' → (∀ t H3, Bd (rI .i64) H H3 t [] → G H' H3 → K2 t H3) → bldS 3 1 false (zeroL Tryd.prog 3) 0 [] H' K2 := by
      intro H' K2 g' hk
      refine bld_nil (rI .i64) fun t H3 ht g3 s3 => hk t H3 ⟨g'.trans g3, _, ht.mono fun y hy _ => hy.elim, .inr (by have := g'.size; omega)⟩ g3
    refine ⟨nl _ _ g fun t H3 bd g3 => ⟨?_, ?_⟩, ?_⟩
    · refine app H3 H3 t _ (g.trans g3) bd (Fr.refl _ _) fun w H4 hw g4 => ?_
      refine ifT_of hw.okcv (ifT_of rfl (ifT_of rfl ?_))
      refine newT_of fun H5 g5 s5 => ifT_of (by simp only [List.all_cons, hw.okcv]; rfl) ?_
      exact hK _ _ ⟨w, rfl, hw.g g5, g4.trans g5⟩
    · refine newT_of fun H4 g4 s4 => ?_
      refine app H3 H4 t _ (g.trans g3) bd g4 fun w H5 hw g5 => ?_
      refine ifT_of hw.okcv (ifT_of rfl (ifT_of rfl (ifT_of (by simp only [List.all_cons, hw.okcv]; rfl) ?_)))
      exact hK _ _ ⟨w, rfl, hw, g5⟩
    · refine newT_of fun H3 g3 s3 => nl _ _ (g.trans g3) fun t H4 bd g4 => ?_
      refine app H4 H4 t _ ((g.trans g3).trans g4) bd (Fr.refl _ _) fun w H5 hw g5 => ?_
      refine ifT_of hw.okcv (ifT_of rfl (ifT_of rfl (ifT_of (by simp only [List.all_cons, hw.okcv]; rfl) ?_)))
      exact hK _ _ ⟨w, rfl, hw, g5⟩
  rintro s' H3 ⟨mv', rfl, hmv, g3⟩
  refine loop_up s.levels.length (fun i s' H' => ∃ u, s' = [[u, mv', .int .u64 (s.next : Int), .int .u64 (s.ticks : Int)], [.int .i64 (i : Int)]] ∧ Bd rOrm H3 H' u (s.levels.take i)) ⟨.slice none 0 0, rfl, by simpa using Bd.nil rOrm (Fr.refl _ H3)⟩ ?_
  rintro i s' H4 K hi ⟨u, rfl, bd⟩ hK
  have gt := g3.trans bd.g
  have gts := g3.size
  refine (hs.l.g gt).len ?_
  (try simp only [sv_cons, sv_cons1, sc_cons, sc_cons1, asB_bool, bin_lss, bin_leq, bin_geq, bin_gtr, bin_neq, bin_eql, un_not, Bool.not_true, Bool.not_false]); (try refine asB_mk ?_)
  refine ifD_of (fun c => ?_) (fun c => ?_)
  · have hi' : i < s.levels.length := by omega
    have hx := List.getElem?_eq_getElem hi'
    have hmem := List.getElem_mem hi'
    have hst := hsm.stash _ hmem
    have hda := hsm.data _ hmem
    have htk : s.levels.take (i + 1) = s.levels.take i ++ [s.levels[i]] := by rw [List.take_add_one, hx]; rfl
    generalize s.levels[i] = o at *
    have hlt : (s.levels.take i).length ≤ 6 := by rw [List.length_take]; omega
    refine ifL_of (Nat.le_add_left 1 3) ?_
    refine (hs.l.g gt).get rfl hx fun cs hcs => ?_
    obtain ⟨w, rfl, hr, hw⟩ := hcs
    refine c_ref18_TwinOram hw hr (by omega) (fun b hb => by have := hda b hb; unfold fits; omega) fun u' H5 hu' g5 => ?_
    rw [seg_val' (i := 0) (v := u) rfl]
    refine bd.push (A' := fun y => H4.size ≤ y) (agg := true) (u := .agg (cOrm o u').toArray) (x := o) g5 ⟨cOrm o u', rfl, u', rfl, hr, hu'⟩ rfl (by omega) (fun h => by cases h) z_orm z_orm (fun y hy _ => hy) (by omega) (by omega) fun w' H6 bd6 => ?_
    refine ifT_of bd6.okcv (ifL_of (Nat.le_add_left 1 3) ?_)
    rw [i_add (c := i + 1) (by omega) (by omega)]
    exact hK _ _ hi' ⟨w', rfl, by rw [htk]; exact bd6⟩
  · have : i = s.levels.length := by omega
    subst this
    rw [List.take_length] at bd
    refine ifL_of (Nat.le_refl 4) ?_
    refine cellsV_all (c := [u, mv', .int .u64 (s.next : Int), .int .u64 (s.ticks : Int)]) rfl (by simp only [List.all_cons, bd.okcv, hmv.okcv, ok_int]; rfl) ?_
    refine ifL_of (Nat.le_refl 4) ?_
    exact hQ u mv' H4 ⟨bd.sl.mono fun y hy _ => by omega, hmv.g bd.g⟩ gt

theorem c_ref20_SameStore {s : Sto} {lv mv lv' mv' : Value} (hs : StV H A s lv mv) (hs' : StV H B s lv' mv') (hsm : Sm s) (hQ : ∀ H', G H H' → Q (.bool true) H') :
    callV Tryd.prog (fnV fn_ref20_SameStore) [vSto s lv mv, vSto s lv' mv'] H Q := by
  apply S_ref20_SameStore_of
  unfold S_ref20_SameStore
  refine newT_of fun H1 g1 s1 => newT_of fun H2 g2 s2 => ?_
  have g := g1.trans g2
  have hm := hsm.map
  have hlv := hsm.levels
  have a := hs.g g
  have b := hs'.g g
  refine join_of (fun s' H' => s' = [[.bool false]] ∧ H2 = H') (fun K hK => ?_) ?_
  · refine a.l.len (b.l.len ?_)
    (try simp only [sv_cons, sv_cons1, sc_cons, sc_cons1, asB_bool, bin_lss, bin_leq, bin_geq, bin_gtr, bin_neq, bin_eql, un_not, Bool.not_true, Bool.not_false]); (try refine asB_mk ?_)
    refine ifD_of (fun c => absurd rfl c) (fun _ => ?_)
    refine c_ref01_SameInts a.m b.m (by omega) ?_
    rw [decide_eq_true rfl]
    (try simp only [sv_cons, sv_cons1, sc_cons, sc_cons1, asB_bool, bin_lss, bin_leq, bin_geq, bin_gtr, bin_neq, bin_eql, un_not, Bool.not_true, Bool.not_false]); (try refine asB_mk ?_)
    refine ifF_of rfl ?_
    (try simp only [sv_cons, sv_cons1, sc_cons, sc_cons1, asB_bool, bin_lss, bin_leq, bin_geq, bin_gtr, bin_neq, bin_eql, un_not, Bool.not_true, Bool.not_false]); (try refine asB_mk ?_)
    refine ifD_of (fun c => absurd rfl c) (fun _ => ?_)
    refine hK _ _ ⟨?_, rfl⟩
    simp
  rintro s' H' ⟨rfl, rfl⟩
  (try simp only [sv_cons, sv_cons1, sc_cons, sc_cons1, asB_bool, bin_lss, bin_leq, bin_geq, bin_gtr, bin_neq, bin_eql, un_not, Bool.not_true, Bool.not_false]); (try refine asB_mk ?_)
  refine ifF_of rfl ?_
  refine loop_up s.levels.length (fun i s' H' => s' = [[.int .i64 (i : Int)]] ∧ G H2 H') ⟨rfl, Fr.refl _ _⟩ ?_
  rintro i s' H3 K hi ⟨rfl, gt⟩ hK
  refine (a.l.g gt).len ?_
  (try simp only [sv_cons, sv_cons1, sc_cons, sc_cons1, asB_bool, bin_lss, bin_leq, bin_geq, bin_gtr, bin_neq, bin_eql, un_not, Bool.not_true, Bool.not_false]); (try refine asB_mk ?_)
  refine ifD_of (fun c => ?_) (fun c => ?_)
  · have hi' : i < s.levels.length := by omega
    have hx := List.getElem?_eq_getElem hi'
    have hst := hsm.stash _ (List.getElem_mem hi')
    generalize s.levels[i] = o at *
    refine (a.l.g gt).get rfl hx fun cs hcs => ?_
    obtain ⟨w, rfl, hr, hw⟩ := hcs
    refine (b.l.g gt).get rfl hx fun cs hcs => ?_
    obtain ⟨w', rfl, hr', hw'⟩ := hcs
    refine c_ref18_SameOram hw hw' hr hr' (by omega) fun H4 g4 => ?_
    rw [decide_eq_true rfl]
    (try simp only [sv_cons, sv_cons1, sc_cons, sc_cons1, asB_bool, bin_lss, bin_leq, bin_geq, bin_gtr, bin_neq, bin_eql, un_not, Bool.not_true, Bool.not_false]); (try refine asB_mk ?_)
    refine ifF_of rfl ?_
    rw [i_add (c := i + 1) (by omega) (by omega)]
    exact hK _ _ hi' ⟨rfl, gt.trans g4⟩
  · exact hQ _ (g.trans gt)

theorem c_ref20_Great {s : Sto} {lv mv : Value} (hs : StV H A s lv mv) (hQ : ∀ (b : Bool) H', (b = false → Sm s) → G H H' → Q (.bool b) H') :
    callV Tryd.prog (fnV fn_ref20_Great) [vSto s lv mv, .agg #[.slice none 0 0]] H Q := by
  apply S_ref20_Great_of
  unfold S_ref20_Great
  refine newT_of fun H1 g1 s1 => newT_of fun H2 g2 s2 => ?_
  have g := g1.trans g2
  have a := hs.g g
  have yes : Q (.bool true) H2 := hQ true H2 (fun h => by cases h) g
  refine loop_up 10 (fun i s' H' => H2 = H' ∧ ∃ n : Nat, s' = [[.int .i64 (n : Int)], [.int .i64 (i : Int)]] ∧ n ≤ 1000 * i ∧ ∀ j o, j < i → s.levels[j]? = some o → min o.stash.length 1000 ≤ n ∧ ∀ k b, k < 200 → o.stash[k]? = some b → b.data.length ≤ 100)
    ⟨rfl, 0, rfl, by omega, fun j o hj => by omega⟩ ?_
  rintro i s' H' K hi ⟨rfl, n, rfl, hn, hall⟩ hK
  refine join_of (fun s' H' => s' = [[.bool (decide (i < s.levels.length ∧ i < 10))]] ∧ H2 = H') (fun K hK => ?_) ?_
  · refine a.l.len ?_
    (try simp only [sv_cons, sv_cons1, sc_cons, sc_cons1, asB_bool, bin_lss, bin_leq, bin_geq, bin_gtr, bin_neq, bin_eql, un_not, Bool.not_true, Bool.not_false]); (try refine asB_mk ?_)
    refine ifD_of (fun c => ?_) (fun c => ?_)
    · (try simp only [sv_cons, sv_cons1, sc_cons, sc_cons1, asB_bool, bin_lss, bin_leq, bin_geq, bin_gtr, bin_neq, bin_eql, un_not, Bool.not_true, Bool.not_false]); (try refine asB_mk ?_)
      refine hK _ _ ⟨?_, rfl⟩
      congr 3
      simp only [decide_eq_decide]; omega
    · refine hK _ _ ⟨?_, rfl⟩
      rw [decide_eq_false (by omega)]
  rintro s' H' ⟨rfl, rfl⟩
  (try simp only [sv_cons, sv_cons1, sc_cons, sc_cons1, asB_bool, bin_lss, bin_leq, bin_geq, bin_gtr, bin_neq, bin_eql, un_not, Bool.not_true, Bool.not_false]); (try refine asB_mk ?_)
  refine ifD_of (fun c => ?_) (fun c => ?_)
  · have hx := List.getElem?_eq_getElem c.1
    obtain ⟨o, ho⟩ : ∃ o, s.levels[i] = o := ⟨_, rfl⟩
    rw [ho] at hx
    have fld : ∀ (k : Value → Prop), (∀ w, Sl rBlk H2 A w o.stash → k w) → idxS 33 lv (.int .i64 (i : Int)) fun t23 => fldP 32 t23 fun t24 => loadP false 1 t24 H2 k := fun k hk => by
      refine a.l.getF (off := 32) (m := 1) (agg := false) rfl (by omega) hx fun cs hcs => ?_
      obtain ⟨w, rfl, hr, hw⟩ := hcs
      rw [seg_val' (cOrm_32 hr)]
      exact hk w hw
    refine fld _ fun w hw => hw.len ?_
    simp only [minV]
    rw [show (.int .i64 (if (1000 : Int) < (o.stash.length : Int) then 1000 else (o.stash.length : Int)) : Value) = .int .i64 ((min o.stash.length 1000 : Nat) : Int) by
      congr 1; split <;> omega, i_add (c := n + min o.stash.length 1000) (by omega) (by omega)]
    refine loop_up 200 (fun k s' H' => H2 = H' ∧ s' = [[.int .i64 (k : Int)]] ∧ ∀ j b, j < k → o.stash[j]? = some b → b.data.length ≤ 100) ⟨rfl, rfl, fun j b hj => by omega⟩ ?_
    rintro k s' H' K2 hk ⟨rfl, rfl, hin⟩ hK2
    refine join_of (fun s' H' => s' = [[.bool (decide (k < o.stash.length ∧ k < 200))]] ∧ H2 = H') (fun K hK => ?_) ?_
    · (try simp only [sv_cons, sv_cons1, sc_cons, sc_cons1, asB_bool, bin_lss, bin_leq, bin_geq, bin_gtr, bin_neq, bin_eql, un_not, Bool.not_true, Bool.not_false]); (try refine asB_mk ?_)
      refine fld _ fun w hw => hw.len ?_
      (try simp only [sv_cons, sv_cons1, sc_cons, sc_cons1, asB_bool, bin_lss, bin_leq, bin_geq, bin_gtr, bin_neq, bin_eql, un_not, Bool.not_true, Bool.not_false]); (try refine asB_mk ?_)
      refine ifD_of (fun c => ?_) (fun c => ?_)
      · (try simp only [sv_cons, sv_cons1, sc_cons, sc_cons1, asB_bool, bin_lss, bin_leq, bin_geq, bin_gtr, bin_neq, bin_eql, un_not, Bool.not_true, Bool.not_false]); (try refine asB_mk ?_)
        refine hK _ _ ⟨?_, rfl⟩
        congr 3
        simp only [decide_eq_decide]; omega
      · refine hK _ _ ⟨?_, rfl⟩
        rw [decide_eq_false (by omega)]
    rintro s' H' ⟨rfl, rfl⟩
    (try simp only [sv_cons, sv_cons1, sc_cons, sc_cons1, asB_bool, bin_lss, bin_leq, bin_geq, bin_gtr, bin_neq, bin_eql, un_not, Bool.not_true, Bool.not_false]); (try refine asB_mk ?_)
    refine ifD_of (fun c2 => ?_) (fun c2 => ?_)
    · have hy := List.getElem?_eq_getElem c2.1
      obtain ⟨b, hb⟩ : ∃ b, o.stash[k] = b := ⟨_, rfl⟩
      rw [hb] at hy
      refine fld _ fun w hw => ?_
      refine hw.getF (off := 2) (m := 1) (agg := false) rfl (by omega) hy fun cs hcs => ?_
      obtain ⟨u, rfl, hu⟩ := hcs
      rw [seg_val' (i := 2) (v := u) rfl]
      refine hu.len ?_
      (try simp only [sv_cons, sv_cons1, sc_cons, sc_cons1, asB_bool, bin_lss, bin_leq, bin_geq, bin_gtr, bin_neq, bin_eql, un_not, Bool.not_true, Bool.not_false]); (try refine asB_mk ?_)
      refine ifD_of (fun c3 => yes) (fun c3 => ?_)
      rw [i_add (c := k + 1) (by omega) (by omega)]
      refine hK2 _ _ c2.2 ⟨rfl, rfl, fun j b' hj hb' => ?_⟩
      by_cases e : j = k
      · subst e; rw [hy] at hb'; cases hb'; omega
      · exact hin j b' (by omega) hb'
    · rw [i_add (c := i + 1) (by omega) (by omega)]
      refine hK _ _ c.2 ⟨rfl, _, rfl, by omega, fun j o' hj ho' => ?_⟩
      by_cases e : j = i
      · subst e
        rw [hx] at ho'; cases ho'
        refine ⟨by omega, fun k' b hk' hb => ?_⟩
        have := (List.getElem?_eq_some_iff.1 hb).1
        exact hin k' b (by omega) hb
      · have := hall j o' (by omega) ho'
        exact ⟨by omega, this.2⟩
  · refine join_of (fun s' H' => ∃ b, s' = [[.bool b]] ∧ (b = false → Sm s) ∧ G H H') (fun K hK => ?_) ?_
    · have hyes : K [[.bool true]] H2 := hK _ _ ⟨true, rfl, (fun h => by cases h), g⟩
      refine a.l.len ?_
      (try simp only [sv_cons, sv_cons1, sc_cons, sc_cons1, asB_bool, bin_lss, bin_leq, bin_geq, bin_gtr, bin_neq, bin_eql, un_not, Bool.not_true, Bool.not_false]); (try refine asB_mk ?_)
      refine ifD_of (fun c1 => hyes) (fun c1 => ?_)
      (try simp only [sv_cons, sv_cons1, sc_cons, sc_cons1, asB_bool, bin_lss, bin_leq, bin_geq, bin_gtr, bin_neq, bin_eql, un_not, Bool.not_true, Bool.not_false]); (try refine asB_mk ?_)
      refine ifD_of (fun c2 => hyes) (fun c2 => ?_)
      refine a.m.len ?_
      (try simp only [sv_cons, sv_cons1, sc_cons, sc_cons1, asB_bool, bin_lss, bin_leq, bin_geq, bin_gtr, bin_neq, bin_eql, un_not, Bool.not_true, Bool.not_false]); (try refine asB_mk ?_)
      refine ifD_of (fun c3 => hyes) (fun c3 => ?_)
      refine c_ref12_Great (A := fun _ => True) (d := []) (Sl.nil _ _ _ _ _) fun b H3 _ g3 => hK _ _ ⟨b, rfl, fun _ => ?_, g.trans g3⟩
      have hst : ∀ o ∈ s.levels, o.stash.length ≤ 60 ∧ ∀ k b, k < 200 → o.stash[k]? = some b → b.data.length ≤ 100 := fun o ho => by
        obtain ⟨j, hj⟩ := List.mem_iff_getElem?.1 ho
        have hjl := (List.getElem?_eq_some_iff.1 hj).1
        have := hall j o (by omega) hj
        exact ⟨by omega, this.2⟩
      refine ⟨by omega, fun o ho => (hst o ho).1, fun o ho b hb => ?_, by omega⟩
      obtain ⟨k, hk⟩ := List.mem_iff_getElem?.1 hb
      have hkl := (List.getElem?_eq_some_iff.1 hk).1
      have := hst o ho
      exact this.2 k b (by omega) hk
    rintro s' H' ⟨b, rfl, hb, g'⟩
    exact hQ b H' hb g'

/-! ### Sizes -/
def partS (c : Cfg) (i : Nat) : Int := ((c.all.take i).map fun l => 32 + c.stash * (8 + l.size)).sum
def sizeV (c : Cfg) : Int := if c.may then partS c c.all.length + 4 * (lastL c).blocks + 32 else 0
theorem partS_step {c : Cfg} {i : Nat} {l : Lvl} (h : c.all[i]? = some l) : partS c (i + 1) = partS c i + (32 + c.stash * (8 + l.size)) := by
  unfold partS; rw [List.take_add_one, h, List.map_append, List.sum_append]; simp
theorem stash_mul {c : Cfg} (hc : c.num) {l : Lvl} (hl : l.ok) : 0 ≤ c.stash * (8 + l.size) ∧ c.stash * (8 + l.size) ≤ 2560 := by
  obtain ⟨_, _, _, _, ⟨h1, h2⟩, _⟩ := hc
  unfold Lvl.ok at hl
  have e2 : c.stash * (8 + l.size) ≤ 64 * 40 := Int.mul_le_mul (by omega) (by omega) (by omega) (by omega)
  exact ⟨Int.mul_nonneg (by omega) (by omega), by omega⟩

theorem c_token_Size {c : Cfg} (hQ : ∀ H', G H H' → Q (tup2 (.int .i64 (sizeV c)) (.int .i64 c.err)) H') : callV Tryd.prog (fnV fn_token_Size) [.agg (cCfg c).toArray] H Q := by
  apply S_token_Size_of
  unfold S_token_Size
  refine newT_of fun H1 g1 s1 => c_conf_Levels fun v H2 hv g2 => ext0 (v := v) rfl (ext0 (v := .int .i64 c.err) rfl ?_)
  have g := g1.trans g2
  rcases Classical.em c.may with hm | hm
  rotate_left
  · have e2 : c.err = 8 := if_neg hm
    have e3 : sizeV c = 0 := if_neg hm
    rw [e2, e3] at hQ
    rw [e2]
    (try simp only [sv_cons, sv_cons1, sc_cons, sc_cons1, asB_bool, bin_lss, bin_leq, bin_geq, bin_gtr, bin_neq, bin_eql, un_not, Bool.not_true, Bool.not_false]); (try refine asB_mk ?_)
    exact ifT_of (by rfl) (hQ _ g)
  have e1 : c.levels = c.all := if_pos hm
  have e2 : c.err = 0 := if_pos hm
  have e3 : sizeV c = partS c c.all.length + 4 * (lastL c).blocks + 32 := if_pos hm
  rw [e2, e3] at hQ
  rw [e1] at hv
  rw [e2]
  have hp := Cfg.all_pos hm.1
  have hlen := hm.2
  have hok := lastL_ok hm.1
  unfold Lvl.ok at hok
  (try simp only [sv_cons, sv_cons1, sc_cons, sc_cons1, asB_bool, bin_lss, bin_leq, bin_geq, bin_gtr, bin_neq, bin_eql, un_not, Bool.not_true, Bool.not_false]); (try refine asB_mk ?_)
  refine ifF_of (by rfl) ?_
  refine hv.len ?_
  refine loop_up c.all.length (fun i s' H' => s' = [[.int .i64 (partS c i)], [.int .i64 (i : Int)]] ∧ (0 ≤ partS c i ∧ partS c i ≤ 2592 * i) ∧ G H2 H') ⟨rfl, ⟨by simp [partS], by simp [partS]⟩, Fr.refl _ _⟩ ?_
  rintro i s' H3 K hi ⟨rfl, hb, gt⟩ hK
  (try simp only [sv_cons, sv_cons1, sc_cons, sc_cons1, asB_bool, bin_lss, bin_leq, bin_geq, bin_gtr, bin_neq, bin_eql, un_not, Bool.not_true, Bool.not_false]); (try refine asB_mk ?_)
  refine ifD_of (fun c1 => ?_) (fun c1 => ?_)
  · have hi' : i < c.all.length := by omega
    have hx := List.getElem?_eq_getElem hi'
    have hlo := Cfg.all_ok hm.1 _ (List.getElem_mem hi')
    generalize c.all[i] = l at *
    have hmul := stash_mul hm.1 hlo
    have hst := partS_step hx
    unfold Lvl.ok at hlo
    refine (hv.g gt).get rfl hx fun cs hcs => ?_
    obtain ⟨rfl, _⟩ := hcs
    refine newT_of fun H4 g4 s4 => cellsV_all (n := 4) rfl (lvl_ok _) (ifL_of (show 1 + 1 ≤ 4 by omega) ?_)
    rw [show mkV false (seg (setSeg [(.int .i64 0), (.int .i64 0), (.int .i64 0), (.int .i64 0)] 0 (cLvl l)) 1 1) = .int .i64 l.size from rfl]
    simp only [bin_add, bin_mul]
    rw [wrap_i64 (x := 8 + l.size) ⟨by omega, by omega⟩, wrap_i64 (x := c.stash * (8 + l.size)) ⟨by omega, by omega⟩, wrap_i64 (x := 32 + c.stash * (8 + l.size)) ⟨by omega, by omega⟩,
      wrap_i64 (x := partS c i + (32 + c.stash * (8 + l.size))) ⟨by omega, by omega⟩, ← hst, wrap_succ (by omega)]
    exact hK _ _ hi' ⟨rfl, ⟨by omega, by omega⟩, gt.trans g4⟩
  · have : i = c.all.length := by omega
    subst this
    refine (hv.g gt).len ?_
    rw [i_sub (c := c.all.length - 1) (by omega) (by omega)]
    refine (hv.g gt).getF (off := 0) (m := 1) (agg := false) rfl (by omega) (lastL_get hm.1) fun cs hcs => ?_
    obtain ⟨rfl, _⟩ := hcs
    rw [show mkV false (seg (cLvl (lastL c)) 0 1) = .int .i64 (lastL c).blocks from rfl]
    simp only [bin_add, bin_mul]
    rw [wrap_i64 (x := 4 * (lastL c).blocks) ⟨by omega, by omega⟩, wrap_i64 (x := partS c c.all.length + 4 * (lastL c).blocks) ⟨by omega, by omega⟩, wrap_i64 (x := partS c c.all.length + 4 * (lastL c).blocks + 32) ⟨by omega, by omega⟩]
    exact hQ _ (g.trans gt)

theorem c_ref28_Many {c : Cfg} (hm : c.may) (hQ : ∀ H', G H H' → Q (.int .i64 (sizeV c)) H') : callV Tryd.prog (fnV fn_ref28_Many) [.agg (cCfg c).toArray] H Q := by
  apply S_ref28_Many_of
  unfold S_ref28_Many
  refine newT_of fun H1 g1 s1 => c_ref08_All hm.1 fun v H2 hv g2 => ?_
  have g := g1.trans g2
  have e3 : sizeV c = partS c c.all.length + 4 * (lastL c).blocks + 32 := if_pos hm
  rw [e3] at hQ
  have hp := Cfg.all_pos hm.1
  have hlen := hm.2
  have hok := lastL_ok hm.1
  unfold Lvl.ok at hok
  refine loop_up c.all.length (fun i s' H' => s' = [[.int .i64 (partS c i)], [.int .i64 (i : Int)]] ∧ (0 ≤ partS c i ∧ partS c i ≤ 2592 * i) ∧ H2 = H') ⟨rfl, ⟨by simp [partS], by simp [partS]⟩, rfl⟩ ?_
  rintro i s' H3 K hi ⟨rfl, hb, rfl⟩ hK
  refine hv.len ?_
  (try simp only [sv_cons, sv_cons1, sc_cons, sc_cons1, asB_bool, bin_lss, bin_leq, bin_geq, bin_gtr, bin_neq, bin_eql, un_not, Bool.not_true, Bool.not_false]); (try refine asB_mk ?_)
  refine ifD_of (fun c1 => ?_) (fun c1 => ?_)
  · have hi' : i < c.all.length := by omega
    have hx := List.getElem?_eq_getElem hi'
    have hlo := Cfg.all_ok hm.1 _ (List.getElem_mem hi')
    generalize c.all[i] = l at *
    have hmul := stash_mul hm.1 hlo
    have hst := partS_step hx
    unfold Lvl.ok at hlo
    simp only [bin_add]
    rw [wrap_i64 (x := partS c i + 32) ⟨by omega, by omega⟩]
    refine hv.getF (off := 1) (m := 1) (agg := false) rfl (by omega) hx fun cs hcs => ?_
    obtain ⟨rfl, _⟩ := hcs
    rw [show mkV false (seg (cLvl l) 1 1) = .int .i64 l.size from rfl]
    simp only [bin_add, bin_mul]
    rw [wrap_i64 (x := 8 + l.size) ⟨by omega, by omega⟩, wrap_i64 (x := c.stash * (8 + l.size)) ⟨by omega, by omega⟩,
      wrap_i64 (x := partS c i + 32 + c.stash * (8 + l.size)) ⟨by omega, by omega⟩, show partS c i + 32 + c.stash * (8 + l.size) = partS c (i + 1) by omega, wrap_succ (by omega)]
    exact hK _ _ hi' ⟨rfl, ⟨by omega, by omega⟩, rfl⟩
  · have : i = c.all.length := by omega
    subst this
    refine hv.len ?_
    rw [i_sub (c := c.all.length - 1) (by omega) (by omega)]
    refine hv.getF (off := 0) (m := 1) (agg := false) rfl (by omega) (lastL_get hm.1) fun cs hcs => ?_
    obtain ⟨rfl, _⟩ := hcs
    rw [show mkV false (seg (cLvl (lastL c)) 0 1) = .int .i64 (lastL c).blocks from rfl]
    simp only [bin_add, bin_mul]
    rw [wrap_i64 (x := 4 * (lastL c).blocks) ⟨by omega, by omega⟩, wrap_i64 (x := partS c c.all.length + 4 * (lastL c).blocks) ⟨by omega, by omega⟩, wrap_i64 (x := partS c c.all.length + 4 * (lastL c).blocks + 32) ⟨by omega, by omega⟩]
    exact hQ _ g

theorem c_ref28_Size {c : Cfg} (hQ : ∀ H', G H H' → Q (tup2 (.int .i64 (sizeV c)) (.int .i64 c.err)) H') : callV Tryd.prog (fnV fn_ref28_Size) [.agg (cCfg c).toArray] H Q := by
  apply S_ref28_Size_of
  unfold S_ref28_Size
  refine newT_of fun H1 g1 s1 => c_ref08_May fun H2 g2 => ?_
  by_cases hm : c.may
  · have e2 : c.err = 0 := if_pos hm
    rw [e2] at hQ
    rw [decide_eq_true hm]
    (try simp only [sv_cons, sv_cons1, sc_cons, sc_cons1, asB_bool, bin_lss, bin_leq, bin_geq, bin_gtr, bin_neq, bin_eql, un_not, Bool.not_true, Bool.not_false]); (try refine asB_mk ?_)
    exact ifF_of rfl (c_ref28_Many hm fun H3 g3 => hQ _ ((g1.trans g2).trans g3))
  · have e2 : c.err = 8 := if_neg hm
    have e3 : sizeV c = 0 := if_neg hm
    rw [e2, e3] at hQ
    rw [decide_eq_false hm]
    (try simp only [sv_cons, sv_cons1, sc_cons, sc_cons1, asB_bool, bin_lss, bin_leq, bin_geq, bin_gtr, bin_neq, bin_eql, un_not, Bool.not_true, Bool.not_false]); (try refine asB_mk ?_)
    exact ifT_of rfl (hQ _ (g1.trans g2))

theorem may_slOk {l : Lvl} {b : Md.Blk} (hl : l.ok) (h : blkMay l b = true) (hd : b.data.length ≤ 100) : slOk b := by
  have h := of_decide_eq_true h
  have hm := many_le (h := l.high) (by unfold Lvl.ok at hl; omega)
  unfold Lvl.ok at hl
  exact ⟨by omega, by omega, by omega⟩

theorem sl_root {b : Nat} {o : Orm} {w : Value} (hb : Ab.Blk H b (cOrm o w)) (hr : o.root.length = 32) (hA : A b) : Sl rU8 H A (.slice (some ⟨b, 0 + 0 + 0 * 1, none⟩) (32 - 0) (32 - 0)) o.root := by
  have := sl_bytes (A := A) (xs := o.root) (o := 0) (c := 32) hb (by rw [hr]; exact cOrm_seg hr) (by rw [hr, cOrm_len hr]; omega) hA (by omega)
  rw [hr] at this
  exact this
theorem sl_32 {b : Nat} {l : List UInt8} (hb : Ab.Blk H b (l.map b8)) (hl : l.length = 32) (hA : A b) : Sl rU8 H A (.slice (some ⟨b, 0 + 0 * 1, none⟩) (32 - 0) (32 - 0)) l := by
  have := sl_bytes (A := A) (xs := l) (o := 0) (c := 32) hb (by rw [hl]; exact seg_all (by rw [List.length_map, hl])) (by rw [List.length_map]; omega) hA (by omega)
  rw [hl] at this
  exact this
theorem z49 : (zeroL Tryd.prog 49).length = 32 := by kernel_rfl

theorem c_token_Seal {c : Cfg} {kk : List UInt8} {s : Sto} {lv mv : Value} (hk : KT H) (hkl : kk.length = 32) (hs : StV H A s lv mv) (hsm : Sm s)
    (hQ : ∀ (e : Int) v u H', sealR c kk s e v → Sl rU8 H' (fun _ => True) u v → G H H' → Q (tup2 u (.int .i64 e)) H') :
    callV Tryd.prog (fnV fn_token_Seal) [.agg (cCfg c).toArray, .agg (kk.map b8).toArray, vSto s lv mv] H Q := by
  apply S_token_Seal_of
  unfold S_token_Seal
  have hs : StV H (fun y => y < H.size) s lv mv := ⟨hs.l.old, hs.m.old⟩
  have hkm : (kk.map b8).length = 32 := by rw [List.length_map, hkl]
  refine Blk.new fun H1 b3 g1 s1 => cellsU_all hkm (Blk.new fun H2 b4 g2 s2 => newT_of fun H3 g3 s3 => ?_)
  have b3 := (b3.g g2).g g3
  have b4 := b4.g g3
  have g := (g1.trans g2).trans g3
  refine b3.loadAll (cs := cCfg c) rfl ?_
  refine c_rec_Check (hs.g g) hsm fun e H4 g4 he => ?_
  have g := g.trans g4
  (try simp only [sv_cons, sv_cons1, sc_cons, sc_cons1, asB_bool, bin_lss, bin_leq, bin_geq, bin_gtr, bin_neq, bin_eql, un_not, Bool.not_true, Bool.not_false]); (try refine asB_mk ?_)
  rcases he with ⟨rfl, hm⟩ | ⟨rfl, hm⟩
  rotate_left
  · exact ifT_of (by rfl) (hQ 8 [] _ H4 (.inl ⟨hm, rfl, rfl⟩) (Sl.nil _ _ _ _ _) g)
  refine ifF_of (by rfl) ?_
  have hcm := hm.1
  refine c_ContainsFunc_Orm (fun o => decide ((o.stash.length : Int) > c.stash)) (hs.g g).l (by have := hsm.levels; omega)
    (fun o _ w H' K g' hw hr hK => c_token_Seal_1 ((b3.g g4).g g') hw hr hK) fun H5 g5 => ?_
  have g := g.trans g5
  (try simp only [sv_cons, sv_cons1, sc_cons, sc_cons1, asB_bool, bin_lss, bin_leq, bin_geq, bin_gtr, bin_neq, bin_eql, un_not, Bool.not_true, Bool.not_false]); (try refine asB_mk ?_)
  refine ifB_of (fun hb => ?_) (fun hb => ?_)
  · obtain ⟨o, ho, hb⟩ := List.any_eq_true.1 hb
    exact hQ 4 [] _ H5 (.inr (.inl ⟨hm, ⟨o, ho, of_decide_eq_true hb⟩, rfl, rfl⟩)) (Sl.nil _ _ _ _ _) g
  have hfit : ∀ o ∈ s.levels, (o.stash.length : Int) ≤ c.stash := fun o ho => by
    have := List.any_eq_false.1 hb o ho
    simp at this; exact this
  refine ((b3.g g4).g g5).loadAll (cs := cCfg c) rfl ?_
  refine c_conf_Levels fun v H6 hv g6 => ext0 (v := v) rfl (ext0 (v := .int .i64 c.err) rfl ?_)
  have g := g.trans g6
  have b3 := ((b3.g g4).g g5).g g6
  have b4 := ((b4.g g4).g g5).g g6
  rw [show c.levels = c.all from if_pos hcm] at hv
  have hs6 := hs.g g
  have hlens := hm.2.1.1
  have hst : 1 ≤ c.stash ∧ c.stash ≤ 64 := hcm.1.2.2.2.2.1
  have hlev := hsm.levels
  refine hs6.l.len ?_
  refine loop_up s.levels.length (fun i s' H' => ∃ u, s' = [[u], [.int .i64 (i : Int)]] ∧ Bd rU8 H6 H' u ((levX c s).take i).flatten ∧ ((levX c s).take i).flatten.length ≤ 9100 * i) ⟨.slice none 0 0, rfl, by simpa using Bd.nil rU8 (Fr.refl _ H6), by simp⟩ ?_
  rintro i s' H7 K hi ⟨u, rfl, bd, hlen⟩ hK
  (try simp only [sv_cons, sv_cons1, sc_cons, sc_cons1, asB_bool, bin_lss, bin_leq, bin_geq, bin_gtr, bin_neq, bin_eql, un_not, Bool.not_true, Bool.not_false]); (try refine asB_mk ?_)
  refine ifD_of (fun c1 => ?_) (fun c1 => ?_)
  · have hi' : i < s.levels.length := by omega
    have hx := List.getElem?_eq_getElem hi'
    have hl := List.getElem?_eq_getElem (show i < c.all.length by omega)
    have hmem := List.getElem_mem hi'
    have hlm := List.getElem_mem (show i < c.all.length by omega)
    generalize s.levels[i] = o at *
    generalize c.all[i]'(by omega) = l at *
    have hmay := hm.2.2.1 i l o hl hx
    have hlok := Cfg.all_ok hcm.1 l hlm
    have hslots := Cfg.all_slots hcm.1 hlm
    have hw64 : i64 l.width := by unfold Lvl.ok at hlok; unfold i64; omega
    have hsz : 1 ≤ l.size ∧ l.size ≤ 32 := by unfold Lvl.ok at hlok; omega
    have hfo := hfit o hmem
    have hso := hsm.stash o hmem
    have hdo := hsm.data o hmem
    have hone : one l = (8 + l.size).toNat := rfl
    have htk := take_flat (levX_get hl hx)
    generalize ((levX c s).take i).flatten = prev at *
    refine (hs6.l.g bd.g).get rfl hx fun cs hcs => ?_
    obtain ⟨w, rfl, hr, hw⟩ := hcs
    refine Blk.new fun H8 b13 g8 s8 => ?_
    refine b13.storeA (cOrm_len hr) (cOrm_ok hw.okcv) (by rw [z_orm]; omega) fun H9 b13 f9 s9 => ?_
    rw [setSeg_all (by rw [z_orm, cOrm_len hr])] at b13
    have g9 : G H7 H9 := g8.then f9 fun y hy => by omega
    simp only [w_fldP]
    refine slA_of (lo := 0) (hi := 32) (optI_none (d := ((0 : Nat) : Int))) (optI_none (d := ((32 : Nat) : Int))) (by omega) (by omega) (by omega) ?_
    have bx : BdX (fun y => y = H7.size) H6 H9 u prev := BdX.of bd g9 fun y hy => by omega
    refine bx.app (Fr.refl _ _) (sl_root (A := fun _ => True) b13 hr trivial).src.f8 (by kernel_rfl) (fun y hy => by omega) (by omega) fun u2 H10 bx2 f10 => ?_
    have b13 := b13.fr f10 rfl
    refine b13.load (o := 0 + 32) (by rw [Nat.zero_add]; exact cOrm_32 hr) ?_
    refine hw.len ?_
    have hsb : ∀ j, (slotsB (o.stash.take j)).length ≤ 108 * 60 := fun j => by
      have h1 := slotsB_len (s := o.stash.take j) fun b hb => hdo b (List.mem_of_mem_take hb)
      have h2 : (o.stash.take j).length ≤ o.stash.length := by rw [List.length_take]; omega
      omega
    refine loop_up o.stash.length (fun j s' H' => ∃ u, s' = [[u], [.int .i64 (j : Int)]] ∧ BdX (fun y => y = H7.size) H6 H' u (prev ++ o.root ++ slotsB (o.stash.take j)) ∧ Ab.Blk H' H7.size (cOrm o w)) ⟨u2, rfl, by simpa [slotsB] using bx2, b13⟩ ?_
    rintro j s' H11 K2 hj ⟨u3, rfl, bx3, b13⟩ hK2
    have gg := g.trans bx3.g
    have hwx : Sl rBlk H11 (fun y => y < H.size) w o.stash := hw.re (g.trans bd.g) gg fun y hy => hy
    (try simp only [sv_cons, sv_cons1, sc_cons, sc_cons1, asB_bool, bin_lss, bin_leq, bin_geq, bin_gtr, bin_neq, bin_eql, un_not, Bool.not_true, Bool.not_false]); (try refine asB_mk ?_)
    refine ifD_of (fun c2 => ?_) (fun c2 => ?_)
    · have hj' : j < o.stash.length := by omega
      have hy := List.getElem?_eq_getElem hj'
      have hbm := List.getElem_mem hj'
      have hsn := slotsB_snoc hy
      have hsj := hsb j
      generalize o.stash[j] = b at *
      have hbmay := stMay_mem hmay b hbm
      have hbd := hdo b hbm
      refine hwx.get rfl hy fun cs hcs => ?_
      obtain ⟨bv, rfl, hbv⟩ := hcs
      refine newT_of fun H12 g12 s12 => ?_
      refine cellsV_all (c := [.int .i64 b.id, .int .i64 b.leaf, bv]) rfl (by simp only [List.all_cons, hbv.okcv, ok_int]; rfl) ?_
      have hv12 := ((hv.g bx3.g).g g12)
      refine hv12.get rfl hl fun cs hcs => ?_
      obtain ⟨rfl, _⟩ := hcs
      refine ifL_of (Nat.le_refl 3) ?_
      refine c_slot_Write (l := l) (b := b) (w := bv) hw64 (hbv.g g12) (may_slOk hlok hbmay hbd) (blkE_0.2 ⟨hslots, hbmay⟩) fun u4 H13 bd4 => ?_
      refine ext0 (v := u4) rfl (ext0 (v := .int .i64 0) rfl ?_)
      have gl := g12.trans bd4.g
      have hbl := slotB_len (b := b)
      refine bx3.app gl bd4.sl.src.f8 (by kernel_rfl) (fun y hy => by have := b13.lt; have := gl.size; omega) (by rw [List.length_append, List.length_append]; omega) fun u5 H14 bx5 f14 => ?_
      rw [i_add (c := j + 1) (by omega) (by omega)]
      refine hK2 _ _ hj' ⟨u5, rfl, ?_, (b13.g gl).fr f14 rfl⟩
      rw [hsn, ← List.append_assoc]
      exact bx5
    · have : j = o.stash.length := by omega
      subst this
      rw [List.take_length] at bx3
      have hsj := hsb o.stash.length
      rw [List.take_length] at hsj
      refine (hv.g bx3.g).get rfl hl fun cs hcs => ?_
      obtain ⟨rfl, _⟩ := hcs
      refine c_slot_None (l := l) hw64 hslots ⟨by omega, by omega⟩ fun u4 H12 bd4 => ext0 (v := u4) rfl (ext0 (v := .int .i64 0) rfl ?_)
      have gl := bd4.g
      refine ((b3.g bx3.g).g gl).load (o := 0 + 4) (v := .int .i64 c.stash) rfl ?_
      refine (b13.g gl).load (o := 0 + 32) (by rw [Nat.zero_add]; exact cOrm_32 hr) ?_
      refine (hwx.g gl).len ?_
      rw [i_sub (c := c.stash.toNat - o.stash.length) (by omega) (by omega)]
      have hbz := bd4.sl
      refine c_Repeat0 (L := one l) (n := c.stash.toNat - o.stash.length) hbz ⟨by omega, by omega⟩ (by omega) fun u5 H13 hz g13 => ?_
      have hmul : one l * (c.stash.toNat - o.stash.length) ≤ 40 * 64 := Nat.mul_le_mul (by omega) (by omega)
      refine bx3.app (gl.trans g13) hz.src.f8 (by kernel_rfl) (fun y hy => by have := b13.lt; have := (gl.trans g13).size; omega) (by rw [List.length_append, List.length_append, List.length_replicate]; omega) fun u6 H14 bx6 f14 => ?_
      rw [i_add (c := i + 1) (by omega) (by omega)]
      have hlev : levB c l o = o.root ++ slotsB o.stash ++ zrs (one l * (c.stash.toNat - o.stash.length)) := levP_all (by omega)
      have hbl : (levB c l o).length ≤ 9100 := levP_len hr hso hdo (by omega) (by omega)
      refine hK _ _ hi' ⟨u6, rfl, ?_, ?_⟩
      · rw [htk, hlev, ← List.append_assoc, ← List.append_assoc]
        exact bx6.bd
      · rw [htk, List.length_append]; omega
  · have hin : i = s.levels.length := by omega
    have hxl : (levX c s).length = s.levels.length := by unfold levX; rw [List.length_zipWith]; omega
    rw [hin, ← hxl, List.take_length] at bd
    rw [hin, ← hxl, List.take_length, hxl] at hlen
    refine (hs6.m.g bd.g).len ?_
    have hmap := hsm.map
    refine loop_up s.map.length (fun i s' H' => ∃ u, s' = [[u], [.int .i64 (i : Int)]] ∧ Bd rU8 H6 H' u ((levX c s).flatten ++ ((mapX s).take i).flatten)) ⟨u, rfl, by simpa using bd⟩ ?_
    rintro j s' H8 K3 hj ⟨u2, rfl, bd2⟩ hK3
    have hfl := mapX_flat (s := s) j
    (try simp only [sv_cons, sv_cons1, sc_cons, sc_cons1, asB_bool, bin_lss, bin_leq, bin_geq, bin_gtr, bin_neq, bin_eql, un_not, Bool.not_true, Bool.not_false]); (try refine asB_mk ?_)
    refine ifD_of (fun c2 => ?_) (fun c2 => ?_)
    · have hj' : j < s.map.length := by omega
      have hx := List.getElem?_eq_getElem hj'
      have htk := take_flat (mapX_get hx)
      have hnm := hm.2.2.2 _ (List.getElem_mem hj')
      generalize s.map[j] = n at *
      have hp := Cfg.all_pos hcm.1
      have hcl := hcm.2
      refine (hs6.m.g bd2.g).getI hx fun _ => ((hv.g bd2.g).len ?_)
      rw [i_sub (c := c.all.length - 1) (by omega) (by omega)]
      refine (hv.g bd2.g).getF (off := 2) (m := 1) (agg := false) rfl (by omega) (lastL_get hcm.1) fun cs hcs => ?_
      obtain ⟨rfl, _⟩ := hcs
      rw [show mkV false (seg (cLvl (lastL c)) 2 1) = .int .i64 (lastL c).high from rfl]
      have hok := lastL_ok hcm.1
      have hh : ¬ highE (lastL c).high ≠ 0 := by rw [Classical.not_not]; exact highE_ok.2 (by unfold Lvl.ok at hok; omega)
      refine c_entry_Write (by unfold entE; rw [if_neg hh, if_pos hnm]) fun u4 H9 bd4 => ext0 (v := u4) rfl (ext0 (v := .int .i64 0) rfl ?_)
      refine bd2.app bd4.g bd4.sl.src.f8 rfl (by omega) (by kernel_rfl) (fun y hy => hy.elim) (by rw [List.length_append, leB_len]; omega) (by rw [List.length_append, leB_len]; omega) fun u5 H10 bd5 => ?_
      rw [i_add (c := j + 1) (by omega) (by omega)]
      refine hK3 _ _ hj' ⟨u5, rfl, ?_⟩
      rw [htk, ← List.append_assoc]
      exact bd5
    · have : j = s.map.length := by omega
      rw [this, ← mapX_len, List.take_length] at bd2
      rw [this, ← mapX_len, List.take_length, mapX_len] at hfl
      have eb : (levX c s).flatten ++ (mapX s).flatten = bodyV c s := rfl
      have hbl : (bodyV c s).length ≤ 9100 * 6 + 400 := by rw [← eb, List.length_append]; omega
      rw [eb] at bd2
      refine slA_of (lo := 0) (hi := 32) (optI_none (d := ((0 : Nat) : Int))) (optI_none (d := ((32 : Nat) : Int))) (by omega) (by omega) (by omega) ?_
      refine bld_all (R := rSl rU8) (A := fun _ => True) (.cons (vrep_S (sl_32 (A := fun _ => True) (b4.g bd2.g) hkl trivial)) (.cons (vrep_S (bd2.sl.mono fun _ _ _ => trivial)) .nil)) rfl (fun _ => rfl) rfl fun w H9 hw g9 s9 => ?_
      refine c_sha_Of (A := fun _ => True) ((hk.g (g.trans bd2.g)).g g9) (hw.sl (fun _ _ _ => trivial) fun _ _ => trivial) (by simp) (by simp; omega) fun H10 g10 => ?_
      rw [show [kk, bodyV c s].flatten = kk ++ bodyV c s by simp]
      have hsl : (shaL (kk ++ bodyV c s)).length = 32 := shaL_len
      have hslm : ((shaL (kk ++ bodyV c s)).map b8).length = 32 := by rw [List.length_map, hsl]
      refine Blk.new fun H11 b24 g11 s11 => ?_
      refine b24.storeA hslm (ok_bytes _) (by rw [z49]; omega) fun H12 b24 f12 s12 => ?_
      rw [setSeg_all (by rw [z49, hslm])] at b24
      refine slA_of (lo := 0) (hi := 32) (optI_none (d := ((0 : Nat) : Int))) (optI_none (d := ((32 : Nat) : Int))) (by omega) (by omega) (by omega) ?_
      have gl : G H8 H12 := ((g9.trans g10).trans g11).then f12 fun y hy => by have := (g9.trans g10).size; omega
      refine bd2.app gl (sl_32 (A := fun _ => True) b24 hsl trivial).src.f8 rfl (by omega) (by kernel_rfl) (fun y hy => hy.elim) (by omega) (by omega) fun u5 H13 bd5 => ?_
      exact hQ 0 (sealV c kk s) u5 H13 (.inr (.inr ⟨hm, hfit, rfl, rfl⟩)) (bd5.sl.mono fun _ _ _ => trivial) (g.trans bd5.g)

theorem sl_at {b o : Nat} {x : Orm} {w : Value} (h : cellsAt H b o 33 = some (cOrm x w)) (hr : x.root.length = 32) (hA : A b) : Sl rU8 H A (.slice (some ⟨b, o + 0 + 0 * 1, none⟩) (32 - 0) (32 - 0)) x.root := by
  have h2 := cellsAt_sub h (p := 0) (m := 32) (by omega)
  rw [cOrm_seg hr] at h2
  refine ⟨some ⟨b, o + 0 + 0 * 1, none⟩, 0, x.root.map fun y => [b8 y], by rw [hr], by simp, fun i cs' y h1 h3 => ?_, .inr ⟨b, o + 0 + 0 * 1, rfl, hA, ?_⟩⟩
  · rw [List.getElem?_map, h3] at h1
    cases h1
    exact ⟨rfl, trivial⟩
  · rw [hr, flat1]
    exact h2
theorem sl_root32 {v : Value} {xs : List Orm} {i : Nat} {o : Orm} (h : Sl rOrm H A v xs) (hx : xs[i]? = some o) : o.root.length = 32 := by
  obtain ⟨a, sp, css, rfl, g2, g3, g4⟩ := h
  have hi := (List.getElem?_eq_some_iff.1 hx).1
  obtain ⟨w, _, hr, _⟩ := g3 i _ o (List.getElem?_eq_getElem (by omega)) hx
  exact hr

theorem c_ref28_Of {c : Cfg} {kk : List UInt8} {s : Sto} {lv mv : Value} (hkl : kk.length = 32) (hs : StV H A s lv mv) (hsm : Sm s) (hm : stoMay c s) (hfit : ∀ o ∈ s.levels, (o.stash.length : Int) ≤ c.stash)
    (hQ : ∀ u H', Sl rU8 H' (fun _ => True) u (sealV c kk s) → G H H' → Q u H') :
    callV Tryd.prog (fnV fn_ref28_Of) [.agg (cCfg c).toArray, .agg (kk.map b8).toArray, vSto s lv mv] H Q := by
  apply S_ref28_Of_of
  unfold S_ref28_Of
  have hs : StV H (fun y => y < H.size) s lv mv := ⟨hs.l.old, hs.m.old⟩
  have hkm : (kk.map b8).length = 32 := by rw [List.length_map, hkl]
  have hcm := hm.1
  refine newT_of fun H1 g1 s1 => cellsU_all hkm (Blk.new fun H2 b4 g2 s2 => newT_of fun H3 g3 s3 => c_ref08_All hcm.1 fun v H6 hv g6 => ?_)
  have b4 := (b4.g g3).g g6
  have g := ((g1.trans g2).trans g3).trans g6
  have hs6 := hs.g g
  have hlens := hm.2.1.1
  have hst : 1 ≤ c.stash ∧ c.stash ≤ 64 := hcm.1.2.2.2.2.1
  have hlev := hsm.levels
  refine loop_up c.all.length (fun i s' H' => ∃ u, s' = [[u], [.int .i64 (i : Int)]] ∧ Bd rU8 H6 H' u ((levX c s).take i).flatten ∧ ((levX c s).take i).flatten.length ≤ 9100 * i) ⟨.slice none 0 0, rfl, by simpa using Bd.nil rU8 (Fr.refl _ H6), by simp⟩ ?_
  rintro i s' H7 K hi ⟨u, rfl, bd, hlen⟩ hK
  refine (hv.g bd.g).len ?_
  (try simp only [sv_cons, sv_cons1, sc_cons, sc_cons1, asB_bool, bin_lss, bin_leq, bin_geq, bin_gtr, bin_neq, bin_eql, un_not, Bool.not_true, Bool.not_false]); (try refine asB_mk ?_)
  refine ifD_of (fun c1 => ?_) (fun c1 => ?_)
  · have hi' : i < s.levels.length := by omega
    have hx := List.getElem?_eq_getElem hi'
    have hl := List.getElem?_eq_getElem (show i < c.all.length by omega)
    have hmem := List.getElem_mem hi'
    have hlm := List.getElem_mem (show i < c.all.length by omega)
    generalize s.levels[i] = o at *
    generalize c.all[i]'(by omega) = l at *
    have hmay := hm.2.2.1 i l o hl hx
    have hlok := Cfg.all_ok hcm.1 l hlm
    have hsz : 1 ≤ l.size ∧ l.size ≤ 32 := by unfold Lvl.ok at hlok; omega
    have hfo := hfit o hmem
    have hso := hsm.stash o hmem
    have hdo := hsm.data o hmem
    have hone : one l = (8 + l.size).toNat := rfl
    have htk := take_flat (levX_get hl hx)
    generalize ((levX c s).take i).flatten = prev at *
    have hr := sl_root32 hs6.l hx
    have hpl : ∀ n, n ≤ 64 → (levP l o n).length ≤ 9100 := fun n hn => levP_len hr hso hdo (by omega) hn
    refine (hs6.l.g bd.g).at rfl hx fun p cs hp hcs => ?_
    obtain ⟨w, rfl, _, hw⟩ := hcs
    obtain ⟨pb, po, rfl, hpA, hpc⟩ := hp
    rw [cOrm_len hr] at hpc
    refine fld_at ?_
    refine slA_of (lo := 0) (hi := 32) (optI_none (d := ((0 : Nat) : Int))) (optI_none (d := ((32 : Nat) : Int))) (by omega) (by omega) (by omega) ?_
    refine bd.app (Fr.refl _ _) (sl_at (A := fun _ => True) hpc hr trivial).src.f8 rfl (by omega) (by kernel_rfl) (fun y hy => hy.elim) (by omega) (by omega) fun u2 H8 bd2 => ?_
    have e0 : prev ++ o.root = prev ++ levP l o 0 := by simp [levP, slotsB, zrs]
    rw [e0] at bd2
    refine loop_up c.stash.toNat (fun n s' H' => ∃ u, s' = [[u], [.int .i64 (n : Int)]] ∧ Bd rU8 H6 H' u (prev ++ levP l o n)) ⟨u2, rfl, bd2⟩ ?_
    rintro n s' H9 K2 hn ⟨u3, rfl, bd3⟩ hK2
    have hpn := hpl n (by omega)
    (try simp only [sv_cons, sv_cons1, sc_cons, sc_cons1, asB_bool, bin_lss, bin_leq, bin_geq, bin_gtr, bin_neq, bin_eql, un_not, Bool.not_true, Bool.not_false]); (try refine asB_mk ?_)
    refine ifD_of (fun c2 => ?_) (fun c2 => ?_)
    · have hn' : n < c.stash.toNat := by omega
      have fld : ∀ (k : Value → Prop), (∀ w, Sl rBlk H9 (fun y => y < H.size) w o.stash → k w) → idxS 33 lv (.int .i64 (i : Int)) fun t23 => fldP 32 t23 fun t24 => loadP false 1 t24 H9 k := fun k hk => by
        refine (hs6.l.g bd3.g).getF (off := 32) (m := 1) (agg := false) rfl (by omega) hx fun cs hcs => ?_
        obtain ⟨w, rfl, hr, hw⟩ := hcs
        rw [seg_val' (cOrm_32 hr)]
        exact hk w hw
      refine fld _ fun w2 hw2 => hw2.len ?_
      (try simp only [sv_cons, sv_cons1, sc_cons, sc_cons1, asB_bool, bin_lss, bin_leq, bin_geq, bin_gtr, bin_neq, bin_eql, un_not, Bool.not_true, Bool.not_false]); (try refine asB_mk ?_)
      refine join_of (fun s' H' => ∃ u, s' = [[u]] ∧ Bd rU8 H6 H' u (prev ++ levP l o (n + 1))) (fun K hK => ?_) ?_
      · refine ifD_of (fun c3 => ?_) (fun c3 => ?_)
        · have hnl : n < o.stash.length := by omega
          have hy := List.getElem?_eq_getElem hnl
          have hbm := List.getElem_mem hnl
          generalize o.stash[n] = b at *
          have hbmay := stMay_mem hmay b hbm
          have hbd := hdo b hbm
          refine fld _ fun w3 hw3 => ?_
          refine hw3.get rfl hy fun cs hcs => ?_
          obtain ⟨bv, rfl, hbv⟩ := hcs
          refine c_ref09_Of (b := b) (w := bv) hbv (may_slOk hlok hbmay hbd) fun u4 H10 bd4 => ?_
          have hbl := slotB_len (b := b)
          refine bd3.app bd4.g bd4.sl.src.f8 rfl (by omega) (by kernel_rfl) (fun y hy => hy.elim) (by rw [List.length_append]; omega) (by rw [List.length_append]; omega) fun u5 H11 bd5 => ?_
          refine hK _ _ ⟨u5, rfl, ?_⟩
          rw [levP_lo hy, ← List.append_assoc]
          exact bd5
        · refine (hv.g bd3.g).getF (off := 1) (m := 1) (agg := false) rfl (by omega) hl fun cs hcs => ?_
          obtain ⟨rfl, _⟩ := hcs
          rw [show mkV false (seg (cLvl l) 1 1) = .int .i64 l.size from rfl, i_add (c := one l) (by omega) (by omega)]
          refine bd3.appZ (Fr.refl _ _) (by kernel_rfl) (by rw [List.length_append]; omega) fun u5 H11 bd5 => ?_
          refine hK _ _ ⟨u5, rfl, ?_⟩
          rw [levP_hi (by omega), ← List.append_assoc]
          exact bd5
      rintro s' H10 ⟨u6, rfl, bd6⟩
      (try simp only [sv_cons, sv_cons1, sc_cons, sc_cons1, asB_bool, bin_lss, bin_leq, bin_geq, bin_gtr, bin_neq, bin_eql, un_not, Bool.not_true, Bool.not_false]); (try refine asB_mk ?_)
      rw [i_add (c := n + 1) (by omega) (by omega)]
      exact hK2 _ _ hn' ⟨u6, rfl, bd6⟩
    · have hnn : n = c.stash.toNat := by omega
      subst hnn
      rw [i_add (c := i + 1) (by omega) (by omega)]
      refine hK _ _ (by omega) ⟨u3, rfl, by rw [htk]; exact bd3, ?_⟩
      rw [htk, List.length_append]
      show prev.length + (levP l o c.stash.toNat).length ≤ _
      omega
  · have hin : i = c.all.length := by omega
    have hxl : (levX c s).length = c.all.length := by unfold levX; rw [List.length_zipWith]; omega
    rw [hin, ← hxl, List.take_length] at bd
    rw [hin, ← hxl, List.take_length, hxl] at hlen
    have hmap := hsm.map
    refine loop_up s.map.length (fun i s' H' => ∃ u, s' = [[u], [.int .i64 (i : Int)]] ∧ Bd rU8 H6 H' u ((levX c s).flatten ++ ((mapX s).take i).flatten)) ⟨u, rfl, by simpa using bd⟩ ?_
    rintro j s' H8 K3 hj ⟨u2, rfl, bd2⟩ hK3
    have hfl := mapX_flat (s := s) j
    refine (hs6.m.g bd2.g).len ?_
    (try simp only [sv_cons, sv_cons1, sc_cons, sc_cons1, asB_bool, bin_lss, bin_leq, bin_geq, bin_gtr, bin_neq, bin_eql, un_not, Bool.not_true, Bool.not_false]); (try refine asB_mk ?_)
    refine ifD_of (fun c2 => ?_) (fun c2 => ?_)
    · have hj' : j < s.map.length := by omega
      have hx := List.getElem?_eq_getElem hj'
      have htk := take_flat (mapX_get hx)
      have hnm := hm.2.2.2 _ (List.getElem_mem hj')
      generalize s.map[j] = n at *
      refine (hs6.m.g bd2.g).getI hx fun _ => ?_
      have hok := lastL_ok hcm.1
      have hmm := many_le (h := (lastL c).high) (by unfold Lvl.ok at hok; omega)
      refine c_ref19_Bytes ⟨by omega, by omega⟩ fun u4 H9 bd4 => ?_
      refine bd2.app bd4.g bd4.sl.src.f8 rfl (by omega) (by kernel_rfl) (fun y hy => hy.elim) (by rw [List.length_append, leB_len]; omega) (by rw [List.length_append, leB_len]; omega) fun u5 H10 bd5 => ?_
      rw [i_add (c := j + 1) (by omega) (by omega)]
      refine hK3 _ _ hj' ⟨u5, rfl, ?_⟩
      rw [htk, ← List.append_assoc]
      exact bd5
    · have : j = s.map.length := by omega
      rw [this, ← mapX_len, List.take_length] at bd2
      rw [this, ← mapX_len, List.take_length, mapX_len] at hfl
      have eb : (levX c s).flatten ++ (mapX s).flatten = bodyV c s := rfl
      have hbl : (bodyV c s).length ≤ 9100 * 6 + 400 := by rw [← eb, List.length_append]; omega
      rw [eb] at bd2
      refine bld_nil rU8 fun t H9 ht g9 s9 => ?_
      have bdt : Bd rU8 H8 H9 t [] := ⟨g9, _, ht.mono fun y hy _ => hy.elim, .inr (by omega)⟩
      refine slA_of (lo := 0) (hi := 32) (optI_none (d := ((0 : Nat) : Int))) (optI_none (d := ((32 : Nat) : Int))) (by omega) (by omega) (by omega) ?_
      refine bdt.app (Fr.refl _ _) (sl_32 (A := fun _ => True) ((b4.g bd2.g).g g9) hkl trivial).src.f8 rfl (by omega) (by kernel_rfl) (fun y hy => hy.elim) (by simp; omega) (by simp; omega) fun t2 H10 bdt2 => ?_
      rw [List.nil_append] at bdt2
      refine bdt2.app (Fr.refl _ _) (bd2.sl.g bdt2.g).src.f8 rfl (by omega) (by kernel_rfl) (fun y hy => hy.elim) (by omega) (by omega) fun t3 H11 bdt3 => ?_
      refine c_ref02_Of bdt3.sl (by rw [List.length_append]; omega) fun H12 g12 => ?_
      have hsl : (shaL (kk ++ bodyV c s)).length = 32 := shaL_len
      have hslm : ((shaL (kk ++ bodyV c s)).map b8).length = 32 := by rw [List.length_map, hsl]
      refine Blk.new fun H13 b24 g13 s13 => ?_
      refine b24.storeA hslm (ok_bytes _) (by rw [z49]; omega) fun H14 b24 f14 s14 => ?_
      rw [setSeg_all (by rw [z49, hslm])] at b24
      refine slA_of (lo := 0) (hi := 32) (optI_none (d := ((0 : Nat) : Int))) (optI_none (d := ((32 : Nat) : Int))) (by omega) (by omega) (by omega) ?_
      have gl : G H8 H14 := ((bdt3.g.trans g12).trans g13).then f14 fun y hy => by have := (bdt3.g.trans g12).size; omega
      refine bd2.app gl (sl_32 (A := fun _ => True) b24 hsl trivial).src.f8 rfl (by omega) (by kernel_rfl) (fun y hy => hy.elim) (by omega) (by omega) fun u5 H15 bd5 => ?_
      exact hQ u5 H15 (bd5.sl.mono fun _ _ _ => trivial) (g.trans bd5.g)

theorem c_ref28_Seal {c : Cfg} {kk : List UInt8} {s : Sto} {lv mv : Value} (hkl : kk.length = 32) (hs : StV H A s lv mv) (hsm : Sm s)
    (hQ : ∀ (e : Int) v u H', sealR c kk s e v → Sl rU8 H' (fun _ => True) u v → G H H' → Q (tup2 u (.int .i64 e)) H') :
    callV Tryd.prog (fnV fn_ref28_Seal) [.agg (cCfg c).toArray, .agg (kk.map b8).toArray, vSto s lv mv] H Q := by
  apply S_ref28_Seal_of
  unfold S_ref28_Seal
  have hkm : (kk.map b8).length = 32 := by rw [List.length_map, hkl]
  refine newT_of fun H1 g1 s1 => cellsU_all hkm (newT_of fun H2 g2 s2 => newT_of fun H3 g3 s3 => ?_)
  have g := (g1.trans g2).trans g3
  refine c_ref20_May (hs.g g) hsm fun b H4 g4 hb => ?_
  have g := g.trans g4
  have hs4 := hs.g g
  (try simp only [sv_cons, sv_cons1, sc_cons, sc_cons1, asB_bool, bin_lss, bin_leq, bin_geq, bin_gtr, bin_neq, bin_eql, un_not, Bool.not_true, Bool.not_false]); (try refine asB_mk ?_)
  cases b with
  | false =>
    refine ifT_of rfl (hQ 8 [] _ H4 (.inl ⟨(fun h => by have := hb.2 h; cases this), rfl, rfl⟩) (Sl.nil _ _ _ _ _) g)
  | true =>
    have hm := hb.1 rfl
    refine ifF_of rfl ?_
    have hlev := hsm.levels
    refine loop_up s.levels.length (fun i s' H' => s' = [[.int .i64 (i : Int)]] ∧ H4 = H' ∧ ∀ o ∈ s.levels.take i, (o.stash.length : Int) ≤ c.stash) ⟨rfl, rfl, by simp⟩ ?_
    rintro i s' H' K hi ⟨rfl, rfl, hall⟩ hK
    refine hs4.l.len ?_
    (try simp only [sv_cons, sv_cons1, sc_cons, sc_cons1, asB_bool, bin_lss, bin_leq, bin_geq, bin_gtr, bin_neq, bin_eql, un_not, Bool.not_true, Bool.not_false]); (try refine asB_mk ?_)
    refine ifD_of (fun c1 => ?_) (fun c1 => ?_)
    · have hi' : i < s.levels.length := by omega
      have hx := List.getElem?_eq_getElem hi'
      have hmem := List.getElem_mem hi'
      have htk : s.levels.take (i + 1) = s.levels.take i ++ [s.levels[i]] := by rw [List.take_add_one, hx]; rfl
      generalize s.levels[i] = o at *
      refine hs4.l.getF (off := 32) (m := 1) (agg := false) rfl (by omega) hx fun cs hcs => ?_
      obtain ⟨w, rfl, hr, hw⟩ := hcs
      rw [seg_val' (cOrm_32 hr)]
      refine hw.len ?_
      (try simp only [sv_cons, sv_cons1, sc_cons, sc_cons1, asB_bool, bin_lss, bin_leq, bin_geq, bin_gtr, bin_neq, bin_eql, un_not, Bool.not_true, Bool.not_false]); (try refine asB_mk ?_)
      refine ifD_of (fun c2 => hQ 4 [] _ H4 (.inr (.inl ⟨hm, ⟨o, hmem, by omega⟩, rfl, rfl⟩)) (Sl.nil _ _ _ _ _) g) (fun c2 => ?_)
      rw [i_add (c := i + 1) (by omega) (by omega)]
      refine hK _ _ hi' ⟨rfl, rfl, fun o' ho' => ?_⟩
      rw [htk] at ho'
      rcases List.mem_append.1 ho' with h | h
      · exact hall o' h
      · simp at h; rw [h]; omega
    · have : i = s.levels.length := by omega
      subst this
      rw [List.take_length] at hall
      refine ifL_of (by omega) ?_
      rw [seg_allA hkm]
      exact c_ref28_Of hkl hs4 hsm hm hall fun u H5 hu g5 => hQ 0 _ u H5 (.inr (.inr ⟨hm, hall, rfl, rfl⟩)) hu (g.trans g5)

theorem c_TokenSeals {c : Cfg} {kk : List UInt8} {s : Sto} {lv mv : Value} (hk : KT H) (hkl : kk.length = 32) (hs : StV H A s lv mv) (hQ : ∀ H', G H H' → Q (.bool true) H') :
    callV Tryd.prog (fnV fn_law28_TokenSeals) [.agg (cCfg c).toArray, .agg (kk.map b8).toArray, vSto s lv mv] H Q := by
  apply S_law28_TokenSeals_of
  unfold S_law28_TokenSeals
  have hkm : (kk.map b8).length = 32 := by rw [List.length_map, hkl]
  refine newT_of fun H1 g1 s1 => cellsU_all hkm (newT_of fun H2 g2 s2 => newT_of fun H3 g3 s3 => ?_)
  have g := (g1.trans g2).trans g3
  refine c_ref20_Great (hs.g g) fun b H4 hb g4 => ?_
  have g := g.trans g4
  (try simp only [sv_cons, sv_cons1, sc_cons, sc_cons1, asB_bool, bin_lss, bin_leq, bin_geq, bin_gtr, bin_neq, bin_eql, un_not, Bool.not_true, Bool.not_false]); (try refine asB_mk ?_)
  cases b with
  | true => exact ifT_of rfl (hQ _ g)
  | false =>
    have hsm := hb rfl
    refine ifF_of rfl ?_
    refine c_ref20_TwinStore (hs.g g) hsm fun lv' mv' H5 hs' g5 => ?_
    have g := g.trans g5
    refine newT_of fun H6 g6 s6 => ?_
    have g := g.trans g6
    have hs' := hs'.g g6
    refine cellsV_all (c := [lv', mv', .int .u64 (s.next : Int), .int .u64 (s.ticks : Int)]) rfl (by simp only [List.all_cons, hs'.l.okcv, hs'.m.okcv, ok_int]; rfl) ?_
    refine c_token_Size fun H7 g7 => ext0 (v := .int .i64 (sizeV c)) rfl (ext0 (v := .int .i64 c.err) rfl ?_)
    refine c_ref28_Size fun H8 g8 => ext0 (v := .int .i64 (sizeV c)) rfl (ext0 (v := .int .i64 c.err) rfl ?_)
    refine ifL_of (by omega) (ifL_of (Nat.le_refl 4) ?_)
    rw [seg_allA hkm]
    have g := (g.trans g7).trans g8
    have hs' := (hs'.g g7).g g8
    refine c_token_Seal (hk.g g) hkl hs' hsm fun e x u H9 hr hu g9 => ext0 (v := u) rfl (ext0 (v := .int .i64 e) rfl ?_)
    refine ifL_of (by omega) ?_
    have g := g.trans g9
    refine c_ref28_Seal hkl (hs.g g) hsm fun e' x' u' H10 hr' hu' g10 => ext0 (v := u') rfl (ext0 (v := .int .i64 e') rfl ?_)
    have g := g.trans g10
    obtain ⟨rfl, rfl⟩ := sealR_one hr hr'
    refine join_of (fun s' H' => s' = [[.bool true]] ∧ G H H') (fun K hK => ?_) ?_
    · (try simp only [sv_cons, sv_cons1, sc_cons, sc_cons1, asB_bool, bin_lss, bin_leq, bin_geq, bin_gtr, bin_neq, bin_eql, un_not, Bool.not_true, Bool.not_false]); (try refine asB_mk ?_)
      refine ifT_of (decide_eq_true trivial) ?_
      (try simp only [sv_cons, sv_cons1, sc_cons, sc_cons1, asB_bool, bin_lss, bin_leq, bin_geq, bin_gtr, bin_neq, bin_eql, un_not, Bool.not_true, Bool.not_false]); (try refine asB_mk ?_)
      refine ifT_of (decide_eq_true trivial) ?_
      refine c_ref01_Same (hu.g g10) hu' ?_
      rw [decide_eq_true rfl]
      (try simp only [sv_cons, sv_cons1, sc_cons, sc_cons1, asB_bool, bin_lss, bin_leq, bin_geq, bin_gtr, bin_neq, bin_eql, un_not, Bool.not_true, Bool.not_false]); (try refine asB_mk ?_)
      refine ifT_of rfl ?_
      (try simp only [sv_cons, sv_cons1, sc_cons, sc_cons1, asB_bool, bin_lss, bin_leq, bin_geq, bin_gtr, bin_neq, bin_eql, un_not, Bool.not_true, Bool.not_false]); (try refine asB_mk ?_)
      refine ifT_of (decide_eq_true trivial) ?_
      refine ifL_of (Nat.le_refl 4) ?_
      exact c_ref20_SameStore ((hs'.g g9).g g10) (hs.g g) hsm fun H11 g11 => hK _ _ ⟨rfl, g.trans g11⟩
    rintro s' H' ⟨rfl, g'⟩
    exact hQ _ g'

end Go.Proofs.YtlmpjhbfgakgdaaDoor
