/- Contracts: SHA-256. -/
import Derived.Test.YtlmpjhbfgakgdaaDoorShSha
import Derived.Test.YtlmpjhbfgakgdaaDoorConDev
import Derived.Test.YtlmpjhbfgakgdaaDoorConSlot
import Derived.Test.YtlmpjhbfgakgdaaDoorMdTok
namespace Go.Proofs.YtlmpjhbfgakgdaaDoor
open Go.Ab Go.Md
set_option linter.unusedVariables false
set_option linter.unusedSimpArgs false
set_option maxRecDepth 20000

variable {H : Heap} {Q : Value → Heap → Prop} {A B C : Nat → Prop}

theorem z_words : zeroL Tryd.prog 145 = (List.replicate 64 0#32).map wv := by kernel_rfl
theorem z_digest : zeroL Tryd.prog 49 = (List.replicate 32 (0 : UInt8)).map fun b => .int .u8 (b.toNat : Int) := by kernel_rfl

theorem un_neg (q : IntKind) (x : Int) (k : Value → Prop) : unV .neg (.int q x) k = k (.int q (q.wrap (-x))) := by simp [unV, unR]

theorem c_rot {x : BitVec 32} {n : Nat} (h1 : 0 < n) (h2 : n < 32) (hQ : Q (wv (ror x n)) H) : callV Tryd.prog (fnV fn_math_bits_RotateLeft32) [wv x, .int .i64 (-(n : Int))] H Q := by
  apply S_math_bits_RotateLeft32_of
  unfold S_math_bits_RotateLeft32
  have e1 : IntKind.u64.wrap (-(n : Int)) = ((18446744073709551616 - n : Nat) : Int) := by simp [IntKind.wrap, IntKind.signed, IntKind.bits]; omega
  rw [show ∀ (k : Value → Prop), cvI .u64 (.int .i64 (-(n : Int))) k = k (.int .u64 (IntKind.u64.wrap (-(n : Int)))) from fun _ => rfl, e1, show (.int .u64 31 : Value) = .int .u64 ((31 : Nat) : Int) from rfl, w_and (q := .u64) (by show _ < 2 ^ 64; omega) (by decide), show (18446744073709551616 - n) &&& 31 = 32 - n by
    rw [show (31 : Nat) = 2 ^ 5 - 1 from rfl, Nat.and_two_pow_sub_one_eq_mod]; omega, b_shl (by rfl) (by omega)]
  simp only [bin_sub]
  rw [show IntKind.u64.wrap ((32 : Int) - ((32 - n : Nat) : Int)) = ((n : Nat) : Int) by rw [show (32 : Int) - ((32 - n : Nat) : Int) = (n : Int) by omega]; exact wrap_nat (q := .u64) (by show _ < 2 ^ 64; omega),
    b_shr (by rfl) (by omega), b_or, BitVec.or_comm]
  exact hQ

theorem c_of {x : BitVec 32} {a b c : Nat} {m : Bool} (ha : 0 < a ∧ a < 32) (hb : 0 < b ∧ b < 32) (hc : 0 < c ∧ c < 32)
    (hQ : ∀ H', G H H' → Q (wv (ror x a ^^^ ror x b ^^^ (if m then x >>> c else ror x c))) H') :
    callV Tryd.prog (fnV fn_sha_turns_of) [.agg #[.int .i64 (a : Int), .int .i64 (b : Int), .int .i64 (c : Int), .bool m], wv x] H Q := by
  apply S_sha_turns_of_of
  unfold S_sha_turns_of
  refine newT_of fun H1 g1 s1 => ?_
  refine idxR_of (j := 2) (by decide) ?_
  refine ifL_of (by simp) ?_
  rw [seg_val (i := 2) (v := .int .i64 (c : Int)) rfl]
  have hw : ∀ n : Nat, n < 32 → IntKind.i64.wrap (-(n : Int)) = -(n : Int) := fun n hn => wrap_i64 (x := -(n : Int)) ⟨by omega, by omega⟩
  simp only [un_neg, hw c hc.2]
  refine c_rot hc.1 hc.2 ?_
  refine join_of (fun s H' => s = [[wv (if m then x >>> c else ror x c)]] ∧ H' = H1) ?_ ?_
  · intro K hK
    cases m
    · exact hK _ _ ⟨rfl, rfl⟩
    · refine idxR_of (j := 2) (by decide) ?_
      refine ifL_of (by simp) ?_
      rw [seg_val (i := 2) (v := .int .i64 (c : Int)) rfl, b_shr (by rfl) (by omega)]
      exact hK _ _ ⟨rfl, rfl⟩
  · rintro s H' ⟨rfl, rfl⟩
    refine idxR_of (j := 0) (by decide) ?_
    refine ifL_of (by simp) ?_
    rw [seg_val (i := 0) (v := .int .i64 (a : Int)) rfl]
    simp only [un_neg, hw a ha.2]
    refine idxR_of (j := 1) (by decide) ?_
    refine ifL_of (by simp) ?_
    rw [seg_val (i := 1) (v := .int .i64 (b : Int)) rfl]
    simp only [un_neg, hw b hb.2]
    refine c_rot ha.1 ha.2 (c_rot hb.1 hb.2 ?_)
    simp only [b_xor, sv_cons]
    exact hQ _ g1


theorem c_spread {v : Value} {b : List UInt8} (hv : Sl rU8 H A v b) (hl : b.length = 64) (hQ : ∀ H', G H H' → Q (.agg ((swL b).map wv).toArray) H') :
    callV Tryd.prog (fnV fn_sha_spread) [v] H Q := by
  apply S_sha_spread_of
  unfold S_sha_spread
  refine newT_of fun H1 g1 s1 => newT_of fun H2 g2 s2 => newT_of fun H3 g3 s3 => ?_
  have g := (g1.trans g2).trans g3
  rw [z_words]
  refine loop_up 64 (fun t s H' => s = [(mix 64 t (sw b) (fun _ => 0#32)).map wv, [.int .i64 (t : Int)]] ∧ G H H') ⟨by rw [mix_rep (f := sw b)]; rfl, g⟩ ?_
  rintro t s H' K ht ⟨rfl, gt⟩ hK
  simp only [sv_cons, sv_cons1, sc_cons, sc_cons1, asB_bool, ifB_true, ifB_false, bin_lss, bin_geq, bin_gtr, bin_neq]
  refine ifD_of (fun c1 => ?_) (fun c1 => ?_)
  · have ht' : t < 64 := by omega
    refine join_of (fun s H' => s = [(mix 64 (t + 1) (sw b) (fun _ => 0#32)).map wv] ∧ G H H') ?_ ?_
    · intro K1 hK1
      refine ifD_of (fun c2 => ?_) (fun c2 => ?_)
      · have ht2 : t < 16 := by omega
        rw [i_mul (c := 4 * t) (by omega) (by omega), i_mul (c := 4 * t) (by omega) (by omega), i_add (c := 4 * t + 4) (by omega) (by omega)]
        refine (hv.g gt).cut (lo := 4 * t) (hi := 4 * t + 4) rfl (by omega) (by omega) (by omega) (optI_some (x := ((4 * t : Nat) : Int))) (optI_some (x := ((4 * t + 4 : Nat) : Int))) fun u hu => ?_
        have hul : ((b.drop (4 * t)).take (4 * t + 4 - 4 * t)).length = 4 := by rw [List.length_take, List.length_drop]; omega
        rw [show 4 * t + 4 - 4 * t = 4 by omega] at hu hul
        refine hu.len ?_
        have hsw := sw_lo (b := b) ht2
        generalize (b.drop (4 * t)).take 4 = cs at *
        refine loop_up 4 (fun j s H1 => s = [((mix 64 t (sw b) (fun _ => 0#32)).set t (wd (cs.take j))).map wv, [.int .i64 (j : Int)]] ∧ H1 = H') ⟨by
          rw [set_self (l := mix 64 t (sw b) fun _ => 0#32) (i := t) (v := wd (cs.take 0)) (mix_hi (Nat.le_refl t) ht')]; rfl, rfl⟩ ?_
        rintro j s H4 K2 hj ⟨rfl, rfl⟩ hK2
        simp only [sv_cons, sv_cons1, sc_cons, sc_cons1, asB_bool, ifB_true, ifB_false, bin_lss, bin_geq, bin_gtr, bin_neq]
        rw [hul]
        refine ifD_of (fun c3 => ?_) (fun c3 => ?_)
        · have hj' : j < cs.length := by omega
          refine hu.getB (List.getElem?_eq_getElem hj') ?_
          refine idxR_of ht' (ifL_of (by simp [mix_len]; omega) ?_)
          rw [seg_map (x := wd (cs.take j)) (by rw [List.getElem?_set_self (by rw [mix_len]; exact ht')]), b_shl (n := 8) (by rfl) (by omega), b_cv, b_or]
          refine idxR_of ht' ?_
          rw [ok_wv, ifB_true]
          refine ifL_of (by simp [mix_len]; omega) ?_
          rw [i_add (c := j + 1) (by omega) (by omega), set_map (by rw [List.length_set, mix_len]; exact ht'), List.set_set, ← wd_snoc, List.take_append_getElem hj']
          exact hK2 _ _ (by omega) ⟨rfl, rfl⟩
        · have : j = 4 := by omega
          subst this
          refine hK1 _ _ ⟨?_, gt⟩
          rw [List.take_of_length_le (by omega), mix_set ht' hsw.symm]
      · have ht2 : ¬ t < 16 := by omega
        have hg : ∀ i, i < t → ((mix 64 t (sw b) (fun _ => 0#32)))[i]? = some (sw b i) := fun i hi => mix_lo hi (by omega)
        rw [i_sub (c := t - 16) (by omega) (by omega)]
        refine idxR_of (by omega) (ifL_of (by simp [mix_len]; omega) ?_)
        rw [i_sub (c := t - 15) (by omega) (by omega)]
        refine idxR_of (by omega) (ifL_of (by simp [mix_len]; omega) ?_)
        rw [i_sub (c := t - 7) (by omega) (by omega)]
        refine idxR_of (by omega) (ifL_of (by simp [mix_len]; omega) ?_)
        rw [i_sub (c := t - 2) (by omega) (by omega)]
        refine idxR_of (by omega) (ifL_of (by simp [mix_len]; omega) ?_)
        rw [seg_map (hg (t - 16) (by omega)), seg_map (hg (t - 15) (by omega)), seg_map (hg (t - 7) (by omega)), seg_map (hg (t - 2) (by omega))]
        refine c_of (a := 7) (b := 18) (c := 3) (m := true) (by omega) (by omega) (by omega) fun H4 g4 => ?_
        rw [b_add, b_add]
        refine c_of (a := 17) (b := 19) (c := 10) (m := true) (by omega) (by omega) (by omega) fun H5 g5 => ?_
        rw [b_add]
        refine idxR_of (by omega) ?_
        rw [ok_wv, ifB_true]
        refine ifL_of (by simp [mix_len]; omega) ?_
        rw [set_map (by rw [mix_len]; exact ht'), mix_set ht' (by rw [sw_hi ht2]; rfl)]
        exact hK1 _ _ ⟨rfl, (gt.trans g4).trans g5⟩
    · rintro s H5 ⟨rfl, g5⟩
      simp only [sv_cons, sv_cons1, sc_cons, sc_cons1, asB_bool, ifB_true, ifB_false, bin_lss, bin_geq, bin_gtr, bin_neq]
      rw [i_add (c := t + 1) (by omega) (by omega)]
      exact hK _ _ ht' ⟨rfl, g5⟩
  · have : t = 64 := by omega
    subst this
    rw [mix_full]
    have e : ((List.range 64).map (sw b)).map wv = (swL b).map wv := rfl
    rw [e]
    have hl' : ((swL b).map wv).length = 64 := by rw [List.length_map, swL_len]
    refine ifL_of (by omega) ?_
    rw [seg_allA hl']
    refine cellsV_all hl' (ok_words _) ?_
    refine ifL_of (by omega) (ifL_of (by rw [setSeg_all rfl]; omega) ?_)
    rw [setSeg_all rfl, seg_allA hl']
    exact hQ _ gt

theorem c_turned {x : BitVec 32} {n : Nat} {z : Int} (h2 : n < 32) (h1 : 0 < n) (hz : z = (n : Int)) (hQ : Q (wv (ror x n)) H) : callV Tryd.prog (fnV fn_ref02_turned) [wv x, .int .u32 z] H Q := by
  subst hz
  apply S_ref02_turned_of
  unfold S_ref02_turned
  rw [b_shr (by rfl) h2]
  simp only [bin_sub]
  rw [show IntKind.u32.wrap ((32 : Int) - (n : Int)) = ((32 - n : Nat) : Int) by rw [show (32 : Int) - (n : Int) = ((32 - n : Nat) : Int) by omega]; exact wrap_nat (q := .u32) (by show _ < 2 ^ 32; omega), b_shl (by rfl) (by omega), b_or]
  exact hQ

theorem c_table (hQ : ∀ H', G H H' → Q (.agg (kW.map wv).toArray) H') : callV Tryd.prog (fnV fn_ref02_table) [] H Q := by
  apply S_ref02_table_of
  unfold S_ref02_table
  refine newT_of fun H1 g1 s1 => ?_
  refine ifL_of (of_decide_eq_true (by kernel_rfl)) (ifL_of (of_decide_eq_true (by kernel_rfl)) ?_)
  exact Eq.mpr (by kernel_rfl) (hQ _ g1)

theorem take4 {α : Type} {l : List α} {i : Nat} (h : i + 3 < l.length) : (l.drop i).take 4 = [l[i], l[i + 1], l[i + 2], l[i + 3]] := by
  rw [List.drop_eq_getElem_cons (by omega), List.drop_eq_getElem_cons (by omega), List.drop_eq_getElem_cons (by omega), List.drop_eq_getElem_cons (by omega)]
  simp only [List.take_succ_cons, List.take_zero]

theorem c_words {v : Value} {b : List UInt8} (hv : Sl rU8 H A v b) (hl : b.length = 64) (hQ : ∀ H', G H H' → Q (.agg ((swL b).map wv).toArray) H') :
    callV Tryd.prog (fnV fn_ref02_words) [v] H Q := by
  apply S_ref02_words_of
  unfold S_ref02_words
  refine newT_of fun H1 g1 s1 => newT_of fun H2 g2 s2 => ?_
  have g := g1.trans g2
  rw [z_words]
  refine loop_up 16 (fun t s H' => s = [(mix 64 t (sw b) (fun _ => 0#32)).map wv, [.int .i64 (t : Int)]] ∧ H2 = H') ⟨by rw [mix_rep (f := sw b)]; rfl, rfl⟩ ?_
  rintro t s H' K ht ⟨rfl, rfl⟩ hK
  simp only [sv_cons, sv_cons1, sc_cons, sc_cons1, asB_bool, ifB_true, ifB_false, bin_lss, bin_geq, bin_gtr, bin_neq]
  refine ifD_of (fun c1 => ?_) (fun c1 => ?_)
  · have ht' : t < 16 := by omega
    rw [i_mul (c := 4 * t) (by omega) (by omega)]
    refine (hv.g g).getB (j := 4 * t) (List.getElem?_eq_getElem (by omega)) ?_
    rw [b_cv, b_shl (n := 24) (by rfl) (by omega), i_mul (c := 4 * t) (by omega) (by omega), i_add (c := 4 * t + 1) (by omega) (by omega)]
    refine (hv.g g).getB (j := 4 * t + 1) (List.getElem?_eq_getElem (by omega)) ?_
    rw [b_cv, b_shl (n := 16) (by rfl) (by omega), b_or, i_mul (c := 4 * t) (by omega) (by omega), i_add (c := 4 * t + 2) (by omega) (by omega)]
    refine (hv.g g).getB (j := 4 * t + 2) (List.getElem?_eq_getElem (by omega)) ?_
    rw [b_cv, b_shl (n := 8) (by rfl) (by omega), b_or, i_mul (c := 4 * t) (by omega) (by omega), i_add (c := 4 * t + 3) (by omega) (by omega)]
    refine (hv.g g).getB (j := 4 * t + 3) (List.getElem?_eq_getElem (by omega)) ?_
    rw [b_cv, b_or]
    refine idxR_of (by omega) ?_
    rw [ok_wv, ifB_true]
    refine ifL_of (by simp [mix_len]; omega) ?_
    rw [i_add (c := t + 1) (by omega) (by omega), set_map (by rw [mix_len]; omega), wd_four, mix_set (by omega) (by rw [sw_lo ht', take4 (by omega)])]
    exact hK _ _ ht' ⟨rfl, rfl⟩
  · have : t = 16 := by omega
    subst this
    refine loop_up 48 (fun i s H' => s = [(mix 64 (16 + i) (sw b) (fun _ => 0#32)).map wv, [.int .i64 ((16 + i : Nat) : Int)]] ∧ H2 = H') ⟨rfl, rfl⟩ ?_
    rintro i s H' K ht ⟨rfl, rfl⟩ hK
    simp only [sv_cons, sv_cons1, sc_cons, sc_cons1, asB_bool, ifB_true, ifB_false, bin_lss, bin_geq, bin_gtr, bin_neq]
    refine ifD_of (fun c1 => ?_) (fun c1 => ?_)
    · have hi : i < 48 := by omega
      obtain ⟨t, et⟩ : ∃ t, t = 16 + i := ⟨_, rfl⟩
      rw [← et]
      have ht' : t < 64 := by omega
      have hg : ∀ i, i < t → ((mix 64 t (sw b) (fun _ => 0#32)))[i]? = some (sw b i) := fun i hi => mix_lo hi (by omega)
      rw [i_sub (c := t - 15) (by omega) (by omega)]
      refine idxR_of (by omega) (ifL_of (by simp [mix_len]; omega) ?_)
      rw [i_sub (c := t - 2) (by omega) (by omega)]
      refine idxR_of (by omega) (ifL_of (by simp [mix_len]; omega) ?_)
      rw [seg_map (hg (t - 15) (by omega)), seg_map (hg (t - 2) (by omega))]
      refine c_turned (n := 7) (by omega) (by omega) (by rfl) (c_turned (n := 18) (by omega) (by omega) (by rfl) ?_)
      rw [b_xor, b_shr (n := 3) (by rfl) (by omega), b_xor]
      refine c_turned (n := 17) (by omega) (by omega) (by rfl) (c_turned (n := 19) (by omega) (by omega) (by rfl) ?_)
      rw [b_xor, b_shr (n := 10) (by rfl) (by omega), b_xor]
      rw [i_sub (c := t - 16) (by omega) (by omega)]
      refine idxR_of (by omega) (ifL_of (by simp [mix_len]; omega) ?_)
      rw [i_sub (c := t - 7) (by omega) (by omega)]
      refine idxR_of (by omega) (ifL_of (by simp [mix_len]; omega) ?_)
      rw [seg_map (hg (t - 16) (by omega)), seg_map (hg (t - 7) (by omega)), b_add, b_add, b_add]
      refine idxR_of (by omega) ?_
      rw [ok_wv, ifB_true]
      refine ifL_of (by simp [mix_len]; omega) ?_
      have e : sw b (t - 16) + sw b (t - 7) + (ror (sw b (t - 15)) 7 ^^^ ror (sw b (t - 15)) 18 ^^^ sw b (t - 15) >>> 3) + (ror (sw b (t - 2)) 17 ^^^ ror (sw b (t - 2)) 19 ^^^ sw b (t - 2) >>> 10) = sw b t := by
        rw [sw_hi (t := t) (by omega)]
        show sw b (t - 16) + sw b (t - 7) + sg0 (sw b (t - 15)) + sg1 (sw b (t - 2)) = _
        rw [BitVec.add_assoc (sw b (t - 16)) (sw b (t - 7)), BitVec.add_comm (sw b (t - 7)), ← BitVec.add_assoc]
      rw [i_add (c := t + 1) (by omega) (by omega), set_map (by rw [mix_len]; omega), mix_set ht' e]
      exact hK _ _ hi ⟨by rw [et]; rfl, rfl⟩
    · have : i = 48 := by omega
      subst this
      rw [show 16 + 48 = 64 from rfl, mix_full]
      have e : ((List.range 64).map (sw b)).map wv = (swL b).map wv := rfl
      rw [e]
      have hl' : ((swL b).map wv).length = 64 := by rw [List.length_map, swL_len]
      refine ifL_of (by omega) ?_
      rw [seg_allA hl']
      refine cellsV_all hl' (ok_words _) ?_
      refine ifL_of (of_decide_eq_true (by kernel_rfl)) (ifL_of (by rw [setSeg_all (z := (List.replicate 64 0#32).map wv) (c := (swL b).map wv) (by rw [hl']; rfl)]; omega) ?_)
      rw [setSeg_all (z := (List.replicate 64 0#32).map wv) (c := (swL b).map wv) (by rw [hl']; rfl), seg_allA hl']
      exact hQ _ g

theorem wv_lit' {n : Nat} {z : Int} (hz : z = (n : Int)) (h : n < 4294967296) : (.int .u32 z : Value) = wv (BitVec.ofNat 32 n) := by subst hz; exact wv_lit n h
theorem kW_get {t : Nat} (h : t < 64) : kW[t]? = some (kW.getD t 0) := by
  have : t < kW.length := by rw [kW_len]; exact h
  rw [List.getD_eq_getElem?_getD, List.getElem?_eq_getElem this]; rfl

theorem c_Turn {h : List W} {v : Value} {b : List UInt8} (hh : h.length = 8) (hv : Sl rU8 H A v b) (hl : b.length = 64) (hQ : ∀ H', G H H' → Q (.agg ((turnW h b).map wv).toArray) H') :
    callV Tryd.prog (fnV fn_ref02_Turn) [.agg (h.map wv).toArray, v] H Q := by
  have key : ∀ a b' c d e f g i, h = [a, b', c, d, e, f, g, i] → callV Tryd.prog (fnV fn_ref02_Turn) [.agg #[wv a, wv b', wv c, wv d, wv e, wv f, wv g, wv i], v] H Q := by
    intro a b' c d e f g i eh
    apply S_ref02_Turn_of
    unfold S_ref02_Turn
    have e0 : [wv a, wv b', wv c, wv d, wv e, wv f, wv g, wv i] = h.map wv := by rw [eh]; rfl
    rw [e0]
    refine newT_of fun H1 g1 s1 => newT_of fun H2 g2 s2 => c_table fun H3 g3 => newT_of fun H4 g4 s4 => ?_
    refine cellsV_all (by rw [List.length_map, kW_len]) (ok_words _) (ifL_of (of_decide_eq_true (by kernel_rfl)) ?_)
    rw [setSeg_all (c := kW.map wv) (by rw [z_words]; rfl)]
    have gg := ((g1.trans g2).trans g3).trans g4
    refine c_words (hv.g gg) hl fun H5 g5 => newT_of fun H6 g6 s6 => ?_
    have hl' : ((swL b).map wv).length = 64 := by rw [List.length_map, swL_len]
    refine cellsV_all hl' (ok_words _) (ifL_of (of_decide_eq_true (by kernel_rfl)) ?_)
    rw [setSeg_all (c := (swL b).map wv) (by rw [z_words, hl']; rfl)]
    refine newT_of fun H7 g7 s7 => ?_
    rw [ok_words, ifB_true]
    have gf := ((gg.trans g5).trans g6).trans g7
    refine loop_up 64 (fun t s H' => s = [(rst h b t).map wv, [.int .i64 (t : Int)]] ∧ G H H') ⟨rfl, gf⟩ ?_
    rintro t s H' K ht ⟨rfl, gt⟩ hK
    simp only [sv_cons, sv_cons1, sc_cons, sc_cons1, asB_bool, ifB_true, ifB_false, bin_lss, bin_geq, bin_gtr, bin_neq]
    refine ifD_of (fun c1 => ?_) (fun c1 => ?_)
    · have ht' : t < 64 := by omega
      have hr : rst h b (t + 1) = rnd (rst h b t) (kW.getD t 0) (sw b t) := rfl
      obtain ⟨a, b', c, d, e, f, g, i, es⟩ := eight (rst_len (b := b) hh t)
      rw [es] at hr ⊢
      refine idxR_of (j := 4) (by omega) (ifL_of (by simp) ?_)
      refine idxR_of (j := 5) (by omega) (ifL_of (by simp) ?_)
      rw [seg_map (i := 4) (x := e) rfl, seg_map (i := 5) (x := f) rfl, b_and, wv_lit' (n := 4294967295) (by rfl) (by omega), b_xor]
      refine idxR_of (j := 6) (by omega) (ifL_of (by simp) ?_)
      rw [seg_map (i := 6) (x := g) rfl, b_and, b_xor, ch_eq]
      refine idxR_of (j := 7) (by omega) (ifL_of (by simp) ?_)
      refine idxR_of ht' (ifL_of (by rw [List.length_map, kW_len]; omega) ?_)
      refine idxR_of ht' (ifL_of (by omega) ?_)
      refine c_turned (n := 6) (by omega) (by omega) (by rfl) (c_turned (n := 11) (by omega) (by omega) (by rfl) ?_)
      rw [b_xor]
      refine c_turned (n := 25) (by omega) (by omega) (by rfl) ?_
      rw [b_xor, seg_map (i := 7) (x := i) rfl, seg_map (kW_get ht'), seg_map (swL_get ht'), b_add, b_add, b_add, b_add]
      refine idxR_of (j := 0) (by omega) (ifL_of (by simp) ?_)
      refine idxR_of (j := 1) (by omega) (ifL_of (by simp) ?_)
      rw [seg_map (i := 0) (x := a) rfl, seg_map (i := 1) (x := b') rfl, b_and]
      refine idxR_of (j := 2) (by omega) (ifL_of (by simp) ?_)
      rw [seg_map (i := 2) (x := c) rfl, b_and, b_xor]
      refine idxR_of (j := 1) (by omega) (ifL_of (by simp) ?_)
      refine idxR_of (j := 2) (by omega) (ifL_of (by simp) ?_)
      rw [seg_map (i := 1) (x := b') rfl, seg_map (i := 2) (x := c) rfl, b_and, b_xor, mj_eq]
      refine c_turned (n := 2) (by omega) (by omega) (by rfl) (c_turned (n := 13) (by omega) (by omega) (by rfl) ?_)
      rw [b_xor]
      refine c_turned (n := 22) (by omega) (by omega) (by rfl) ?_
      rw [b_xor, b_add, b_add]
      refine idxR_of (j := 0) (by omega) (ifL_of (by simp) ?_)
      refine idxR_of (j := 1) (by omega) (ifL_of (by simp) ?_)
      refine idxR_of (j := 2) (by omega) (ifL_of (by simp) ?_)
      refine idxR_of (j := 3) (by omega) (ifL_of (by simp) ?_)
      rw [seg_map (i := 3) (x := d) rfl, b_add]
      refine idxR_of (j := 4) (by omega) (ifL_of (by simp) ?_)
      refine idxR_of (j := 5) (by omega) (ifL_of (by simp) ?_)
      refine idxR_of (j := 6) (by omega) (ifL_of (by simp) ?_)
      iterate 9 refine ifT_of rfl ?_
      refine ifL_of (by simp) ?_
      rw [i_add (c := t + 1) (by omega) (by omega), setSeg_all (by rfl)]
      refine hK _ _ ht' ⟨?_, gt⟩
      rw [hr]
      rfl
    · have : t = 64 := by omega
      subst this
      have hr := rst_len (b := b) hh 64
      have et : turnW h b = (List.range 8).map fun i => h.getD i 0 + (rst h b 64).getD i 0 := rfl
      generalize rst h b 64 = R at *
      have gR : ∀ i, i < 8 → R[i]? = some (R.getD i 0) := fun i hi => by rw [List.getD_eq_getElem?_getD, List.getElem?_eq_getElem (by omega)]; rfl
      refine loop_up 8 (fun i s H1 => s = [(mix 8 i (fun i => h.getD i 0 + R.getD i 0) (fun i => h.getD i 0)).map wv, [.int .i64 (i : Int)]] ∧ H' = H1) ⟨by rw [mix_zero, ← as_range hh]; rfl, rfl⟩ ?_
      rintro i s H1 K2 hi ⟨rfl, rfl⟩ hK2
      simp only [sv_cons, sv_cons1, sc_cons, sc_cons1, asB_bool, ifB_true, ifB_false, bin_lss, bin_geq, bin_gtr, bin_neq]
      refine ifD_of (fun c2 => ?_) (fun c2 => ?_)
      · have hi' : i < 8 := by omega
        refine idxR_of hi' (ifL_of (by simp [mix_len]; omega) ?_)
        refine idxR_of hi' (ifL_of (by rw [List.length_map]; omega) ?_)
        rw [seg_map (mix_hi (Nat.le_refl i) hi'), seg_map (gR i hi'), b_add]
        refine idxR_of hi' ?_
        rw [ok_wv, ifB_true]
        refine ifL_of (by simp [mix_len]; omega) ?_
        rw [i_add (c := i + 1) (by omega) (by omega), set_map (by rw [mix_len]; omega), mix_set hi' rfl]
        exact hK2 _ _ hi' ⟨rfl, rfl⟩
      · have : i = 8 := by omega
        subst this
        rw [mix_full, ← et]
        have h8 : ((turnW h b).map wv).length = 8 := by rw [List.length_map, turnW_len]
        refine ifL_of (by omega) ?_
        rw [seg_allA h8]
        refine cellsV_all h8 (ok_words _) ?_
        have hz : [(.int .u32 0 : Value), .int .u32 0, .int .u32 0, .int .u32 0, .int .u32 0, .int .u32 0, .int .u32 0, .int .u32 0].length = ((turnW h b).map wv).length := h8.symm
        refine ifL_of (by rw [setSeg_all hz]; omega) ?_
        try rw [setSeg_all hz]
        try rw [seg_allA h8]
        exact hQ _ gt
  obtain ⟨a, b', c, d, e, f, g, i, eh⟩ := eight hh
  have := key a b' c d e f g i eh
  subst eh
  exact this

/-- The words of 'sha.k' lie where they are laid. -/
def KT (H : Heap) : Prop := cellsAt H 1 0 64 = some (kW.map wv)
theorem KT.lt (h : KT H) : 1 < H.size := cellsAt_lt h
theorem KT.fr {H' : Heap} {B : Nat → Prop} (h : KT H) (hf : Fr B H H') (hB : B 1) : KT H' := by
  have hl := h.lt
  unfold KT; rw [cellsAt_eq (hf.same 1 hl hB)]; exact h
theorem KT.g {H' : Heap} (h : KT H) (hf : G H H') : KT H' := h.fr hf trivial
theorem KT.load {t : Nat} {k : Value → Prop} (h : KT H) (ht : t < 64) (hk : k (wv (kW.getD t 0))) : loadP false 1 (.pointer (some ⟨1, 0 + t * 1, none⟩)) H k :=
  load_cells h ht (by rw [List.getElem?_map, kW_get ht]; rfl) hk

theorem c_turn {h : List W} {sfx : List Value} {p : Nat} {v : Value} {b : List UInt8} (hk : KT H) (hp : Blk H p (h.map wv ++ sfx)) (hp1 : p ≠ 1) (hh : h.length = 8) (hv : Sl rU8 H A v b) (hl : b.length = 64)
    (hQ : ∀ u H', Blk H' p ((turnW h b).map wv ++ sfx) → Fr (fun y => y ≠ p) H H' → Q u H') :
    callV Tryd.prog (fnV fn_sha_turn) [.pointer (some ⟨p, 0, none⟩), v] H Q := by
  apply S_sha_turn_of
  unfold S_sha_turn
  refine newT_of fun H1 g1 s1 => newT_of fun H2 g2 s2 => ?_
  have g := g1.trans g2
  have hhw : (h.map wv).length = 8 := by rw [List.length_map, hh]
  have hl' : ((swL b).map wv).length = 64 := by rw [List.length_map, swL_len]
  have hpl := hp.lt
  have u : ∀ H', G H H' → ∀ k : Value → Prop, k (.agg (h.map wv).toArray) → loadP true 8 (.pointer (some ⟨p, 0, none⟩)) H' k := fun H' g k hk => by
    refine (hp.g g).loadA (by rw [List.length_append]; omega) ?_
    rw [seg_app hhw]; exact hk
  refine join_of (fun s H' => ∃ a, s = [(swL b).map wv, [.pointer (some ⟨a, 0, none⟩)]] ∧ Blk H' a (h.map wv) ∧ G H H' ∧ H.size ≤ a) ?_ ?_
  · intro K hK
    simp only [nilV]
    refine u _ g _ ?_
    have fin : ∀ (H' : Heap) (a : Nat), G H H' → H.size ≤ a → Blk H' a [(.int .u32 0), (.int .u32 0), (.int .u32 0), (.int .u32 0), (.int .u32 0), (.int .u32 0), (.int .u32 0), (.int .u32 0)] →
        ifB (decide (0 + 64 ≤ ((zeroL Tryd.prog 145)).length)) ((loadP true 8 (.pointer (some ⟨p, 0, none⟩)) H' fun u20 => u20 = .agg (h.map wv).toArray) ∧
          (storeP true 8 (.pointer (some ⟨a, 0, none⟩)) (.agg (h.map wv).toArray) H' fun H => K [(setSeg (zeroL Tryd.prog 145) 0 ((swL b).map wv)), [(.pointer (some ⟨a, 0, none⟩))]] H)) False := by
      intro H' a g' ha hb
      refine ifL_of (of_decide_eq_true (by kernel_rfl)) ⟨u _ g' _ rfl, ?_⟩
      refine hb.storeA hhw (ok_words _) (by simp) fun H5 h5 f5 s5 => ?_
      rw [setSeg_all (by rw [z_words, hl']; rfl)]
      rw [setSeg_all (by rw [hhw]; rfl)] at h5
      exact hK _ _ ⟨a, rfl, h5, g'.then f5 fun y hy => by omega, ha⟩
    refine ⟨c_spread (hv.g g) hl fun H3 g3 => ⟨u _ (g.trans g3) _ rfl, ?_⟩, ?_, ?_⟩
    · have g := g.trans g3
      have gs := g.size
      refine ⟨newT_of fun H4 g4 s4 => ⟨u _ (g.trans g4) _ rfl, Blk.new fun H5 b5 g5 s5 => ⟨u _ ((g.trans g4).trans g5) _ rfl, ?_⟩⟩, Blk.new fun H4 b4 g4 s4 => ⟨u _ (g.trans g4) _ rfl, newT_of fun H5 g5 s5 => ⟨u _ ((g.trans g4).trans g5) _ rfl, ?_⟩⟩⟩
      · exact cellsV_all hl' (ok_words _) (fin _ _ ((g.trans g4).trans g5) (by have := g4.size; omega) b5)
      · exact cellsV_all hl' (ok_words _) (fin _ _ ((g.trans g4).trans g5) (by omega) (b4.g g5))
    · refine newT_of fun H3 g3 s3 => ⟨u _ (g.trans g3) _ rfl, ?_⟩
      have g := g.trans g3
      have gs := g.size
      refine ⟨c_spread (hv.g g) hl fun H4 g4 => ⟨u _ (g.trans g4) _ rfl, Blk.new fun H5 b5 g5 s5 => ⟨u _ ((g.trans g4).trans g5) _ rfl, ?_⟩⟩, Blk.new fun H4 b4 g4 s4 => ⟨u _ (g.trans g4) _ rfl, c_spread (hv.g (g.trans g4)) hl fun H5 g5 => ⟨u _ ((g.trans g4).trans g5) _ rfl, ?_⟩⟩⟩
      · exact cellsV_all hl' (ok_words _) (fin _ _ ((g.trans g4).trans g5) (by have := g4.size; omega) b5)
      · exact cellsV_all hl' (ok_words _) (fin _ _ ((g.trans g4).trans g5) (by omega) (b4.g g5))
    · have gs := g.size
      refine Blk.new fun H3 b3 g3 s3 => ⟨u _ (g.trans g3) _ rfl, ?_⟩
      have g := g.trans g3
      refine ⟨c_spread (hv.g g) hl fun H4 g4 => ⟨u _ (g.trans g4) _ rfl, newT_of fun H5 g5 s5 => ⟨u _ ((g.trans g4).trans g5) _ rfl, ?_⟩⟩, newT_of fun H4 g4 s4 => ⟨u _ (g.trans g4) _ rfl, c_spread (hv.g (g.trans g4)) hl fun H5 g5 => ⟨u _ ((g.trans g4).trans g5) _ rfl, ?_⟩⟩⟩
      · exact cellsV_all hl' (ok_words _) (fin _ _ ((g.trans g4).trans g5) gs ((b3.g g4).g g5))
      · exact cellsV_all hl' (ok_words _) (fin _ _ ((g.trans g4).trans g5) gs ((b3.g g4).g g5))
  · rintro s8 H3 ⟨a7, rfl, hb, g3, ha7⟩
    refine loop_up 64 (fun t s H' => s = [[.int .i64 (t : Int)]] ∧ G H H' ∧ Blk H' a7 ((rst h b t).map wv)) ⟨rfl, g3, hb⟩ ?_
    rintro t s H4 K ht ⟨rfl, gt, hb⟩ hK
    simp only [sv_cons, sv_cons1, sc_cons, sc_cons1, asB_bool, ifB_true, ifB_false, bin_lss, bin_geq, bin_gtr, bin_neq]
    refine ifD_of (fun c1 => ?_) (fun c1 => ?_)
    · have ht' : t < 64 := by omega
      have hr : rst h b (t + 1) = rnd (rst h b t) (kW.getD t 0) (sw b t) := rfl
      obtain ⟨a, b', c, d, e, f, g', i, es⟩ := eight (rst_len (b := b) hh t)
      rw [es] at hr hb
      have kt := hk.g gt
      refine idxA_of (j := 7) (by omega) (hb.load (v := wv i) rfl ?_)
      refine idxA_of (j := 4) (by omega) (hb.load (v := wv e) rfl ?_)
      refine idxA_of (j := 6) (by omega) (hb.load (v := wv g') rfl ?_)
      refine idxA_of (j := 4) (by omega) (hb.load (v := wv e) rfl ?_)
      refine idxA_of (j := 5) (by omega) (hb.load (v := wv f) rfl ?_)
      refine idxA_of (j := 6) (by omega) (hb.load (v := wv g') rfl ?_)
      rw [b_xor, b_and, b_xor]
      refine idxA_of ht' (kt.load ht' ?_)
      refine idxR_of ht' (ifL_of (by omega) ?_)
      refine c_of (a := 6) (b := 11) (c := 25) (m := false) (by omega) (by omega) (by omega) fun H5 g5 => ?_
      have hb := hb.g g5
      have gt := gt.trans g5
      refine ⟨(kt.g g5).load ht' rfl, hb.load rfl rfl, hb.load rfl rfl, hb.load rfl rfl, hb.load rfl rfl, hb.load rfl rfl, ?_⟩
      rw [b_add, b_add, b_add, seg_map (swL_get ht'), b_add]
      refine idxA_of (j := 0) (by omega) (hb.load (v := wv a) rfl ?_)
      refine idxA_of (j := 0) (by omega) (hb.load (v := wv a) rfl ?_)
      refine idxA_of (j := 1) (by omega) (hb.load (v := wv b') rfl ?_)
      rw [b_and]
      refine idxA_of (j := 2) (by omega) (hb.load (v := wv c) rfl ?_)
      refine idxA_of (j := 0) (by omega) (hb.load (v := wv a) rfl ?_)
      refine idxA_of (j := 1) (by omega) (hb.load (v := wv b') rfl ?_)
      rw [b_or, b_and, b_or]
      refine c_of (a := 2) (b := 13) (c := 22) (m := false) (by omega) (by omega) (by omega) fun H6 g6 => ?_
      have hb := hb.g g6
      have gt := gt.trans g6
      refine ⟨hb.load rfl rfl, hb.load rfl rfl, hb.load rfl rfl, hb.load rfl rfl, hb.load rfl rfl, ?_⟩
      rw [b_add]
      refine slA_of (lo := 1) (hi := 8) (optI_some (x := ((1 : Nat) : Int))) (optI_none (d := ((8 : Nat) : Int))) (by omega) (by omega) (by omega) ?_
      refine slA_of (lo := 0) (hi := 7) (optI_none (d := ((0 : Nat) : Int))) (optI_some (x := ((7 : Nat) : Int))) (by omega) (by omega) (by omega) ?_
      refine hb.cp (n := 7) (o1 := 0 + 1 * 1) (o2 := 0 + 0 * 1) (by omega) (ok_words _) (by simp) (by simp) (by omega) fun H7 hb f7 s7 => ?_
      have gt := gt.then f7 fun y hy => by omega
      rw [b_add]
      refine idxA_of (j := 4) (by omega) (hb.load (v := wv d) rfl ?_)
      rw [b_add]
      refine idxA_of (j := 0) (by omega) (hb.store (ok_wv _) (by simp [setSeg, seg]) fun H8 hb f8 s8 => ?_)
      have gt := gt.then f8 fun y hy => by omega
      refine idxA_of (j := 4) (by omega) (hb.store (ok_wv _) (by simp [setSeg, seg]) fun H9 hb f9 s9 => ?_)
      have gt := gt.then f9 fun y hy => by omega
      rw [i_add (c := t + 1) (by omega) (by omega)]
      refine hK _ _ ht' ⟨rfl, gt, ?_⟩
      rw [hr]
      exact hb
    · have : t = 64 := by omega
      subst this
      have hr := rst_len (b := b) hh 64
      have et : turnW h b = (List.range 8).map fun i => h.getD i 0 + (rst h b 64).getD i 0 := rfl
      generalize rst h b 64 = R at *
      have gR : ∀ i, i < 8 → R[i]? = some (R.getD i 0) := fun i hi => by rw [List.getD_eq_getElem?_getD, List.getElem?_eq_getElem (by omega)]; rfl
      have hap : a7 ≠ p := by omega
      refine loop_up 8 (fun i s H1 => s = [[.int .i64 (i : Int)]] ∧ Fr (fun y => y ≠ p) H H1 ∧ Blk H1 a7 (R.map wv) ∧ Blk H1 p ((mix 8 i (fun i => h.getD i 0 + R.getD i 0) (fun i => h.getD i 0)).map wv ++ sfx)) ⟨rfl, gt.fr, hb, by
        rw [mix_zero, ← as_range hh]; exact hp.g gt⟩ ?_
      rintro i s H5 K2 hi ⟨rfl, ft, hb, hq⟩ hK2
      simp only [sv_cons, sv_cons1, sc_cons, sc_cons1, asB_bool, ifB_true, ifB_false, bin_lss, bin_geq, bin_gtr, bin_neq]
      refine ifD_of (fun c2 => ?_) (fun c2 => ?_)
      · have hi' : i < 8 := by omega
        have hml : (mix 8 i (fun i => h.getD i 0 + R.getD i 0) (fun i => h.getD i 0)).length = 8 := mix_len
        simp only [nilV]
        refine idxA_of hi' (hq.load (v := wv (h.getD i 0)) ?_ ?_)
        · rw [Nat.zero_add, Nat.mul_one, List.getElem?_append_left (by rw [List.length_map]; omega), List.getElem?_map, mix_hi (Nat.le_refl i) hi']; rfl
        refine idxA_of hi' (hb.load (v := wv (R.getD i 0)) ?_ ?_)
        · rw [Nat.zero_add, Nat.mul_one, List.getElem?_map, gR i hi']; rfl
        rw [b_add]
        refine idxA_of hi' (hq.store (ok_wv _) (by rw [List.length_append, List.length_map]; omega) fun H6 hq f6 s6 => ?_)
        rw [i_add (c := i + 1) (by omega) (by omega)]
        refine hK2 _ _ hi' ⟨rfl, ⟨Nat.le_trans ft.size f6.size, fun y hy hne => (f6.same y (Nat.lt_of_lt_of_le hy ft.size) hne).trans (ft.same y hy hne)⟩, hb.fr f6 hap, ?_⟩
        rw [Nat.zero_add, Nat.mul_one, List.set_append_left _ _ (by rw [List.length_map]; omega), ← List.map_set, mix_set hi' rfl] at hq
        exact hq
      · have : i = 8 := by omega
        subst this
        rw [mix_full, ← et] at hq
        exact hQ _ _ hq ft

theorem c_Grow {n : Nat} (hn : n ≤ 1000000000) (hQ : ∀ u H', Bd rU8 H H' u [] → Q u H') : callV Tryd.prog (fnV fn_slices_Grow_byte_byte) [.slice none 0 0, .int .i64 (n : Int)] H Q := by
  apply S_slices_Grow_byte_byte_of
  unfold S_slices_Grow_byte_byte
  simp only [sv_cons, sv_cons1, sc_cons, sc_cons1, asB_bool, ifB_true, ifB_false, bin_lss, bin_geq, bin_gtr, bin_neq]
  refine join_of (fun s H' => H = H') (fun K hK => ?_) ?_
  · refine ifD_of (fun c => absurd c (by omega)) (fun _ => hK _ _ rfl)
  rintro s H' rfl
  simp only [capSl]
  refine lenSl_mk ?_
  rw [i_sub (c := 0) (by omega) (by omega), i_sub (c := n) (by omega) (by omega)]
  simp only [sv_cons, sv_cons1, sc_cons, sc_cons1, asB_bool, ifB_true, ifB_false, bin_lss, bin_geq, bin_gtr, bin_neq]
  refine join_of (fun s H' => ∃ u, s = [[u]] ∧ Bd rU8 H H' u []) (fun K hK => ?_) ?_
  · refine ifD_of (fun c => ?_) (fun c => hK _ _ ⟨_, rfl, Bd.nil _ (Fr.refl _ H)⟩)
    have hn0 : 0 < n := by omega
    simp only [slS, optI, asI]
    refine ⟨⟨by omega, by omega, by omega, by omega, fun x h => by cases h⟩, ?_⟩
    have e : slAdd none 0 ((0 : Nat) : Int) 1 = none := rfl
    rw [e]
    simp only [appZ, asI, srcC]
    refine ⟨⟨by omega, by omega, by omega, by kernel_rfl⟩, ?_⟩
    rw [if_neg (by omega)]
    refine fun nc h1 h2 => Blk.new fun H1 hb g1 s1 => ?_
    refine lenSl_mk ?_
    refine ⟨⟨by omega, by omega, by omega, by omega, fun x h => by cases h; rfl⟩, ?_⟩
    refine hK _ _ ⟨_, rfl, g1, H.size + 1, ?_, .inr (by omega)⟩
    have e2 : slAdd (some ⟨H.size, 0, none⟩) 0 (nc : Int) 1 = some ⟨H.size, 0, none⟩ := by
      unfold slAdd
      rw [if_neg (by omega)]; rfl
    rw [e2]
    obtain ⟨ty, hb⟩ := hb
    refine ⟨[], rfl, fun i cs x hc => by simp at hc, .inr ⟨H.size, nc, _, ty, rfl, ?_, Nat.zero_le _, hb, ?_⟩⟩
    · congr 1
    · simp only [List.flatten_nil, List.nil_append, List.append_eq, List.length_append, zcells, List.length_map, List.length_range, List.length_nil]
      rw [show rU8.n = 1 from rfl]
      omega
  · rintro s H' ⟨u, rfl, hb⟩
    exact hQ _ _ hb

theorem take_flat {xss : List (List UInt8)} {i : Nat} {xs : List UInt8} (h : xss[i]? = some xs) : (xss.take (i + 1)).flatten = (xss.take i).flatten ++ xs := by
  rw [List.take_add_one, h]; simp

theorem flat_le {xss : List (List UInt8)} (i : Nat) : (xss.take i).flatten.length ≤ xss.flatten.length := by
  have e := List.take_append_drop i xss
  have : xss.flatten.length = (xss.take i).flatten.length + (xss.drop i).flatten.length := by
    conv => lhs; rw [← e]
    rw [List.flatten_append, List.length_append]
  omega

theorem c_Concat {w : Value} {xss : List (List UInt8)} (hw : Sl (rSl rU8) H A w xss) (hl : xss.length ≤ 1000000) (hf : xss.flatten.length ≤ 1000000000) (hQ : ∀ u H', Bd rU8 H H' u xss.flatten → Q u H') :
    callV Tryd.prog (fnV fn_slices_Concat_byte_byte) [w] H Q := by
  apply S_slices_Concat_byte_byte_of
  unfold S_slices_Concat_byte_byte
  refine hw.len ?_
  refine loop_up xss.length (fun i s H' => s = [[.int .i64 ((xss.take i).flatten.length : Int)], [.int .i64 (i : Int)]] ∧ H = H') ⟨rfl, rfl⟩ ?_
  rintro i s H' K hi ⟨rfl, rfl⟩ hK
  simp only [sv_cons, sv_cons1, sc_cons, sc_cons1, asB_bool, ifB_true, ifB_false, bin_lss, bin_geq, bin_gtr, bin_neq]
  refine ifD_of (fun c => ?_) (fun c => ?_)
  · have hi' : i < xss.length := by omega
    have hx := List.getElem?_eq_getElem hi'
    have hfl := flat_le (xss := xss) (i + 1)
    rw [take_flat hx, List.length_append] at hfl
    refine hw.getS hx fun u hu => hu.len ?_
    rw [i_add (c := ((xss.take i).flatten.length + (xss[i]).length)) (by omega) (by omega)]
    simp only [sv_cons, sv_cons1, sc_cons, sc_cons1, asB_bool, ifB_true, ifB_false, bin_lss, bin_geq, bin_gtr, bin_neq]
    refine join_of (fun s H' => H = H') (fun K hK => ?_) ?_
    · refine ifD_of (fun c => absurd c (by omega)) (fun _ => hK _ _ rfl)
    rintro s H' rfl
    rw [i_add (c := i + 1) (by omega) (by omega)]
    refine hK _ _ hi' ⟨?_, rfl⟩
    rw [take_flat hx, List.length_append]
  · have : i = xss.length := by omega
    subst this
    rw [List.take_length]
    refine c_Grow hf fun u H1 hb => ?_
    refine hw.len ?_
    refine loop_up xss.length (fun i s H' => ∃ u, s = [[u], [.int .i64 (i : Int)]] ∧ Bd rU8 H H' u (xss.take i).flatten) ⟨u, rfl, by simpa using hb⟩ ?_
    rintro i s H' K2 hi ⟨u, rfl, hb⟩ hK2
    simp only [sv_cons, sv_cons1, sc_cons, sc_cons1, asB_bool, ifB_true, ifB_false, bin_lss, bin_geq, bin_gtr, bin_neq]
    refine ifD_of (fun c => ?_) (fun c => ?_)
    · have hi' : i < xss.length := by omega
      have hx := List.getElem?_eq_getElem hi'
      have hfl := flat_le (xss := xss) (i + 1)
      rw [take_flat hx, List.length_append] at hfl
      refine (hw.g hb.g).getS hx fun t ht => ?_
      refine hb.app (Fr.refl _ _) ht.src.f8 rfl (by omega) (by kernel_rfl) (fun y hy => hy.elim) (by omega) (by omega) fun v H2 hb2 => ?_
      rw [i_add (c := i + 1) (by omega) (by omega)]
      exact hK2 _ _ hi' ⟨v, rfl, by rw [take_flat hx]; exact hb2⟩
    · have : i = xss.length := by omega
      subst this
      rw [List.take_length] at hb
      exact hQ _ _ hb

/-- A digest under way. -/
def cS (l : List W) (u : Value) (m : Nat) : List Value := l.map wv ++ [u, .int .u64 (m : Int)]
section
variable {l : List W} {u u' : Value} {m m' : Nat}
theorem cS_len (h : l.length = 8) : (cS l u m).length = 10 := by simp [cS, h]
theorem cS_8 (h : l.length = 8) : (cS l u m)[8]? = some u := by obtain ⟨a, b', c, d, e, f, g, i, rfl⟩ := eight h; rfl
theorem cS_9 (h : l.length = 8) : (cS l u m)[9]? = some (.int .u64 (m : Int)) := by obtain ⟨a, b', c, d, e, f, g, i, rfl⟩ := eight h; rfl
theorem cS_set8 (h : l.length = 8) : (cS l u m).set 8 u' = cS l u' m := by obtain ⟨a, b', c, d, e, f, g, i, rfl⟩ := eight h; rfl
theorem cS_set9 (h : l.length = 8) : (cS l u m).set 9 (.int .u64 (m' : Int)) = cS l u m' := by obtain ⟨a, b', c, d, e, f, g, i, rfl⟩ := eight h; rfl
theorem cS_ok (h : okc u = true) : (cS l u m).all okc = true := by
  unfold cS; rw [List.all_append, ok_words]; simp only [List.all_cons, h, ok_int, List.all_nil, Bool.and_true]
end

theorem c_come {h : List W} {r b : List UInt8} {many : Nat} {rv bv : Value} (hk : KT H) (hh : h.length = 8) (hr : Sl rU8 H A rv r) (hb : Sl rU8 H B bv b) (hl : r.length + b.length ≤ 100000000) (hm : many ≤ 1000000000)
    (hQ : ∀ u H', Sl rU8 H' (fun y => H.size ≤ y) u (comeW h (r ++ b)).2 → G H H' → Q (.agg (cS (comeW h (r ++ b)).1 u (many + b.length)).toArray) H') :
    callV Tryd.prog (fnV fn_sha_come) [.agg (cS h rv many).toArray, bv] H Q := by
  have key : ∀ a b' c d e f g i, h = [a, b', c, d, e, f, g, i] → callV Tryd.prog (fnV fn_sha_come) [.agg #[wv a, wv b', wv c, wv d, wv e, wv f, wv g, wv i, rv, .int .u64 (many : Int)], bv] H Q := by
    intro a b' c d e f g i eh
    apply S_sha_come_of
    unfold S_sha_come
    have e0 : [wv a, wv b', wv c, wv d, wv e, wv f, wv g, wv i, rv, .int .u64 (many : Int)] = cS h rv many := by rw [eh]; rfl
    rw [e0]
    refine Blk.new fun H1 b1 g1 s1 => Blk.new fun H2 b2 g2 s2 => ?_
    have b1 := b1.g g2
    have g := g1.trans g2
    have hkl := hk.lt
    simp only [w_fldP, Nat.zero_add]
    let M := many + b.length
    let J : Heap → List W → Value → List UInt8 → Prop := fun H' hc u rc => Blk H' H.size (cS hc u M) ∧ (∃ c4, Blk H' H1.size c4 ∧ c4.length = 10) ∧ Sl rU8 H' (fun y => H.size + 1 < y) u rc ∧
      comeW hc rc = comeW h (r ++ b) ∧ hc.length = 8 ∧ G H H'
    have step : ∀ (H' : Heap) (hc : List W) (u : Value) (rc : List UInt8) (k0 : Prop) (k1 : Heap → Prop), J H' hc u rc → (rc.length < 64 → k0) → (∀ H'' hc' u' rc', J H'' hc' u' rc' → rc'.length < rc.length → k1 H'') →
        loadP false 1 (.pointer (some ⟨H.size, 8, none⟩)) H' fun t19 => lenSl t19 H' fun t20 => binV (.int .i64) .lss t20 (.int .i64 64) fun t21 => asB t21 fun b21 => ifB b21 k0
          (loadP false 1 (.pointer (some ⟨H.size, 8, none⟩)) H' fun t24 => slS 1 t24 none (some (.int .i64 64)) none fun t25 => callV Tryd.prog (fnV fn_sha_turn) [.pointer (some ⟨H.size, 0, none⟩), t25] H' fun t26 H3 =>
            loadP false 1 (.pointer (some ⟨H.size, 8, none⟩)) H3 fun t28 => slS 1 t28 (some (.int .i64 64)) none none fun t29 => storeP false 1 (.pointer (some ⟨H.size, 8, none⟩)) t29 H3 fun H4 => k1 H4) := by
      rintro H' hc u rc k0 k1 ⟨hb1, ⟨c4, hb4, hc4⟩, hu, hcm, hcl, gt⟩ h0 h1
      refine hb1.load (cS_8 hcl) (hu.len ?_)
      simp only [sv_cons, sv_cons1, sc_cons, sc_cons1, asB_bool, ifB_true, ifB_false, bin_lss, bin_geq, bin_gtr, bin_neq]
      refine ifD_of (fun c => h0 (by omega)) (fun c => ?_)
      have hlong : ¬ rc.length < 64 := by omega
      refine hb1.load (cS_8 hcl) ?_
      refine hu.cut (lo := 0) (hi := 64) rfl (by omega) (by omega) (by omega) (optI_none (d := ((0 : Nat) : Int))) (optI_some (x := ((64 : Nat) : Int))) fun v hv => ?_
      rw [List.drop_zero, Nat.sub_zero] at hv
      refine c_turn (hk.g gt) hb1 (by omega) hcl hv (by rw [List.length_take]; omega) fun _ H5 hb5 f5 => ?_
      have hu5 : Sl rU8 H5 (fun y => H.size + 1 < y) u rc := hu.up f5 fun y hy _ => ⟨by omega, hy⟩
      have hcl5 : (turnW hc (rc.take 64)).length = 8 := turnW_len
      refine Blk.load (cs := cS (turnW hc (rc.take 64)) u M) hb5 (cS_8 hcl5) ?_
      refine hu5.cut (lo := 64) (hi := rc.length) rfl (by omega) (by omega) (by omega) (optI_some (x := ((64 : Nat) : Int))) (optI_none (d := (rc.length : Int))) fun v2 hv2 => ?_
      rw [List.take_of_length_le (by rw [List.length_drop]; exact Nat.le_refl _)] at hv2
      refine Blk.store (cs := cS (turnW hc (rc.take 64)) u M) hb5 hv2.okcv (by rw [cS_len hcl5]; omega) fun H6 hb6 f6 s6 => ?_
      rw [cS_set8 hcl5] at hb6
      refine h1 _ _ _ (rc.drop 64) ⟨hb6, ⟨c4, (hb4.fr f5 (by omega)).fr f6 (by omega), hc4⟩, hv2.up f6 fun y hy _ => ⟨by omega, hy⟩, ?_, hcl5, (gt.then f5 fun y hy => by omega).then f6 fun y hy => by omega⟩ (by rw [List.length_drop]; omega)
      rw [← hcm, comeW_hi hlong]
    refine ⟨fun n l s H' => s = [] ∧ ∃ hc u rc, J H' hc u rc ∧ (l = 0 → rc.length < 64) ∧ n = (if l = 1 then rc.length + 1 else 0), ?_, ?_, ?_, trivial⟩
    · refine b1.load (cS_9 hh) (hb.len ?_)
      rw [cv_nat (q := .u64) (by show _ < 2 ^ 64; omega), bin_add, show IntKind.u64.wrap ((many : Int) + (b.length : Int)) = ((M : Nat) : Int) by
        rw [show (many : Int) + (b.length : Int) = ((M : Nat) : Int) by simp [M]]; exact wrap_nat (q := .u64) (by show _ < 2 ^ 64; omega)]
      refine b1.store rfl (by rw [cS_len hh]; omega) fun H3 b1 f3 s3 => ?_
      rw [cS_set9 hh] at b1
      have g3 := g.then f3 fun y hy => by omega
      refine b1.load (cS_8 hh) ?_
      refine bld_all (R := rSl rU8) (A := fun _ => True) (.cons (vrep_S ((hr.g g3).mono fun _ _ _ => trivial)) (.cons (vrep_S ((hb.g g3).mono fun _ _ _ => trivial)) .nil)) rfl (fun _ => rfl) rfl fun w H4 hw g4 s4 => ?_
      refine c_Concat (A := fun _ => True) (hw.sl (fun _ _ _ => trivial) fun _ _ => trivial) (by simp) (by simp; omega) fun u H5 hu => ?_
      have hu5 := hu.sl
      have g45 := hu.g
      rw [show [r, b].flatten = r ++ b by simp] at hu5
      have b5 := (b1.g g4).g g45
      refine b5.store hu5.okcv (by rw [cS_len hh]; omega) fun H6 b6 f6 s6 => ?_
      rw [cS_set8 hh] at b6
      have hs3 := g2.size
      refine step H6 h u (r ++ b) _ _ ⟨b6, ⟨_, (((b2.fr f3 (by omega)).g g4).g g45).fr f6 (by omega), rfl⟩, hu5.up f6 fun y hy _ => ⟨by omega, by omega⟩, rfl, hh, ((g3.trans g4).trans g45).then f6 fun y hy => by omega⟩ (fun hlt => ?_) fun H7 hc' u' rc' hJ hlt => ?_
      · exact ⟨0, rfl, h, u, r ++ b, ⟨b6, ⟨_, (((b2.fr f3 (by omega)).g g4).g g45).fr f6 (by omega), rfl⟩, hu5.up f6 fun y hy _ => ⟨by omega, by omega⟩, rfl, hh, ((g3.trans g4).trans g45).then f6 fun y hy => by omega⟩, fun _ => hlt, rfl⟩
      · exact ⟨_, rfl, hc', u', rc', hJ, (fun h => by cases h), rfl⟩
    · rintro n s H3 ⟨rfl, hc, u, rc, hJ, _, hn⟩
      simp only [w_fldP, Nat.zero_add]
      refine step H3 hc u rc _ _ hJ (fun hlt => ⟨0, ?_, trivial, hc, u, rc, hJ, fun _ => hlt, by simp⟩) fun H4 hc' u' rc' hJ' hlt => ⟨rc'.length + 1, ?_, trivial, hc', u', rc', hJ', (fun h => by cases h), by simp⟩
      · rw [hn]; simp
      · rw [hn]; simp; omega
    · rintro n s H3 ⟨rfl, hc, u, rc, ⟨hb1, ⟨c4, hb4, hc4⟩, hu, hcm, hcl, gt⟩, hlt, _⟩
      have hlt := hlt rfl
      rw [comeW_lo hlt] at hcm
      have gs := gt.size
      refine hb1.load (cS_8 hcl) (c_CloneF hu (by omega) fun v H4 k hv g4 hk4 => ?_)
      have gt4 := gt.trans g4
      refine (hb1.g g4).store hv.okcv (by rw [cS_len hcl]; omega) fun H5 b5 f5 s5 => ?_
      rw [cS_set8 hcl] at b5
      have h4l := hb4.lt
      refine b5.loadA (n := 10) (by rw [cS_len hcl]; omega) ?_
      rw [seg_all (cS_len hcl)]
      refine ((hb4.g g4).fr f5 (by omega)).storeA (cS_len hcl) (cS_ok hv.okcv) (by omega) fun H6 b6 f6 s6 => ?_
      rw [setSeg_all (by rw [hc4, cS_len hcl])] at b6
      refine b6.loadA (n := 10) (by rw [cS_len hcl]; omega) ?_
      rw [seg_all (cS_len hcl)]
      have hvs : Sl rU8 H6 (fun y => H.size ≤ y) v rc := ((hv.slF (A' := fun y => H3.size ≤ y) fun k hk => by omega).up f5 fun y hy _ => ⟨by omega, hy⟩).up f6 fun y hy _ => ⟨by omega, by omega⟩
      have := hQ v H6 (by rw [← hcm]; exact hvs) ((gt4.then f5 fun y hy => by omega).then f6 fun y hy => by omega)
      rw [← hcm] at this
      exact this
  obtain ⟨a, b', c, d, e, f, g, i, eh⟩ := eight hh
  have := key a b' c d e f g i eh
  subst eh
  exact this

theorem vrep_b8 {b : UInt8} : VRep rU8 H (fun _ => False) false (b8 b) b := ⟨_, rfl, rfl, trivial⟩
theorem z_bytes : zeroL Tryd.prog 49 = (List.replicate 32 (0 : UInt8)).map b8 := z_digest
theorem b8_mod {x : Nat} {q' : IntKind} {k : Value → Prop} : cvI .u8 (.int q' (x : Int)) k = k (b8 (UInt8.ofNat x)) := by
  rw [cv_mod rfl]; unfold b8; rw [UInt8.toNat_ofNat']; rfl
theorem cS_get {l : List W} {u : Value} {m i : Nat} (hl : l.length = 8) (h : i < 8) : (cS l u m)[i]? = some (wv (l.getD i 0)) := by
  unfold cS
  rw [List.getElem?_append_left (by rw [List.length_map]; omega), List.getElem?_map, List.getD_eq_getElem?_getD, List.getElem?_eq_getElem (by omega)]; rfl

theorem rem_nat {m n : Nat} : ((m : Int)).tmod (n : Int) = ((m % n : Nat) : Int) := rfl
theorem quo_nat {m n : Nat} : ((m : Int)).tdiv (n : Int) = ((m / n : Nat) : Int) := rfl
theorem i_rem {a b : Int} {c : Nat} {q : IntKind} {k : Value → Prop} {m n : Nat} (ha : a = (m : Int)) (hb : b = (n : Int)) (hn : n ≠ 0) (h : c = m % n) (hk : k (.int q (c : Int))) : binV (.int q) .rem (.int q a) (.int q b) k := by
  subst ha; subst hb; subst h
  exact w_rem (by omega) hk
theorem i_quo {a b : Int} {c : Nat} {k : Value → Prop} {m n : Nat} (ha : a = (m : Int)) (hb : b = (n : Int)) (hn : n ≠ 0) (h : c = m / n) (hc : c < 9223372036854775808) (hk : k (.int .i64 (c : Int))) : binV (.int .i64) .quo (.int .i64 a) (.int .i64 b) k := by
  subst ha; subst hb; subst h
  refine w_quo (by omega) ?_
  rw [quo_nat, w_i64 rfl hc]; exact hk

theorem c_Check {h : List W} {u : Value} {r : List UInt8} {many : Nat} (hh : h.length = 8) (hu : Sl rU8 H A u r) (hr : r.length = many % 64) (hm : many ≤ 1000000000) (hQ : ∀ H', G H H' → Q (.int .i64 0) H') :
    callV Tryd.prog (fnV fn_sha_Check) [.agg (cS h u many).toArray] H Q := by
  have key : ∀ a b' c d e f g i, h = [a, b', c, d, e, f, g, i] → callV Tryd.prog (fnV fn_sha_Check) [.agg #[wv a, wv b', wv c, wv d, wv e, wv f, wv g, wv i, u, .int .u64 (many : Int)]] H Q := by
    intro a b' c d e f g i eh
    apply S_sha_Check_of
    unfold S_sha_Check
    refine newT_of fun H1 g1 s1 => ?_
    refine join_of (fun s H' => s = [[.bool false]] ∧ H1 = H') (fun K hK => ?_) ?_
    · simp only [sv_cons, sv_cons1, sc_cons, sc_cons1, asB_bool, ifB_true, ifB_false, bin_lss, bin_geq, bin_gtr, bin_neq]
      refine ifD_of (fun c => absurd c (by omega)) (fun _ => ?_)
      refine hu.len ?_
      rw [cv_nat (q := .u64) (by show _ < 2 ^ 64; omega)]
      refine i_rem (m := many) (n := 64) rfl rfl (by omega) rfl ?_
      simp only [sv_cons, sv_cons1, sc_cons, sc_cons1, asB_bool, ifB_true, ifB_false, bin_lss, bin_geq, bin_gtr, bin_neq]
      refine hK _ _ ⟨?_, rfl⟩
      rw [hr]
      simp
    · rintro s H' ⟨rfl, rfl⟩
      simp only [sv_cons, sv_cons1, sc_cons, sc_cons1, asB_bool, ifB_true, ifB_false, bin_lss, bin_geq, bin_gtr, bin_neq]
      exact hQ _ g1
  obtain ⟨a, b', c, d, e, f, g, i, eh⟩ := eight hh
  have := key a b' c d e f g i eh
  subst eh
  exact this

theorem c_End {h : List W} {u : Value} {r : List UInt8} {many : Nat} (hk : KT H) (hh : h.length = 8) (hu : Sl rU8 H A u r) (hr : r.length = many % 64) (hm : many ≤ 100000000)
    (hQ : ∀ H', G H H' → Q (.tuple #[.agg ((endL h r many).map b8).toArray, .int .i64 0]) H') :
    callV Tryd.prog (fnV fn_sha_End) [.agg (cS h u many).toArray] H Q := by
  have key : ∀ a b' c d e f g i, h = [a, b', c, d, e, f, g, i] → callV Tryd.prog (fnV fn_sha_End) [.agg #[wv a, wv b', wv c, wv d, wv e, wv f, wv g, wv i, u, .int .u64 (many : Int)]] H Q := by
    intro a b' c d e f g i eh
    apply S_sha_End_of
    unfold S_sha_End
    have e0 : [wv a, wv b', wv c, wv d, wv e, wv f, wv g, wv i, u, .int .u64 (many : Int)] = cS h u many := by rw [eh]; rfl
    rw [e0]
    refine newT_of fun H1 g1 s1 => newT_of fun H2 g2 s2 => c_Check hh (hu.g (g1.trans g2)) hr (by omega) fun H3 g3 => ?_
    have g := (g1.trans g2).trans g3
    simp only [sv_cons, sv_cons1, sc_cons, sc_cons1, asB_bool, ifB_true, ifB_false, bin_lss, bin_geq, bin_gtr, bin_neq]
    refine bld_one (R := rU8) (v := b8 128) vrep_b8 rfl (fun _ => rfl) (by kernel_rfl) fun t H4 ht g4 s4 => ?_
    have hrl : r.length < 64 := by omega
    have hpad : padN r.length < 64 := by unfold padN; omega
    have bd0 : Bd rU8 H H4 t (128 :: List.replicate 0 0) := ⟨g.trans g4, _, ht.mono fun y hy _ => hy.1.elim, .inr (by have := g.size; omega)⟩
    refine loop_up (padN r.length) (fun j s H' => ∃ t, s = [[t]] ∧ Bd rU8 H H' t (128 :: List.replicate j 0)) ⟨t, rfl, bd0⟩ ?_
    rintro j s H5 K hj ⟨t, rfl, bd⟩ hK
    refine hu.len ?_
    simp only [sv_cons, sv_cons1, sc_cons, sc_cons1, asB_bool, ifB_true, ifB_false, bin_lss, bin_geq, bin_gtr, bin_neq]
    refine bd.sl.len ?_
    rw [List.length_cons, List.length_replicate, i_add (c := r.length + (j + 1)) (by omega) (by omega)]
    refine i_rem (m := r.length + (j + 1)) (n := 64) rfl rfl (by omega) rfl ?_
    simp only [sv_cons, sv_cons1, sc_cons, sc_cons1, asB_bool, ifB_true, ifB_false, bin_lss, bin_geq, bin_gtr, bin_neq]
    refine ifD_of (fun c => ?_) (fun c => ?_)
    · have hlt : j < padN r.length := by
        refine Classical.byContradiction fun hc => c ?_
        have : j = padN r.length := by omega
        rw [this]; unfold padN; norm_cast; omega
      refine bd.push (v := t) (u := b8 0) (Fr.refl _ _) vrep_b8 rfl (by omega) (fun _ => rfl) (by kernel_rfl) (by kernel_rfl) (fun y hy => hy.elim) (by simp; omega) (by simp; omega) fun w H6 bd6 => ?_
      refine hK _ _ hlt ⟨w, rfl, ?_⟩
      rw [List.cons_append, ← List.replicate_succ'] at bd6
      exact bd6
    · have hj' : j = padN r.length := by
        have : (r.length + (j + 1)) % 64 = 56 := by omega
        unfold padN at hj ⊢; omega
      subst hj'
      refine loop_up 8 (fun i s H' => ∃ t, s = [[t], [.int .i64 (i : Int)]] ∧ Bd rU8 H H' t (128 :: List.replicate (padN r.length) 0 ++ (List.range i).map (bigB (8 * many)))) ⟨t, rfl, by simpa using bd⟩ ?_
      rintro i s H6 K2 hi ⟨t, rfl, bd⟩ hK2
      simp only [sv_cons, sv_cons1, sc_cons, sc_cons1, asB_bool, ifB_true, ifB_false, bin_lss, bin_geq, bin_gtr, bin_neq]
      refine ifD_of (fun c2 => ?_) (fun c2 => ?_)
      · have hi' : i < 8 := by omega
        rw [show (.int .u64 3 : Value) = .int .u64 ((3 : Nat) : Int) from rfl, w_shlN (q := .u64) (by decide) (by show _ < 2 ^ 64; omega), i_mul (c := 8 * i) (by omega) (by omega),
          i_sub (c := 56 - 8 * i) (by omega) (by omega), w_shrN (q := .u64) (by show _ < 64; omega), b8_mod]
        rw [show UInt8.ofNat (many * 2 ^ 3 / 2 ^ (56 - 8 * i)) = bigB (8 * many) i by unfold bigB; rw [Nat.mul_comm many]]
        refine bd.push (v := t) (u := b8 _) (Fr.refl _ _) vrep_b8 rfl (by omega) (fun _ => rfl) (by kernel_rfl) (by kernel_rfl) (fun y hy => hy.elim) (by simp; omega) (by simp; omega) fun w H7 bd7 => ?_
        rw [i_add (c := i + 1) (by omega) (by omega)]
        refine hK2 _ _ hi' ⟨w, rfl, ?_⟩
        rw [List.range_succ, List.map_append, ← List.append_assoc]
        exact bd7
      · have : i = 8 := by omega
        subst this
        have e : (128 :: List.replicate (padN r.length) 0 ++ (List.range 8).map (bigB (8 * many)) : List UInt8) = padL r.length (8 * many) := rfl
        rw [e] at bd
        have hpl : (padL r.length (8 * many)).length = 9 + padN r.length := padL_len
        refine c_come (hk.g bd.g) hh (hu.g bd.g) bd.sl (by omega) (by omega) fun v H7 hv g7 => ?_
        have hll := comeW_len1 (l := r ++ padL r.length (8 * many)) hh
        have eo : endL h r many = outL (comeW h (r ++ padL r.length (8 * many))).1 := rfl
        rw [eo] at hQ
        generalize (comeW h (r ++ padL r.length (8 * many))).1 = hw at *
        refine cellsV_all (cS_len hll) (cS_ok hv.okcv) ?_
        rw [setSeg_all (c := cS hw v _) (by rw [cS_len hh, cS_len hll]), z_bytes]
        refine loop_up 32 (fun i s H' => s = [(mix 32 i (outB hw) (fun _ => 0)).map b8, [.int .i64 (i : Int)]] ∧ H7 = H') ⟨by rw [mix_rep (f := outB hw)]; rfl, rfl⟩ ?_
        rintro i s H8 K3 hi ⟨rfl, rfl⟩ hK3
        simp only [sv_cons, sv_cons1, sc_cons, sc_cons1, asB_bool, ifB_true, ifB_false, bin_lss, bin_geq, bin_gtr, bin_neq]
        refine ifD_of (fun c3 => ?_) (fun c3 => ?_)
        · have hi' : i < 32 := by omega
          refine i_quo (c := i / 4) (m := i) (n := 4) rfl rfl (by omega) rfl (by omega) ?_
          refine idxR_of (by omega) (ifL_of (by rw [cS_len hll]; omega) ?_)
          refine i_rem (c := i % 4) (m := i) (n := 4) rfl rfl (by omega) rfl ?_
          rw [i_mul (c := i % 4 * 8) (by omega) (by omega), i_sub (c := 24 - 8 * (i % 4)) (by omega) (by omega), seg_val (cS_get hll (i := i / 4) (by omega)), b_shr (by rfl) (by omega)]
          unfold wv
          rw [b8_mod, BitVec.toNat_ushiftRight, Nat.shiftRight_eq_div_pow]
          refine idxR_of hi' ?_
          rw [ok_b8, ifB_true]
          refine ifL_of (by simp [mix_len]; omega) ?_
          rw [i_add (c := i + 1) (by omega) (by omega), set_map (f := b8) (by rw [mix_len]; omega), mix_set (f := outB hw) hi' (by rfl)]
          exact hK3 _ _ hi' ⟨rfl, rfl⟩
        · have : i = 32 := by omega
          subst this
          rw [mix_full]
          have e : ((List.range 32).map (outB hw)).map b8 = (outL hw).map b8 := rfl
          rw [e]
          have hl' : ((outL hw).map b8).length = 32 := by rw [List.length_map, outL_len]
          refine ifL_of (by omega) ?_
          rw [seg_allA hl']
          refine cellsV_all hl' (ok_bytes _) ?_
          refine ifL_of (by omega) (ifL_of (by rw [setSeg_all rfl]; omega) ?_)
          rw [setSeg_all rfl, seg_allA hl']
          exact hQ _ (bd.g.trans g7)
  obtain ⟨a, b', c, d, e, f, g, i, eh⟩ := eight hh
  have := key a b' c d e f g i eh
  subst eh
  exact this

theorem come_app {b : List UInt8} : ∀ (n : Nat) (h : List W) (a : List UInt8), a.length = n → comeW (comeW h a).1 ((comeW h a).2 ++ b) = comeW h (a ++ b) := by
  intro n
  induction n using Nat.strongRecOn with
  | ind n ih =>
    intro h a ha
    by_cases c : a.length < 64
    · rw [comeW_lo c]
    · rw [comeW_hi c, ih (a.drop 64).length (by rw [List.length_drop]; omega) _ _ rfl]
      have c2 : ¬ (a ++ b).length < 64 := by rw [List.length_append]; omega
      rw [comeW_hi c2, List.take_append_of_le_length (by omega), List.drop_append_of_le_length (by omega)]

theorem c_sha_Begin (hQ : ∀ H', G H H' → Q (.agg (cS h0W (.slice none 0 0) 0).toArray) H') : callV Tryd.prog (fnV fn_sha_Begin) [] H Q := by
  apply S_sha_Begin_of
  unfold S_sha_Begin
  exact newT_of fun H1 g1 s1 => Eq.mpr (by kernel_rfl) (hQ _ g1)
theorem c_ref02_Begin (hQ : ∀ H', G H H' → Q (.agg (cS h0W (.slice none 0 0) 0).toArray) H') : callV Tryd.prog (fnV fn_ref02_Begin) [] H Q := by
  apply S_ref02_Begin_of
  unfold S_ref02_Begin
  exact newT_of fun H1 g1 s1 => Eq.mpr (by kernel_rfl) (hQ _ g1)

theorem zeros10 : [(.int .u32 0), (.int .u32 0), (.int .u32 0), (.int .u32 0), (.int .u32 0), (.int .u32 0), (.int .u32 0), (.int .u32 0), (.slice none 0 0), (.int .u64 0)] = cS (List.replicate 8 0#32) (.slice none 0 0) 0 := rfl

theorem c_sha_Of {w : Value} {xss : List (List UInt8)} (hk : KT H) (hw : Sl (rSl rU8) H A w xss) (hl : xss.length ≤ 1000) (hf : xss.flatten.length ≤ 10000000) (hQ : ∀ H', G H H' → Q (.agg ((shaL xss.flatten).map b8).toArray) H') :
    callV Tryd.prog (fnV fn_sha_Of) [w] H Q := by
  apply S_sha_Of_of
  unfold S_sha_Of
  have h0 : h0W.length = 8 := rfl
  refine newT_of fun H1 g1 s1 => c_sha_Begin fun H2 g2 => newT_of fun H3 g3 s3 => ?_
  have g := (g1.trans g2).trans g3
  refine cellsV_all (cS_len h0) (cS_ok rfl) (hw.len ?_)
  rw [zeros10, setSeg_all (c := cS h0W (.slice none 0 0) 0) (by rw [cS_len h0]; rfl)]
  refine loop_up xss.length (fun i s H' => ∃ u, s = [cS (comeW h0W (xss.take i).flatten).1 u (xss.take i).flatten.length, [.int .i64 (i : Int)]] ∧ Sl rU8 H' (fun _ => True) u (comeW h0W (xss.take i).flatten).2 ∧ G H H')
    ⟨.slice none 0 0, by rw [List.take_zero, List.flatten_nil, comeW_lo (by simp)]; rfl, by rw [List.take_zero, List.flatten_nil, comeW_lo (by simp)]; exact Sl.nil _ _ _ _ _, g⟩ ?_
  rintro i s H4 K hi ⟨u, rfl, hu, gt⟩ hK
  have hll := comeW_len1 (l := (xss.take i).flatten) h0
  have hl2 := comeW_len2 (l := (xss.take i).flatten) h0
  have hfi := flat_le (xss := xss) i
  simp only [sv_cons, sv_cons1, sc_cons, sc_cons1, asB_bool, ifB_true, ifB_false, bin_lss, bin_geq, bin_gtr, bin_neq]
  refine ifD_of (fun c => ?_) (fun c => ?_)
  · have hi' : i < xss.length := by omega
    have hx := List.getElem?_eq_getElem hi'
    have hfl := flat_le (xss := xss) (i + 1)
    rw [take_flat hx, List.length_append] at hfl
    refine (hw.g gt).getS hx fun v hv => ?_
    refine ifL_of (by rw [cS_len hll]; omega) ?_
    rw [seg_allA (cS_len hll)]
    refine c_come (hk.g gt) hll hu hv (by omega) (by omega) fun u' H5 hu' g5 => ?_
    rw [come_app _ _ _ rfl, ← take_flat hx] at hu' ⊢
    have hll' := comeW_len1 (l := (xss.take (i + 1)).flatten) h0
    refine cellsV_all (cS_len hll') (cS_ok hu'.okcv) ?_
    refine ifL_of (by rw [cS_len hll]; omega) ?_
    rw [i_add (c := i + 1) (by omega) (by omega), setSeg_all (by rw [cS_len hll, cS_len hll'])]
    refine hK _ _ hi' ⟨u', ?_, hu'.mono fun _ _ _ => trivial, gt.trans g5⟩
    congr 1
    congr 1
    rw [take_flat hx, List.length_append]
  · have : i = xss.length := by omega
    subst this
    rw [List.take_length] at *
    refine ifL_of (by rw [cS_len hll]; omega) ?_
    rw [seg_allA (cS_len hll)]
    refine c_End (hk.g gt) hll hu hl2 (by omega) fun H5 g5 => ?_
    have e : endL (comeW h0W xss.flatten).1 (comeW h0W xss.flatten).2 xss.flatten.length = shaL xss.flatten := rfl
    rw [e]
    refine ext0 (v := .agg ((shaL xss.flatten).map b8).toArray) rfl (ext0 (v := .int .i64 0) rfl ?_)
    refine newT_of fun H6 g6 s6 => ?_
    have hl' : ((shaL xss.flatten).map b8).length = 32 := by rw [List.length_map, shaL_len]
    refine cellsV_all hl' (ok_bytes _) ?_
    rw [z_bytes, setSeg_all (z := (List.replicate 32 (0 : UInt8)).map b8) (c := (shaL xss.flatten).map b8) (by rw [hl']; rfl), seg_allA hl']
    refine ifL_of (by simp) (ifL_of (by omega) (cellsV_all hl' (ok_bytes _) ?_))
    rw [setSeg_all (z := (List.replicate 32 (0 : UInt8)).map b8) (c := (shaL xss.flatten).map b8) (by rw [hl']; rfl), seg_allA hl']
    exact ifL_of (by simp) (ifL_of (by omega) (hQ _ ((gt.trans g5).trans g6)))

section
variable {l l' : List W} {u : Value} {m : Nat}
theorem cS_seg (h : l.length = 8) : seg (cS l u m) 0 8 = l.map wv := seg_app (by rw [List.length_map, h])
theorem cS_setW (h : l.length = 8) (h' : l'.length = 8) : setSeg (cS l u m) 0 (l'.map wv) = cS l' u m := by
  unfold setSeg cS
  rw [List.take_zero, List.nil_append, Nat.zero_add, List.length_map, h', List.drop_append_of_le_length (by rw [List.length_map]; omega), List.drop_eq_nil_of_le (by rw [List.length_map]; omega)]; rfl
end
theorem setSeg_val' {l : List Value} {i : Nat} {v : Value} (h : i < l.length) : setSeg l i [v] = l.set i v := by
  have := setSeg_val (v := v) h
  rwa [Nat.zero_add, Nat.mul_one] at this
theorem seg_val' {l : List Value} {i : Nat} {v : Value} (h : l[i]? = some v) : mkV false (seg l i 1) = v := by
  have := seg_val h
  rwa [Nat.zero_add, Nat.mul_one] at this

theorem c_Came {h : List W} {r b : List UInt8} {many : Nat} {rv bv : Value} (hh : h.length = 8) (hr : Sl rU8 H A rv r) (hb : Sl rU8 H B bv b) (hl : r.length + b.length ≤ 100000000) (hm : many ≤ 1000000000)
    (hQ : ∀ u H', Sl rU8 H' (fun _ => True) u (comeW h (r ++ b)).2 → G H H' → Q (.agg (cS (comeW h (r ++ b)).1 u (many + b.length)).toArray) H') :
    callV Tryd.prog (fnV fn_ref02_Came) [.agg (cS h rv many).toArray, bv] H Q := by
  have key : ∀ a b' c d e f g i, h = [a, b', c, d, e, f, g, i] → callV Tryd.prog (fnV fn_ref02_Came) [.agg #[wv a, wv b', wv c, wv d, wv e, wv f, wv g, wv i, rv, .int .u64 (many : Int)], bv] H Q := by
    intro a b' c d e f g i eh
    apply S_ref02_Came_of
    unfold S_ref02_Came
    have e0 : [wv a, wv b', wv c, wv d, wv e, wv f, wv g, wv i, rv, .int .u64 (many : Int)] = cS h rv many := by rw [eh]; rfl
    rw [e0, zeros10]
    refine newT_of fun H1 g1 s1 => newT_of fun H2 g2 s2 => bld_nil rU8 fun t H3 ht g3 s3 => ?_
    have g := (g1.trans g2).trans g3
    have bd : Bd rU8 H2 H3 t [] := ⟨g3, _, ht.mono fun y hy _ => hy.elim, .inr (by omega)⟩
    refine bd.app (Fr.refl _ _) (hr.g g).src.f8 rfl (by omega) (by kernel_rfl) (fun y hy => hy.elim) (by simp; omega) (by simp; omega) fun t2 H4 bd2 => ?_
    refine bd2.app (Fr.refl _ _) (hb.g ((g1.trans g2).trans bd2.g)).src.f8 rfl (by omega) (by kernel_rfl) (fun y hy => hy.elim) (by simp; omega) (by simp; omega) fun t3 H5 bd3 => ?_
    rw [List.nil_append] at bd3
    have g5 := (g1.trans g2).trans bd3.g
    refine loop_up (r.length + b.length) (fun i s H' => ∃ hc u rc, s = [cS hc rv many, [u]] ∧ Sl rU8 H' (fun _ => True) u rc ∧ comeW hc rc = comeW h (r ++ b) ∧ hc.length = 8 ∧ G H H' ∧ rc.length + i ≤ r.length + b.length) ⟨h, t3, r ++ b, rfl, bd3.sl.mono fun _ _ _ => trivial, rfl, hh, g5, by simp⟩ ?_
    rintro i s H6 K hi ⟨hc, u, rc, rfl, hu, hcm, hcl, gt, hle⟩ hK
    refine hu.len ?_
    simp only [sv_cons, sv_cons1, sc_cons, sc_cons1, asB_bool, ifB_true, ifB_false, bin_lss, bin_geq, bin_gtr, bin_neq]
    refine ifD_of (fun c => ?_) (fun c => ?_)
    · refine ifL_of (by rw [cS_len hcl]; omega) ?_
      rw [cS_seg hcl]
      refine hu.cut (lo := 0) (hi := 64) rfl (by omega) (by omega) (by omega) (optI_none (d := ((0 : Nat) : Int))) (optI_some (x := ((64 : Nat) : Int))) fun v hv => ?_
      rw [List.drop_zero, Nat.sub_zero] at hv
      refine c_Turn hcl hv (by rw [List.length_take]; omega) fun H7 g7 => ?_
      refine cellsV_all (by rw [List.length_map, turnW_len]) (ok_words _) (ifL_of (by rw [cS_len hcl]; omega) ?_)
      refine (hu.g g7).cut (lo := 64) (hi := rc.length) rfl (by omega) (by omega) (by omega) (optI_some (x := ((64 : Nat) : Int))) (optI_none (d := (rc.length : Int))) fun v2 hv2 => ?_
      rw [List.take_of_length_le (by rw [List.length_drop]; exact Nat.le_refl _)] at hv2
      rw [cS_setW hcl turnW_len]
      exact hK _ _ (by omega) ⟨_, v2, rc.drop 64, rfl, hv2, by rw [← hcm]; exact (comeW_hi (by omega)).symm, turnW_len, gt.trans g7, by rw [List.length_drop]; omega⟩
    · have hlt : rc.length < 64 := by omega
      rw [comeW_lo hlt] at hcm
      refine ifL_of (by rw [cS_len hcl]; omega) (ifL_of (by rw [cS_len hcl]; omega) ?_)
      refine (hb.g gt).len ?_
      rw [cv_nat (q := .u64) (by show _ < 2 ^ 64; omega), seg_val' (cS_9 hcl), bin_add, show IntKind.u64.wrap ((many : Int) + (b.length : Int)) = ((many + b.length : Nat) : Int) by
        rw [show (many : Int) + (b.length : Int) = ((many + b.length : Nat) : Int) by simp]; exact wrap_nat (q := .u64) (by show _ < 2 ^ 64; omega)]
      rw [cS_seg hcl]
      refine cellsV_all (by rw [List.length_map, hcl]) (ok_words _) ?_
      have hz : (List.replicate 8 0#32).length = 8 := rfl
      have e1 : setSeg (cS (List.replicate 8 0#32) (.slice none 0 0) 0) 0 (hc.map wv) = cS hc (.slice none 0 0) 0 := cS_setW hz hcl
      have e2 : setSeg (cS hc (.slice none 0 0) 0) 8 [u] = cS hc u 0 := by rw [setSeg_val' (by rw [cS_len hcl]; omega), cS_set8 hcl]
      have e3 : setSeg (cS hc u 0) 9 [.int .u64 ((many + b.length : Nat) : Int)] = cS hc u (many + b.length) := by rw [setSeg_val' (by rw [cS_len hcl]; omega), cS_set9 hcl]
      rw [e1]
      refine ifT_of hu.okcv (ifL_of (by rw [cS_len hcl]; omega) (ifT_of rfl (ifL_of (by rw [e2, cS_len hcl]; omega) ?_)))
      rw [e2, e3]
      refine cellsV_all (cS_len hcl) (cS_ok hu.okcv) ?_
      rw [setSeg_all (z := cS (List.replicate 8 0#32) (.slice none 0 0) 0) (c := cS hc u (many + b.length)) (by rw [cS_len hcl, cS_len hz]), seg_allA (cS_len hcl)]
      refine ifL_of (by rw [cS_len hcl]; omega) ?_
      have := hQ u H6 (by rw [← hcm]; exact hu) gt
      rw [← hcm] at this
      exact this
  obtain ⟨a, b', c, d, e, f, g, i, eh⟩ := eight hh
  have := key a b' c d e f g i eh
  subst eh
  exact this

theorem c_Ended {h : List W} {r : List UInt8} {many : Nat} {u : Value} (hh : h.length = 8) (hr : Sl rU8 H A u r) (hl : r.length < 64) (hm : many ≤ 1000000000)
    (hQ : ∀ H', G H H' → Q (.agg ((endL h r many).map b8).toArray) H') :
    callV Tryd.prog (fnV fn_ref02_Ended) [.agg (cS h u many).toArray] H Q := by
  have key : ∀ a b' c d e f g i, h = [a, b', c, d, e, f, g, i] → callV Tryd.prog (fnV fn_ref02_Ended) [.agg #[wv a, wv b', wv c, wv d, wv e, wv f, wv g, wv i, u, .int .u64 (many : Int)]] H Q := by
    intro a b' c d e f g i eh
    apply S_ref02_Ended_of
    unfold S_ref02_Ended
    have e0 : [wv a, wv b', wv c, wv d, wv e, wv f, wv g, wv i] = h.map wv := by rw [eh]; rfl
    rw [e0]
    refine newT_of fun H1 g1 s1 => newT_of fun H2 g2 s2 => bld_nil rU8 fun t H3 ht g3 s3 => ?_
    have g := (g1.trans g2).trans g3
    have bd : Bd rU8 H H3 t [] := ⟨g, _, ht.mono fun y hy _ => hy.elim, .inr (by have := (g1.trans g2).size; omega)⟩
    refine bd.app (Fr.refl _ _) (hr.g g).src.f8 rfl (by omega) (by kernel_rfl) (fun y hy => hy.elim) (by simp; omega) (by simp; omega) fun t2 H4 bd2 => ?_
    rw [List.nil_append] at bd2
    refine bd2.push (v := t2) (u := b8 128) (Fr.refl _ _) vrep_b8 rfl (by omega) (fun _ => rfl) (by kernel_rfl) (by kernel_rfl) (fun y hy => hy.elim) (by omega) (by omega) fun t3 H5 bd3 => ?_
    have hpad : padN r.length < 64 := by unfold padN; omega
    refine loop_up (padN r.length) (fun j s H' => ∃ t, s = [[t]] ∧ Bd rU8 H H' t (r ++ 128 :: List.replicate j 0)) ⟨t3, rfl, bd3⟩ ?_
    rintro j s H6 K hj ⟨t, rfl, bd⟩ hK
    refine bd.sl.len ?_
    simp only [sv_cons, sv_cons1, sc_cons, sc_cons1, asB_bool, ifB_true, ifB_false, bin_lss, bin_geq, bin_gtr, bin_neq]
    rw [List.length_append, List.length_cons, List.length_replicate]
    refine i_rem (m := r.length + (j + 1)) (n := 64) rfl rfl (by omega) rfl ?_
    simp only [sv_cons, sv_cons1, sc_cons, sc_cons1, asB_bool, ifB_true, ifB_false, bin_lss, bin_geq, bin_gtr, bin_neq]
    refine ifD_of (fun c => ?_) (fun c => ?_)
    · have hlt : j < padN r.length := by
        refine Classical.byContradiction fun hc => c ?_
        have : j = padN r.length := by omega
        rw [this]; unfold padN; norm_cast; omega
      refine bd.push (v := t) (u := b8 0) (Fr.refl _ _) vrep_b8 rfl (by omega) (fun _ => rfl) (by kernel_rfl) (by kernel_rfl) (fun y hy => hy.elim) (by simp; omega) (by simp; omega) fun w H7 bd7 => ?_
      refine hK _ _ hlt ⟨w, rfl, ?_⟩
      rw [List.append_assoc, List.cons_append, ← List.replicate_succ'] at bd7
      exact bd7
    have hj' : j = padN r.length := by
      have : (r.length + (j + 1)) % 64 = 56 := by omega
      unfold padN at hj ⊢; omega
    subst hj'
    rw [bin_mul, show IntKind.u64.wrap ((8 : Int) * (many : Int)) = ((8 * many : Nat) : Int) by
      rw [show (8 : Int) * (many : Int) = ((8 * many : Nat) : Int) by simp]; exact wrap_nat (q := .u64) (by show _ < 2 ^ 64; omega)]
    refine loop_up 8 (fun i s H' => ∃ t, s = [[t], [.int .i64 (7 - (i : Int))]] ∧ Bd rU8 H H' t (r ++ (128 :: List.replicate (padN r.length) 0 ++ (List.range i).map (bigB (8 * many))))) ⟨t, rfl, by simpa using bd⟩ ?_
    rintro i s H7 K2 hi ⟨t, rfl, bd⟩ hK2
    simp only [sv_cons, sv_cons1, sc_cons, sc_cons1, asB_bool, ifB_true, ifB_false, bin_lss, bin_geq, bin_gtr, bin_neq]
    refine ifD_of (fun c2 => ?_) (fun c2 => ?_)
    · have hi' : i < 8 := by omega
      rw [i_mul (c := 56 - 8 * i) (by omega) (by omega), cv_nat (q := .u64) (by show _ < 2 ^ 64; omega), w_shrN (q := .u64) (by show _ < 64; omega), b8_mod]
      rw [show UInt8.ofNat (8 * many / 2 ^ (56 - 8 * i)) = bigB (8 * many) i from rfl]
      refine bd.push (v := t) (u := b8 _) (Fr.refl _ _) vrep_b8 rfl (by omega) (fun _ => rfl) (by kernel_rfl) (by kernel_rfl) (fun y hy => hy.elim) (by simp; omega) (by simp; omega) fun w H8 bd8 => ?_
      simp only [bin_sub]
      rw [show IntKind.i64.wrap (7 - (i : Int) - 1) = 7 - ((i + 1 : Nat) : Int) by rw [wrap_i64 (x := 7 - (i : Int) - 1) ⟨by omega, by omega⟩]; omega]
      refine hK2 _ _ hi' ⟨w, rfl, ?_⟩
      rw [List.append_assoc, List.append_assoc] at bd8
      rw [List.range_succ, List.map_append]
      exact bd8
    have : i = 8 := by omega
    subst this
    have e : (128 :: List.replicate (padN r.length) 0 ++ (List.range 8).map (bigB (8 * many)) : List UInt8) = padL r.length (8 * many) := rfl
    rw [e] at bd
    have hpl : (padL r.length (8 * many)).length = 9 + padN r.length := padL_len
    have hpa : (r.length + (padL r.length (8 * many)).length) % 64 = 0 := padL_all
    refine newT_of fun H8 g8 s8 => ?_
    rw [ok_words, ifB_true]
    have eo : endL h r many = outL (comeW h (r ++ padL r.length (8 * many))).1 := rfl
    rw [eo] at hQ
    have hal : (r ++ padL r.length (8 * many)).length = r.length + (padL r.length (8 * many)).length := List.length_append
    generalize r ++ padL r.length (8 * many) = all at *
    refine loop_up all.length (fun i s H' => ∃ hc u rc, s = [[u], hc.map wv] ∧ Sl rU8 H' (fun _ => True) u rc ∧ comeW hc rc = comeW h all ∧ hc.length = 8 ∧ G H H' ∧ rc.length % 64 = 0 ∧ rc.length + i ≤ all.length)
      ⟨h, t, all, rfl, (bd.sl.g g8).mono fun _ _ _ => trivial, rfl, hh, bd.g.trans g8, by omega, by omega⟩ ?_
    rintro i s H9 K3 hi ⟨hc, u2, rc, rfl, hu, hcm, hcl, gt, hmod, hle⟩ hK3
    simp only [sv_cons, sv_cons1, sc_cons, sc_cons1, asB_bool, ifB_true, ifB_false, bin_lss, bin_geq, bin_gtr, bin_neq]
    refine hu.len ?_
    simp only [sv_cons, sv_cons1, sc_cons, sc_cons1, asB_bool, ifB_true, ifB_false, bin_lss, bin_geq, bin_gtr, bin_neq]
    have hcw : (hc.map wv).length = 8 := by rw [List.length_map, hcl]
    refine ifD_of (fun c => ?_) (fun c => ?_)
    · refine ifL_of (by omega) ?_
      rw [seg_allA hcw]
      refine hu.cut (lo := 0) (hi := 64) rfl (by omega) (by omega) (by omega) (optI_none (d := ((0 : Nat) : Int))) (optI_some (x := ((64 : Nat) : Int))) fun v hv => ?_
      rw [List.drop_zero, Nat.sub_zero] at hv
      refine c_Turn hcl hv (by rw [List.length_take]; omega) fun H10 g10 => ?_
      refine cellsV_all (by rw [List.length_map, turnW_len]) (ok_words _) (ifL_of (by omega) ?_)
      refine (hu.g g10).cut (lo := 64) (hi := rc.length) rfl (by omega) (by omega) (by omega) (optI_some (x := ((64 : Nat) : Int))) (optI_none (d := (rc.length : Int))) fun v2 hv2 => ?_
      rw [List.take_of_length_le (by rw [List.length_drop]; exact Nat.le_refl _)] at hv2
      rw [setSeg_all (z := hc.map wv) (by rw [hcw, List.length_map, turnW_len])]
      exact hK3 _ _ (by omega) ⟨_, v2, rc.drop 64, rfl, hv2, by rw [← hcm]; exact (comeW_hi (by omega)).symm, turnW_len, gt.trans g10, by rw [List.length_drop]; omega, by rw [List.length_drop]; omega⟩
    · have hnil : rc = [] := List.length_eq_zero_iff.1 (by omega)
      subst hnil
      rw [comeW_lo (by simp)] at hcm
      rw [← hcm] at hQ
      refine newT_of fun H10 g10 s10 => ?_
      rw [z_bytes]
      refine loop_up 32 (fun i s H' => s = [(mix 32 i (outB hc) (fun _ => 0)).map b8, [.int .i64 (i : Int)]] ∧ H10 = H') ⟨by rw [mix_rep (f := outB hc)]; rfl, rfl⟩ ?_
      rintro i s H11 K4 hi ⟨rfl, rfl⟩ hK4
      simp only [sv_cons, sv_cons1, sc_cons, sc_cons1, asB_bool, ifB_true, ifB_false, bin_lss, bin_geq, bin_gtr, bin_neq]
      refine ifD_of (fun c3 => ?_) (fun c3 => ?_)
      · have hi' : i < 32 := by omega
        refine i_quo (c := i / 4) (m := i) (n := 4) rfl rfl (by omega) rfl (by omega) ?_
        refine idxR_of (by omega) (ifL_of (by omega) ?_)
        refine i_rem (c := i % 4) (m := i) (n := 4) rfl rfl (by omega) rfl ?_
        rw [i_mul (c := 8 * (i % 4)) (by omega) (by omega), i_sub (c := 24 - 8 * (i % 4)) (by omega) (by omega), cv_nat (q := .u64) (by show _ < 2 ^ 64; omega),
          seg_map (x := hc.getD (i / 4) 0) (by rw [List.getD_eq_getElem?_getD, List.getElem?_eq_getElem (by omega)]; rfl), b_shr (by rfl) (by omega)]
        unfold wv
        rw [b8_mod, BitVec.toNat_ushiftRight, Nat.shiftRight_eq_div_pow]
        refine idxR_of hi' ?_
        rw [ok_b8, ifB_true]
        refine ifL_of (by simp [mix_len]; omega) ?_
        rw [i_add (c := i + 1) (by omega) (by omega), set_map (f := b8) (by rw [mix_len]; omega), mix_set (f := outB hc) hi' (by rfl)]
        exact hK4 _ _ hi' ⟨rfl, rfl⟩
      · have : i = 32 := by omega
        subst this
        rw [mix_full]
        have e : ((List.range 32).map (outB hc)).map b8 = (outL hc).map b8 := rfl
        rw [e]
        have hl' : ((outL hc).map b8).length = 32 := by rw [List.length_map, outL_len]
        refine ifL_of (by omega) ?_
        rw [seg_allA hl']
        refine cellsV_all hl' (ok_bytes _) ?_
        have hz : ((List.replicate 32 (0 : UInt8)).map b8).length = ((outL hc).map b8).length := by rw [hl']; rfl
        refine ifL_of (by simp) (ifL_of (by rw [setSeg_all hz]; omega) ?_)
        rw [setSeg_all hz, seg_allA hl']
        exact hQ _ (gt.trans g10)
  obtain ⟨a, b', c, d, e, f, g, i, eh⟩ := eight hh
  have := key a b' c d e f g i eh
  subst eh
  exact this

theorem c_ref02_Of {v : Value} {b : List UInt8} (hb : Sl rU8 H A v b) (hl : b.length ≤ 10000000) (hQ : ∀ H', G H H' → Q (.agg ((shaL b).map b8).toArray) H') :
    callV Tryd.prog (fnV fn_ref02_Of) [v] H Q := by
  apply S_ref02_Of_of
  unfold S_ref02_Of
  have h0 : h0W.length = 8 := rfl
  refine newT_of fun H1 g1 s1 => c_ref02_Begin fun H2 g2 => c_Came (A := fun _ => True) h0 (Sl.nil _ _ _ _ _) (hb.g (g1.trans g2)) (by simp; omega) (by omega) fun u H3 hu g3 => ?_
  rw [List.nil_append] at hu ⊢
  refine c_Ended (comeW_len1 h0) hu (by rw [comeW_len2 h0]; omega) (by omega) fun H4 g4 => ?_
  rw [Nat.zero_add]
  have e : endL (comeW h0W b).1 (comeW h0W b).2 b.length = shaL b := rfl
  rw [e]
  have hl' : ((shaL b).map b8).length = 32 := by rw [List.length_map, shaL_len]
  refine cellsV_all hl' (ok_bytes _) ?_
  have hz : ((List.replicate 32 (0 : UInt8)).map b8).length = ((shaL b).map b8).length := by rw [hl']; rfl
  rw [z_bytes, setSeg_all hz, seg_allA hl']
  exact ifL_of (by simp) (ifL_of (by omega) (hQ _ (((g1.trans g2).trans g3).trans g4)))

theorem ifF_of {b : Bool} {A B : Prop} (h : b = false) (hB : B) : ifB b A B := by subst h; exact hB

def nI (l : List Nat) : List Int := l.map fun (n : Nat) => (n : Int)
theorem nI_len {l : List Nat} : (nI l).length = l.length := by simp [nI]
theorem nI_get {l : List Nat} {i : Nat} {n : Nat} (h : l[i]? = some n) : (nI l)[i]? = some (n : Int) := by unfold nI; rw [List.getElem?_map, h]; rfl

theorem c_IndexFunc_int {v fv : Value} {xs : List Int} (f : Int → Bool) (hv : Sl (rI .i64) H A v xs) (hl : xs.length ≤ 1000000)
    (hf : ∀ x ∈ xs, ∀ H' (K : Value → Heap → Prop), G H H' → (∀ H'', G H' H'' → K (.bool (f x)) H'') → callV Tryd.prog fv [.int .i64 x] H' K)
    (hQ : ∀ k H', G H H' → (0 ≤ k ↔ xs.any f = true) → Q (.int .i64 k) H') : callV Tryd.prog (fnV fn_slices_IndexFunc_int_int) [v, fv] H Q := by
  apply S_slices_IndexFunc_int_int_of
  unfold S_slices_IndexFunc_int_int
  refine hv.len ?_
  refine loop_up xs.length (fun i s H' => s = [[.int .i64 (i : Int)]] ∧ G H H' ∧ ∀ x ∈ xs.take i, f x = false) ⟨rfl, Fr.refl _ _, by simp⟩ ?_
  rintro i s H' K hi ⟨rfl, gt, hno⟩ hK
  simp only [sv_cons, sv_cons1, sc_cons, sc_cons1, asB_bool, ifB_true, ifB_false, bin_lss, bin_geq, bin_gtr, bin_neq]
  refine ifD_of (fun c => ?_) (fun c => ?_)
  · have hi' : i < xs.length := by omega
    have hx := List.getElem?_eq_getElem hi'
    refine (hv.g gt).getI hx fun hw => ?_
    refine hf _ (List.getElem_mem hi') _ _ gt fun H2 g2 => ?_
    (try simp only [sv_cons, sv_cons1, sc_cons, sc_cons1, asB_bool, bin_lss, bin_leq, bin_geq, bin_gtr, bin_neq, bin_eql, un_not, Bool.not_true, Bool.not_false]); (try refine asB_mk ?_)
    refine ifB_of (fun hb => ?_) (fun hb => ?_)
    · refine hQ _ _ (gt.trans g2) ⟨fun _ => List.any_eq_true.2 ⟨_, List.getElem_mem hi', hb⟩, fun _ => by omega⟩
    · rw [i_add (c := i + 1) (by omega) (by omega)]
      refine hK _ _ hi' ⟨rfl, gt.trans g2, fun x hx' => ?_⟩
      rw [List.take_add_one, hx] at hx'
      rcases List.mem_append.1 hx' with h | h
      · exact hno x h
      · simp at h; rw [h]; exact hb
  · have : i = xs.length := by omega
    subst this
    rw [List.take_length] at hno
    refine hQ _ _ gt ⟨fun h => by omega, fun h => ?_⟩
    obtain ⟨x, hx, hb⟩ := List.any_eq_true.1 h
    rw [hno x hx] at hb; cases hb

theorem c_ContainsFunc_int {v fv : Value} {xs : List Int} (f : Int → Bool) (hv : Sl (rI .i64) H A v xs) (hl : xs.length ≤ 1000000)
    (hf : ∀ x ∈ xs, ∀ H' (K : Value → Heap → Prop), G H H' → (∀ H'', G H' H'' → K (.bool (f x)) H'') → callV Tryd.prog fv [.int .i64 x] H' K)
    (hQ : ∀ H', G H H' → Q (.bool (xs.any f)) H') : callV Tryd.prog (fnV fn_slices_ContainsFunc_int_int) [v, fv] H Q := by
  apply S_slices_ContainsFunc_int_int_of
  unfold S_slices_ContainsFunc_int_int
  refine c_IndexFunc_int f hv hl hf fun k H' g hk => ?_
  simp only [sv_cons, sv_cons1, sc_cons, sc_cons1, asB_bool, ifB_true, ifB_false, bin_lss, bin_geq, bin_gtr, bin_neq]
  rw [show decide (0 ≤ k) = xs.any f by rw [Bool.eq_iff_iff, decide_eq_true_iff]; exact hk]
  exact hQ _ g

theorem c_num_Size_1 {a : Nat} {s x : Nat} (hb : Blk H a [.int .i64 (s : Int)]) (hx : x ≤ 8) (hs : s ≤ 1000) (hQ : ∀ H', Blk H' a [.int .i64 ((s + x : Nat) : Int)] → Fr (fun y => y ≠ a) H H' → Q (.bool true) H') :
    callV Tryd.prog (.func (.func fn_num_Size_1) #[] #[.pointer (some ⟨a, 0, none⟩)]) [.int .i64 (x : Int)] H Q := by
  apply C_num_Size_1_of
  unfold S_num_Size_1
  refine join_of (fun s' H' => s' = [[.bool false]] ∧ H = H') (fun K hK => ?_) ?_
  · (try simp only [sv_cons, sv_cons1, sc_cons, sc_cons1, asB_bool, bin_lss, bin_leq, bin_geq, bin_gtr, bin_neq, bin_eql, un_not, Bool.not_true, Bool.not_false]); (try refine asB_mk ?_)
    refine ifD_of (fun c => absurd c (by omega)) (fun _ => ?_)
    refine hb.load rfl ?_
    rw [i_sub (c := 65536 - s) (by omega) (by omega)]
    simp only [sv_cons, sv_cons1, sc_cons, sc_cons1, asB_bool, ifB_true, ifB_false, bin_lss, bin_geq, bin_gtr, bin_neq]
    refine hK _ _ ⟨?_, rfl⟩
    rw [decide_eq_false]
    omega
  · rintro s' H' ⟨rfl, rfl⟩
    simp only [sv_cons, sv_cons1, sc_cons, sc_cons1, asB_bool, ifB_true, ifB_false, bin_lss, bin_geq, bin_gtr, bin_neq]
    refine hb.load rfl ?_
    rw [i_add (c := s + x) (by omega) (by omega)]
    exact hb.store rfl (by simp) fun H2 h2 f2 s2 => hQ _ h2 f2

theorem c_num_Size {v : Value} {sz : List Nat} (hv : Sl (rI .i64) H A v (nI sz)) (hl : sz.length ≤ 60) (hs : ∀ k ∈ sz, k ≤ 8) (hQ : ∀ H', G H H' → Q (tup2 (.int .i64 (sz.sum : Nat)) (.int .i64 0)) H') :
    callV Tryd.prog (fnV fn_num_Size) [v] H Q := by
  apply S_num_Size_of
  unfold S_num_Size
  refine Blk.new fun H1 b1 g1 s1 => ?_
  refine b1.store rfl (by simp) fun H2 b2 f2 s2 => ?_
  have g2 := g1.then f2 fun y hy => by omega
  refine (hv.g g2).len ?_
  rw [nI_len]
  simp only [sv_cons, sv_cons1, sc_cons, sc_cons1, asB_bool, ifB_true, ifB_false, bin_lss, bin_geq, bin_gtr, bin_neq]
  refine ifD_of (fun c => absurd c (by omega)) (fun _ => ?_)
  have hsm : ∀ i, (sz.take i).sum ≤ 8 * (sz.take i).length := by
    intro i
    have : ∀ l : List Nat, (∀ k ∈ l, k ≤ 8) → l.sum ≤ 8 * l.length := by
      intro l hl
      induction l with
      | nil => simp
      | cons x l ih =>
        have h1 := hl x List.mem_cons_self
        have h2 := ih fun k hk => hl k (List.mem_cons_of_mem _ hk)
        rw [List.sum_cons, List.length_cons]; omega
    exact this _ fun k hk => hs k (List.mem_of_mem_take hk)
  refine (hv.g g2).len ?_
  rw [nI_len]
  refine loop_up sz.length (fun i s H' => s = [[.int .i64 (i : Int)]] ∧ G H H' ∧ Blk H' H.size [.int .i64 ((sz.take i).sum : Nat)]) ⟨rfl, g2, b2⟩ ?_
  rintro i s H' K hi ⟨rfl, gt, hb⟩ hK
  simp only [sv_cons, sv_cons1, sc_cons, sc_cons1, asB_bool, ifB_true, ifB_false, bin_lss, bin_geq, bin_gtr, bin_neq]
  refine ifD_of (fun c => ?_) (fun c => ?_)
  · have hi' : i < sz.length := by omega
    have hx := List.getElem?_eq_getElem hi'
    have h8 := hs _ (List.getElem_mem hi')
    have hsi := hsm i
    have hli : (sz.take i).length ≤ sz.length := by rw [List.length_take]; omega
    refine (hv.g gt).getI (nI_get hx) fun hw => ?_
    refine c_num_Size_1 hb h8 (by omega) fun H3 b3 f3 => ?_
    (try simp only [sv_cons, sv_cons1, sc_cons, sc_cons1, asB_bool, bin_lss, bin_leq, bin_geq, bin_gtr, bin_neq, bin_eql, un_not, Bool.not_true, Bool.not_false]); (try refine asB_mk ?_)
    refine ifF_of rfl ?_
    rw [i_add (c := i + 1) (by omega) (by omega)]
    refine hK _ _ hi' ⟨rfl, gt.then f3 fun y hy => by omega, ?_⟩
    rw [show (sz.take (i + 1)).sum = (sz.take i).sum + sz[i] by rw [List.take_add_one, hx, List.sum_append]; rfl]
    exact b3
  · have : i = sz.length := by omega
    subst this
    rw [List.take_length] at hb
    exact hb.load rfl (hQ _ gt)

theorem c_numbers_1 {x : Int} (hQ : Q (.bool (decide (x < 1 ∨ x > 8))) H) : callV Tryd.prog (fnV fn_num_numbers_1) [.int .i64 x] H Q := by
  apply S_num_numbers_1_of
  unfold S_num_numbers_1
  refine join_of (fun s' H' => s' = [[.bool (decide (x < 1 ∨ x > 8))]] ∧ H = H') (fun K hK => ?_) ?_
  · simp only [sv_cons, sv_cons1, sc_cons, sc_cons1, asB_bool, ifB_true, ifB_false, bin_lss, bin_geq, bin_gtr, bin_neq]
    refine ifD_of (fun c => hK _ _ ⟨?_, rfl⟩) (fun c => hK _ _ ⟨?_, rfl⟩)
    · rw [decide_eq_true (.inl c)]
    · congr 3
      simp only [decide_eq_decide]; omega
  · rintro s' H' ⟨rfl, rfl⟩
    exact hQ

theorem c_num_numbers {v : Value} {sz : List Nat} (hv : Sl (rI .i64) H A v (nI sz)) (hl : sz.length ≤ 60) (hs : ∀ k ∈ sz, 1 ≤ k ∧ k ≤ 8) (hQ : ∀ H', G H H' → Q (tup2 (.int .i64 (sz.sum : Nat)) (.int .i64 0)) H') :
    callV Tryd.prog (fnV fn_num_numbers) [v] H Q := by
  apply S_num_numbers_of
  unfold S_num_numbers
  refine c_ContainsFunc_int (fun x => decide (x < 1 ∨ x > 8)) hv (by rw [nI_len]; omega) (fun x _ H' K g hK => c_numbers_1 (hK _ (Fr.refl _ _))) fun H1 g1 => ?_
  rw [show (nI sz).any (fun x => decide (x < 1 ∨ x > 8)) = false by
    rw [List.any_eq_false]
    intro x hx
    unfold nI at hx
    obtain ⟨k, hk, rfl⟩ := List.mem_map.1 hx
    have := hs k hk
    simp; omega]
  (try simp only [sv_cons, sv_cons1, sc_cons, sc_cons1, asB_bool, bin_lss, bin_leq, bin_geq, bin_gtr, bin_neq, bin_eql, un_not, Bool.not_true, Bool.not_false]); (try refine asB_mk ?_)
  refine ifF_of rfl ?_
  refine c_num_Size (hv.g g1) hl (fun k hk => (hs k hk).2) fun H2 g2 => ?_
  exact ext0 rfl (ext0 rfl (hQ _ (g1.trans g2)))

theorem mk_cap8 {c : Nat} (hc : c ≤ 1000000) (hk : ∀ u H', Bd rU8 H H' u [] → Q u H') : mkS 5 1 1 (zeroL Tryd.prog 5) (.int .i64 0) (.int .i64 (c : Int)) H Q := by
  unfold mkS
  simp only [asI]
  refine ⟨⟨by omega, by omega, by omega, by omega⟩, Blk.new fun H1 hb g1 s1 => ?_⟩
  refine hk _ _ ⟨g1, H.size + 1, ?_, .inr (by omega)⟩
  obtain ⟨ty, hb⟩ := hb
  refine ⟨[], rfl, fun i cs x hc => by simp at hc, .inr ⟨H.size, c, _, ty, rfl, ?_, Nat.zero_le _, hb, ?_⟩⟩
  · congr 1
  · rw [show rU8.n = 1 from rfl]; simp [zcells]

theorem mul256 {n j : Nat} : n / 256 ^ j / 2 ^ 8 = n / 256 ^ (j + 1) := by rw [Nat.div_div_eq_div_mul]; rfl
theorem leB_snoc {j n : Nat} : leB (j + 1) n = leB j n ++ [UInt8.ofNat (n / 256 ^ j)] := by unfold leB; rw [List.range_succ, List.map_append]; rfl
theorem lt64 {n k : Nat} (h : n < 256 ^ k) (hk : k ≤ 8) : n < 18446744073709551616 :=
  Nat.lt_of_lt_of_le h (by rw [show (18446744073709551616 : Nat) = 256 ^ 8 from rfl]; exact Nat.pow_le_pow_right (by omega) hk)
theorem take_put {l sz : List Nat} {i n k : Nat} (h1 : l[i]? = some n) (h2 : sz[i]? = some k) : ((putX l sz).take (i + 1)).flatten = ((putX l sz).take i).flatten ++ leB k n := take_flat (putX_get h1 h2)
theorem put_len {l sz : List Nat} (hl : l.length = sz.length) (hs : ∀ k ∈ sz, k ≤ 8) : ∀ i, ((putX l sz).take i).flatten.length ≤ 8 * i := by
  intro i
  induction i with
  | zero => simp
  | succ i ih =>
    by_cases h : i < sz.length
    · rw [take_put (List.getElem?_eq_getElem (by omega)) (List.getElem?_eq_getElem h), List.length_append, leB_len]
      have := hs _ (List.getElem_mem h); omega
    · have hx : (putX l sz).length = sz.length := by unfold putX; simp; omega
      rw [List.take_of_length_le (by omega)] at ih ⊢; omega

theorem c_num_Put {v w : Value} {l sz : List Nat} (hv : Sl (rI .u64) H A v (nI l)) (hw : Sl (rI .i64) H B w (nI sz)) (hlen : l.length = sz.length) (hl : sz.length ≤ 60) (hs : ∀ k ∈ sz, 1 ≤ k ∧ k ≤ 8)
    (hn : ∀ (i n k : Nat), l[i]? = some n → sz[i]? = some k → n < 256 ^ k) (hQ : ∀ u H', Bd rU8 H H' u (putL l sz) → Q (tup2 u (.int .i64 0)) H') :
    callV Tryd.prog (fnV fn_num_Put) [v, w] H Q := by
  apply S_num_Put_of
  unfold S_num_Put
  refine c_num_numbers hw hl hs fun H1 g1 => ext0 (v := .int .i64 (sz.sum : Nat)) rfl (ext0 (v := .int .i64 0) rfl ?_)
  refine join_of (fun s' H' => s' = [[.bool false]] ∧ H1 = H') (fun K hK => ?_) ?_
  · (try simp only [sv_cons, sv_cons1, sc_cons, sc_cons1, asB_bool, bin_lss, bin_leq, bin_geq, bin_gtr, bin_neq, bin_eql, un_not, Bool.not_true, Bool.not_false]); (try refine asB_mk ?_)
    refine ifF_of rfl ?_
    refine (hv.g g1).len ((hw.g g1).len ?_)
    (try simp only [sv_cons, sv_cons1, sc_cons, sc_cons1, asB_bool, bin_lss, bin_leq, bin_geq, bin_gtr, bin_neq, bin_eql, un_not, Bool.not_true, Bool.not_false]); (try refine asB_mk ?_)
    refine hK _ _ ⟨?_, rfl⟩
    rw [nI_len, nI_len, hlen]; simp
  rintro s' H' ⟨rfl, rfl⟩
  (try simp only [sv_cons, sv_cons1, sc_cons, sc_cons1, asB_bool, bin_lss, bin_leq, bin_geq, bin_gtr, bin_neq, bin_eql, un_not, Bool.not_true, Bool.not_false]); (try refine asB_mk ?_)
  refine ifF_of rfl ?_
  have hsum : sz.sum ≤ 1000 := by
    have : ∀ l : List Nat, (∀ k ∈ l, k ≤ 8) → l.sum ≤ 8 * l.length := by
      intro l hl
      induction l with
      | nil => simp
      | cons x l ih =>
        have h1 := hl x List.mem_cons_self
        have h2 := ih fun k hk => hl k (List.mem_cons_of_mem _ hk)
        rw [List.sum_cons, List.length_cons]; omega
    have := this sz fun k hk => (hs k hk).2
    omega
  refine mk_cap8 (by omega) fun u H2 bd => ?_
  have g2 := g1.trans bd.g
  refine (hv.g g2).len ?_
  rw [nI_len]
  have hpl := put_len hlen (fun k hk => (hs k hk).2)
  refine loop_up l.length (fun i s H' => ∃ u, s = [[u], [.int .i64 (i : Int)]] ∧ Bd rU8 H H' u ((putX l sz).take i).flatten) ⟨u, rfl, ⟨g1.trans bd.g, bd.ow.elim fun b hb => ⟨b, by simpa using hb.1.mono fun y hy _ => ⟨Nat.le_trans g1.size hy.1, hy.2⟩, hb.2.imp id fun h => Nat.lt_of_le_of_lt g1.size h⟩⟩⟩ ?_
  rintro i s H3 K hi ⟨u, rfl, bd⟩ hK
  (try simp only [sv_cons, sv_cons1, sc_cons, sc_cons1, asB_bool, bin_lss, bin_leq, bin_geq, bin_gtr, bin_neq, bin_eql, un_not, Bool.not_true, Bool.not_false]); (try refine asB_mk ?_)
  have hp := hpl i
  refine ifD_of (fun c => ?_) (fun c => ?_)
  · have hi' : i < l.length := by omega
    have hx := List.getElem?_eq_getElem hi'
    have hz := List.getElem?_eq_getElem (show i < sz.length by omega)
    have hnk := hn i _ _ hx hz
    have hk8 := hs _ (List.getElem_mem (show i < sz.length by omega))
    have htp := take_put hx hz
    generalize l[i] = n at *
    generalize sz[i]'(by omega) = k at *
    refine (hv.g bd.g).getI (nI_get hx) fun _ => (hw.g bd.g).getI (nI_get hz) fun _ => ?_
    have h64 := lt64 hnk hk8.2
    refine loop_up k (fun j s H' => ∃ u, s = [[u], [.int .u64 ((n / 256 ^ j : Nat) : Int)], [.int .i64 (j : Int)]] ∧ Bd rU8 H H' u (((putX l sz).take i).flatten ++ leB j n)) ⟨u, by simp, by simpa [leB] using bd⟩ ?_
    rintro j s H4 K2 hj ⟨u, rfl, bd⟩ hK2
    (try simp only [sv_cons, sv_cons1, sc_cons, sc_cons1, asB_bool, bin_lss, bin_leq, bin_geq, bin_gtr, bin_neq, bin_eql, un_not, Bool.not_true, Bool.not_false]); (try refine asB_mk ?_)
    refine ifD_of (fun c2 => ?_) (fun c2 => ?_)
    · have hj' : j < k := by omega
      rw [b8_mod]
      refine bd.push (v := u) (u := b8 _) (Fr.refl _ _) vrep_b8 rfl (by omega) (fun _ => rfl) (by kernel_rfl) (by kernel_rfl) (fun y hy => hy.elim) (by rw [List.length_append, leB_len]; omega) (by rw [List.length_append, leB_len]; omega) fun w' H5 bd5 => ?_
      rw [show (.int .u64 8 : Value) = .int .u64 ((8 : Nat) : Int) from rfl, w_shrN (q := .u64) (by decide), mul256, i_add (c := j + 1) (by omega) (by omega)]
      refine hK2 _ _ hj' ⟨w', rfl, ?_⟩
      rw [List.append_assoc, ← leB_snoc] at bd5
      exact bd5
    · have : j = k := by omega
      subst this
      rw [Nat.div_eq_of_lt hnk]
      (try simp only [sv_cons, sv_cons1, sc_cons, sc_cons1, asB_bool, bin_lss, bin_leq, bin_geq, bin_gtr, bin_neq, bin_eql, un_not, Bool.not_true, Bool.not_false]); (try refine asB_mk ?_)
      refine ifD_of (fun c3 => absurd c3 (by omega)) (fun _ => ?_)
      rw [i_add (c := i + 1) (by omega) (by omega)]
      exact hK _ _ hi' ⟨u, rfl, by rw [htp]; exact bd⟩
  · have : i = l.length := by omega
    subst this
    rw [List.take_of_length_le (by unfold putX; simp; omega)] at bd
    exact hQ _ _ bd

end Go.Proofs.YtlmpjhbfgakgdaaDoor
