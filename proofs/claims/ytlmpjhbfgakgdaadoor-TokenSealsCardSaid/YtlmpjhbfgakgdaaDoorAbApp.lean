/- append, copy, maps, conversions, arithmetic. -/
import Derived.Test.YtlmpjhbfgakgdaaDoorAbMem
import Derived.Laws.AppendOwn
import Derived.Laws.BytesString
namespace Go.Ab
set_option linter.unusedVariables false
set_option linter.unusedSimpArgs false

/-- The elements that append or copy take: how many, and their cells. -/
def srcC (n : Nat) (x : Value) (H : Heap) (k : Nat → List Value → Prop) : Prop :=
  match x with
  | .slice _ 0 _ => k 0 []
  | .slice (some ⟨b, o, none⟩) m _ => (match cellsAt H b o (m * n) with | some cs => cs.all okc = true ∧ k m cs | none => False)
  | .string s => n = 1 ∧ k s.size (s.data.toList.map fun b => .int .u8 b.toNat)
  | _ => False

def appS (e : TypeId) (n bytes : Nat) (z : List Value) (s x : Value) (H : Heap) (k : Value → Heap → Prop) : Prop :=
  match s with
  | .slice a len cap => srcC n x H fun m xs =>
    if len + m ≤ cap then
      (match xs with
       | [] => k (.slice a (len + m) cap) H
       | x0 :: xs' => (match a with
         | some ⟨b, o, none⟩ => mayWrite H b (o + len * n) (x0 :: xs').length ∧ k (.slice a (len + m) cap) (setCells H b (o + len * n) (x0 :: xs'))
         | _ => False))
    else ((len + m) * bytes ≤ 140737488355328 ∧ len + m ≤ 9223372036854775807 ∧ z.length = n) ∧ srcC n (.slice a len cap) H fun _ old =>
      ∀ nc : Nat, len + m ≤ nc → nc ≤ 9223372036854775807 → newC e (old ++ xs ++ zcells z ((nc - (len + m)) * n)) H fun b' H' => k (.slice (some ⟨b', 0, none⟩) (len + m) nc) H'
  | _ => False

section
variable {P : Program} {w : World} {H : Heap}

theorem srcC_sound {n : Nat} {x : Value} {k : Nat → List Value → Prop} (h : srcC n x H k) :
    ∃ m xs, k m xs ∧ xs.length = m * n ∧ (∀ v ∈ xs, v.oneCell' = true) ∧ ∀ w, Agree H w → (Builtin.lenOf x).run P w = .ok m w ∧
      (∀ j, j ≤ m → (Builtin.firstCells n j x).run P w = .ok (xs.take (j * n)).toArray w) := by
  unfold srcC at h
  split at h
  · rename_i a c
    refine ⟨0, [], h, by simp, by simp, fun w hg => ⟨by simp [Builtin.lenOf], fun j hj => ?_⟩⟩
    have : j = 0 := by omega
    subst this
    cases a <;> simp [Builtin.firstCells, loadCells, loadCellsFrom]
  · rename_i b o m cap hm0
    split at h
    · rename_i cs hcs
      obtain ⟨hall, hk⟩ := h
      unfold cellsAt at hcs
      split at hcs
      · rename_i c e fr hb
        split at hcs
        · rename_i hn
          cases hcs
          refine ⟨m, _, hk, seg_length (by simpa using hn), fun v hv => by rw [okc_eq]; exact List.all_eq_true.1 hall v hv, fun w hg => ⟨by simp [Builtin.lenOf], fun j hj => ?_⟩⟩
          have hw := hg.cells hb
          have hjn : j * n ≤ m * n := Nat.mul_le_mul_right _ hj
          have hr := run_loadCells_block (P := P) (o := o) (n := j * n) hw (by omega)
          simp only [Builtin.firstCells, hr]
          congr 2
          simp only [seg, List.take_take, Nat.min_eq_left hjn]
        · cases hcs
      · cases hcs
    · exact h.elim
  · rename_i s
    obtain ⟨rfl, hk⟩ := h
    refine ⟨s.size, _, hk, by simp, fun v hv => by simp at hv; obtain ⟨b, _, rfl⟩ := hv; rfl, fun w hg => ⟨by simp [Builtin.lenOf], fun j hj => ?_⟩⟩
    simp only [Builtin.firstCells, Sem.run_pure]
    congr 1
    apply Array.ext'
    simp [ByteArray.data_extract, Array.toList_extract, List.extract_eq_take_drop, List.map_take]
  · exact h.elim

theorem srcC_full {n : Nat} {x : Value} {k : Nat → List Value → Prop} (h : srcC n x H k) :
    ∃ m xs, k m xs ∧ xs.length = m * n ∧ (∀ v ∈ xs, v.oneCell' = true) ∧ ∀ w, Agree H w → (Builtin.lenOf x).run P w = .ok m w ∧
      (Builtin.firstCells n m x).run P w = .ok xs.toArray w := by
  obtain ⟨m, xs, hk, hl, h1, hr⟩ := srcC_sound (P := P) h
  refine ⟨m, xs, hk, hl, h1, fun w hg => ⟨(hr w hg).1, ?_⟩⟩
  have := (hr w hg).2 m (Nat.le_refl _)
  rwa [List.take_of_length_le (by omega)] at this

theorem not_int {d : TypeDesc} (hnd : ∀ q, d ≠ .int q) : (match d with | .int _ => true | _ => false) = false := by
  cases d <;> first | rfl | exact absurd rfl (hnd _)

/-- append, behind its questions on types. -/
theorem run_append_front {st xt ty e : TypeId} {i : TypeInfo} {d : TypeDesc} {x : Value} {a : Option Addr} {len cap m : Nat} (ht : P.underlying st = some (.slice e)) (hi : P.info? e = some i)
    (hd : P.underlying xt = some d) (hnd : ∀ q, d ≠ .int q) (hlo : (Builtin.lenOf x).run P w = .ok m w) (hroom : len + m ≤ cap)
    {new : Array Value} (hf : (Builtin.firstCells i.size m x).run P w = .ok new w) {w' : World}
    (hst : ∀ b, a = some b → (storeCells (b.add (len * i.size)) new.toList).run P w = .ok () w') (hno : a = none → w' = w) :
    (Builtin.append_ #[st, xt] ty #[.slice a len cap, x]).run P w = .ok (.slice a (len + m) cap) w' := by
  have hsz : szOf P e = some i.size := by simp [szOf, hi]
  have hq := not_int hnd
  have h0 : (#[st, xt] : Array TypeId)[0]? = some st := rfl
  have h1 : (#[st, xt] : Array TypeId)[1]? = some xt := rfl
  have h2 : (#[Value.slice a len cap, x] : Array Value)[0]? = some (.slice a len cap) := rfl
  have h3 : (#[Value.slice a len cap, x] : Array Value)[1]? = some x := rfl
  unfold Builtin.append_
  rw [h0, h1, h2, h3]
  simp only [Sem.run_bind, run_underlying ht, run_underlying hd, Result.andThen_ok, run_sizeOf' hsz, Sem.run_pure, hq]
  simp only [Result.andThen_ok, Bool.false_eq_true, if_false, hlo, hroom, if_true, Bool.not_false, Sem.run_bind, hf]
  cases a with
  | none => simp [hno rfl]
  | some b => simp [hst b rfl]

theorem run_append_far {st xt ty e : TypeId} {i : TypeInfo} {z : Value} {d : TypeDesc} {x : Value} {a : Option Addr} {len cap m : Nat} (ht : P.underlying st = some (.slice e)) (hi : P.info? e = some i)
    (hz : i.zero = some z) (hd : P.underlying xt = some d) (hnd : ∀ q, d ≠ .int q) (hlo : (Builtin.lenOf x).run P w = .ok m w) (hroom : ¬ len + m ≤ cap)
    (hby : (len + m) * i.bytes ≤ 140737488355328) (h63 : len + m ≤ 9223372036854775807) (hb0 : i.bytes ≠ 0)
    {old new : Array Value} (hfo : (Builtin.firstCells i.size len (.slice a len cap)).run P w.drew = .ok old w.drew) (hf : (Builtin.firstCells i.size m x).run P w.drew = .ok new w.drew) :
    (Builtin.append_ #[st, xt] ty #[.slice a len cap, x]).run P w = .ok (.slice (some ⟨w.heap.size, 0, none⟩) (len + m) (grownCap w (len + m) cap e))
      (w.drew.alloc (.cells (old ++ new ++ Builtin.zeroCells z.cells (grownCap w (len + m) cap e - (len + m))) e)) := by
  have hsz : szOf P e = some i.size := by simp [szOf, hi]
  have hti : (typeInfo e).run P w = .ok i w := by simp [typeInfo, hi]
  have hq := not_int hnd
  have h48 : ¬ (2 ^ 48 < Builtin.nextslicecap (len + m) cap * i.bytes) := by
    have := growslice_fits (need := len + m) (old := cap) (bytes := i.bytes) (by omega) hby
    omega
  have h0 : (#[st, xt] : Array TypeId)[0]? = some st := rfl
  have h1 : (#[st, xt] : Array TypeId)[1]? = some xt := rfl
  have h2 : (#[Value.slice a len cap, x] : Array Value)[0]? = some (.slice a len cap) := rfl
  have h3 : (#[Value.slice a len cap, x] : Array Value)[1]? = some x := rfl
  have hq2 : (Question.appendCap (len + m) cap e).forced = false := rfl
  have hcut : Question.cut (.appendCap (len + m) cap e) (w.tape w.drawn (.appendCap (len + m) cap e)) = grownCap w (len + m) cap e := rfl
  have hzv : (zeroValue e).run P w.drew = .ok z w.drew := run_zeroValue hi hz
  have hti2 : (typeInfo e).run P w.drew = .ok i w.drew := by simp [typeInfo, hi]
  unfold Builtin.append_
  rw [h0, h1, h2, h3]
  simp only [Sem.run_bind, run_underlying ht, run_underlying hd, Result.andThen_ok, run_sizeOf' hsz, Sem.run_pure, hq]
  simp only [Result.andThen_ok, Bool.false_eq_true, if_false, hlo, hroom, Bool.not_false, Sem.run_bind, hti, false_or, hb0, and_false, Sem.run_ite, gt_iff_lt, h48, Sem.run_pure, run_choose, hq2, hcut,
    World.drew_eq, hti2, run_askRoom, hfo, hf, if_true, hzv, newRow, run_newObj, World.alloc_eq, World.size_drew]

theorem appS_sound {st xt ty e : TypeId} {i : TypeInfo} {z s x : Value} {d : TypeDesc} {k : Value → Heap → Prop} (ht : P.underlying st = some (.slice e)) (hi : P.info? e = some i)
    (hz : i.zero = some z) (hd : P.underlying xt = some d) (hnd : ∀ q, d ≠ .int q) (hb0 : i.bytes ≠ 0) (hg : Agree H w) (h : appS e i.size i.bytes z.cells.toList s x H k) :
    ∃ v H' w', (Builtin.append_ #[st, xt] ty #[s, x]).run P w = .ok v w' ∧ Turns H w H' w' ∧ k v H' := by
  unfold appS at h
  split at h
  · rename_i a len cap
    obtain ⟨m, xs, h, hlen, hone, hrun⟩ := srcC_full (P := P) h
    obtain ⟨hlo, hfm⟩ := hrun w hg
    by_cases hroom : len + m ≤ cap
    · rw [if_pos hroom] at h
      cases xs with
      | nil =>
        exact ⟨_, H, w, run_append_front ht hi hd hnd hlo hroom hfm (fun b _ => by simp [storeCells]) (fun _ => rfl), .refl hg, h⟩
      | cons x0 xs =>
        simp only at h
        split at h
        · rename_i b o
          obtain ⟨hm, hk⟩ := h
          unfold mayWrite at hm
          split at hm
          · rename_i c e' fr hb
            obtain ⟨rfl, ho⟩ := hm
            have hst := run_storeCells_block (P := P) (x0 :: xs) (hg.cells hb) ho hone
            exact ⟨_, _, _, run_append_front ht hi hd hnd hlo hroom hfm (fun q hq => by cases hq; rw [add_none]; exact hst) (fun hq => by cases hq), .setCells hg _ hb, hk⟩
          · exact hm.elim
        · exact h.elim
    · rw [if_neg hroom] at h
      obtain ⟨⟨hby, h63, hzl⟩, h⟩ := h
      have hgd : Agree H w.drew := ⟨hg.size, hg.same⟩
      obtain ⟨m2, old, h, hlen2, _, hrun2⟩ := srcC_full (P := P) h
      obtain ⟨hlo2, hfo⟩ := hrun2 w.drew hgd
      have hm2 : m2 = len := by simp [Builtin.lenOf] at hlo2; exact hlo2.symm
      subst hm2
      have hfm' := (hrun w.drew hgd).2
      have hge := grownCap_ge w (m2 + m) cap e
      have hle := grownCap_le_maxLen w (m2 + m) cap e (by simpa [maxLen] using h63)
      have hk := h (grownCap w (m2 + m) cap e) hge (by simpa [maxLen] using hle)
      obtain ⟨H', ht', hk'⟩ := newC_sound hgd hk
      have hz0 : (grownCap w (m2 + m) cap e - (m2 + m)) * z.cells.size = 0 ∨ 0 < z.cells.size := by
        by_cases h0 : z.cells.size = 0
        · left; simp [h0]
        · right; omega
      simp only [Array.length_toList] at hzl
      have hzc : Builtin.zeroCells z.cells (grownCap w (m2 + m) cap e - (m2 + m)) = (zcells z.cells.toList ((grownCap w (m2 + m) cap e - (m2 + m)) * i.size)).toArray := by
        rw [← hzl]
        exact madeCells_eq z.cells _ hz0
      have hr := run_append_far (ty := ty) ht hi hz hd hnd hlo hroom hby h63 hb0 hfo hfm'
      rw [hzc] at hr
      refine ⟨_, H', _, hr, (Turns.drew hg).trans (by simpa using ht'), hk'⟩
  · exact h.elim

/-! ### Noughts appended -/

theorem run_append_zero {st xt ty e : TypeId} {i : TypeInfo} {z : Value} {q q' : IntKind} {a : Option Addr} {len cap m : Nat} (ht : P.underlying st = some (.slice e)) (hi : P.info? e = some i)
    (hz : i.zero = some z) (hd : P.underlying xt = some (.int q)) (hm : IntKind.i64.wrap (m : Int) = (m : Int)) (hroom : ¬ len + m ≤ cap)
    (hby : (len + m) * i.bytes ≤ 140737488355328) (h63 : len + m ≤ 9223372036854775807) (hsz : szOf P e = some i.size) (hzs : z.cells.size = i.size)
    {old : Array Value} (hfo : (Builtin.firstCells i.size len (.slice a len cap)).run P w.drew = .ok old w.drew) :
    (Builtin.append_ #[st, xt] ty #[.slice a len cap, .int q' (m : Int)]).run P w = .ok (.slice (some ⟨w.heap.size, 0, none⟩) (len + m) (grownCap w (len + m) cap e))
      (w.drew.alloc (.cells (old ++ Builtin.zeroCells z.cells m ++ Builtin.zeroCells z.cells (grownCap w (len + m) cap e - (len + m))) e)) := by
  have hti : (typeInfo e).run P w = .ok i w := by simp [typeInfo, hi]
  have h48 : ¬ (2 ^ 48 < Builtin.nextslicecap (len + m) cap * i.bytes) := by
    have := growslice_fits (need := len + m) (old := cap) (bytes := i.bytes) (by omega) hby
    omega
  have hmb : ¬ ((2 : Int) ^ 48 < (m : Int) * (i.bytes : Int)) := by
    have h1 : m * i.bytes ≤ (len + m) * i.bytes := Nat.mul_le_mul_right _ (by omega)
    have h2 : ((m : Int) * (i.bytes : Int)) = ((m * i.bytes : Nat) : Int) := by simp
    rw [h2]
    have : (2 : Int) ^ 48 = 281474976710656 := by decide
    omega
  have h63i : ¬ ((9223372036854775807 : Int) < ((len + m : Nat) : Int)) := by omega
  have h0 : (#[st, xt] : Array TypeId)[0]? = some st := rfl
  have h1 : (#[st, xt] : Array TypeId)[1]? = some xt := rfl
  have h2 : (#[Value.slice a len cap, .int q' (m : Int)] : Array Value)[0]? = some (.slice a len cap) := rfl
  have h3 : (#[Value.slice a len cap, .int q' (m : Int)] : Array Value)[1]? = some (.int q' (m : Int)) := rfl
  have hq2 : (Question.appendCap (len + m) cap e).forced = false := rfl
  have hcut : Question.cut (.appendCap (len + m) cap e) (w.tape w.drawn (.appendCap (len + m) cap e)) = grownCap w (len + m) cap e := rfl
  have hzv : (zeroValue e).run P w.drew = .ok z w.drew := run_zeroValue hi hz
  have hti2 : (typeInfo e).run P w.drew = .ok i w.drew := by simp [typeInfo, hi]
  have hap : (if m * i.size = 0 then (pure #[] : Sem (Array Value)) else do pure (Builtin.zeroCells (← zeroValue e).cells m)).run P w.drew = .ok (Builtin.zeroCells z.cells m) w.drew := by
    split
    · rename_i h0'
      have : Builtin.zeroCells z.cells m = #[] := by unfold Builtin.zeroCells; rw [hzs, h0']; simp
      rw [this]; rfl
    · simp [hzv]
  have hmax : IntKind.i64.max = 9223372036854775807 := by decide
  have hai : (asInt (.int q' (m : Int))).run P w = .ok (m : Int) w := by simp [asInt, asIntOf]
  unfold Builtin.append_
  rw [h0, h1, h2, h3]
  simp only [Sem.run_bind, run_underlying ht, run_underlying hd, Result.andThen_ok, run_sizeOf' hsz, Sem.run_pure, if_true, hai, hm, Int.toNat_natCast]
  simp only [Result.andThen_ok, if_true, hroom, if_false, Bool.not_true, Bool.false_eq_true, Sem.run_bind, hti, Sem.run_ite, gt_iff_lt, h48, Sem.run_pure, run_choose, hq2, hcut, hmax, h63i, hmb, false_and,
    World.drew_eq, hti2, run_askRoom, hfo, hap, hzv, newRow, run_newObj, World.alloc_eq, World.size_drew, show ¬ ((m : Int) < 0) from by omega]
  have hfin : (if m * i.size = 0 then Result.ok #[] w.drew else Result.ok (Builtin.zeroCells z.cells m) w.drew) = (Result.ok (Builtin.zeroCells z.cells m) w.drew : Result (Array Value)) := by
    split
    · rename_i h0'
      have : Builtin.zeroCells z.cells m = #[] := by unfold Builtin.zeroCells; rw [hzs, h0']; simp
      rw [this]
    · rfl
  rw [hfin]
  simp only [Result.andThen_ok, hzv, World.size_drew]

theorem run_append_zeroF {st xt ty e : TypeId} {i : TypeInfo} {z : Value} {q q' : IntKind} {a : Option Addr} {len cap m : Nat} {w' : World} (ht : P.underlying st = some (.slice e)) (hi : P.info? e = some i)
    (hz : i.zero = some z) (hd : P.underlying xt = some (.int q)) (hm : IntKind.i64.wrap (m : Int) = (m : Int)) (hroom : len + m ≤ cap)
    (hby : (len + m) * i.bytes ≤ 140737488355328) (hsz : szOf P e = some i.size) (hzs : z.cells.size = i.size)
    (hst : ∀ b, a = some b → (storeCells (b.add (len * i.size)) (Builtin.zeroCells z.cells m).toList).run P w = .ok () w') (hno : a = none → w' = w) :
    (Builtin.append_ #[st, xt] ty #[.slice a len cap, .int q' (m : Int)]).run P w = .ok (.slice a (len + m) cap) w' := by
  have hti : (typeInfo e).run P w = .ok i w := by simp [typeInfo, hi]
  have hmb : ¬ ((2 : Int) ^ 48 < (m : Int) * (i.bytes : Int)) := by
    have h1 : m * i.bytes ≤ (len + m) * i.bytes := Nat.mul_le_mul_right _ (by omega)
    have h2 : ((m : Int) * (i.bytes : Int)) = ((m * i.bytes : Nat) : Int) := by simp
    rw [h2]
    have : (2 : Int) ^ 48 = 281474976710656 := by decide
    omega
  have h0 : (#[st, xt] : Array TypeId)[0]? = some st := rfl
  have h1 : (#[st, xt] : Array TypeId)[1]? = some xt := rfl
  have h2 : (#[Value.slice a len cap, .int q' (m : Int)] : Array Value)[0]? = some (.slice a len cap) := rfl
  have h3 : (#[Value.slice a len cap, .int q' (m : Int)] : Array Value)[1]? = some (.int q' (m : Int)) := rfl
  have hzv : (zeroValue e).run P w = .ok z w := run_zeroValue hi hz
  have hai : (asInt (.int q' (m : Int))).run P w = .ok (m : Int) w := by simp [asInt, asIntOf]
  unfold Builtin.append_
  rw [h0, h1, h2, h3]
  simp only [Sem.run_bind, run_underlying ht, run_underlying hd, Result.andThen_ok, run_sizeOf' hsz, Sem.run_pure, if_true, hai, hm, Int.toNat_natCast]
  simp only [Result.andThen_ok, if_true, hroom, if_false, Bool.not_true, Bool.false_eq_true, Sem.run_bind, hti, Sem.run_ite, gt_iff_lt, Sem.run_pure, hmb, hzv, show ¬ ((m : Int) < 0) from by omega]
  have hfin : (if m * i.size = 0 then Result.ok #[] w else Result.ok (Builtin.zeroCells z.cells m) w) = (Result.ok (Builtin.zeroCells z.cells m) w : Result (Array Value)) := by
    split
    · rename_i h0'
      have : Builtin.zeroCells z.cells m = #[] := by unfold Builtin.zeroCells; rw [hzs, h0']; simp
      rw [this]
    · rfl
  rw [hfin]
  simp only [Result.andThen_ok]
  cases a with
  | none => simp [hno rfl]
  | some b => simp [hst b rfl]

/-- 'append(s, make([]T, m)...)'. -/
def appZ (e : TypeId) (n bytes : Nat) (z : List Value) (s x : Value) (H : Heap) (k : Value → Heap → Prop) : Prop :=
  match s with
  | .slice a len cap => asI x fun m' => (0 ≤ m' ∧ (len + m'.toNat) * bytes ≤ 140737488355328 ∧ len + m'.toNat ≤ 9223372036854775807 ∧ z.length = n) ∧
      if len + m'.toNat ≤ cap then z.all okc = true ∧
        (match zcells z (m'.toNat * n) with
         | [] => k (.slice a (len + m'.toNat) cap) H
         | x0 :: xs' => (match a with
           | some ⟨b, o, none⟩ => mayWrite H b (o + len * n) (x0 :: xs').length ∧ k (.slice a (len + m'.toNat) cap) (setCells H b (o + len * n) (x0 :: xs'))
           | _ => False))
      else srcC n (.slice a len cap) H fun _ old =>
      ∀ nc : Nat, len + m'.toNat ≤ nc → nc ≤ 9223372036854775807 → newC e (old ++ zcells z (m'.toNat * n) ++ zcells z ((nc - (len + m'.toNat)) * n)) H fun b' H' => k (.slice (some ⟨b', 0, none⟩) (len + m'.toNat) nc) H'
  | _ => False

theorem zcells_one {z : List Value} (h : z.all okc = true) (n : Nat) (hn : n = 0 ∨ 0 < z.length) : ∀ v ∈ zcells z n, v.oneCell' = true := by
  intro v hv
  unfold zcells at hv
  obtain ⟨i, hi, rfl⟩ := List.mem_map.1 hv
  have hi := List.mem_range.1 hi
  have hlt : i % z.length < z.length := Nat.mod_lt _ (by omega)
  rw [okc_eq, List.getD_eq_getElem?_getD, List.getElem?_eq_getElem hlt]
  exact List.all_eq_true.1 h _ (List.getElem_mem hlt)

theorem appZ_sound {st xt ty e : TypeId} {i : TypeInfo} {z s x : Value} {q : IntKind} {k : Value → Heap → Prop} (ht : P.underlying st = some (.slice e)) (hi : P.info? e = some i)
    (hz : i.zero = some z) (hd : P.underlying xt = some (.int q)) (hg : Agree H w) (h : appZ e i.size i.bytes z.cells.toList s x H k) :
    ∃ v H' w', (Builtin.append_ #[st, xt] ty #[s, x]).run P w = .ok v w' ∧ Turns H w H' w' ∧ k v H' := by
  unfold appZ at h
  split at h
  · rename_i a len cap
    obtain ⟨q', m', rfl, ⟨h0, hby, h63, hzl⟩, h⟩ := asI_iff h
    obtain ⟨m, rfl⟩ : ∃ m : Nat, m' = (m : Int) := ⟨m'.toNat, by omega⟩
    rw [Int.toNat_natCast] at hby h63 h
    simp only [Array.length_toList] at hzl
    have hzc : ∀ j : Nat, Builtin.zeroCells z.cells j = (zcells z.cells.toList (j * i.size)).toArray := fun j => by
      rw [← hzl]
      refine madeCells_eq z.cells _ ?_
      rcases Nat.eq_zero_or_pos z.cells.size with h0 | h0
      · exact .inl (by rw [h0]; simp)
      · exact .inr h0
    have hw : IntKind.i64.wrap (m : Int) = (m : Int) := by
      simp only [IntKind.wrap, IntKind.bits, IntKind.signed]
      simp
      omega
    have hs : szOf P e = some i.size := by simp [szOf, hi]
    by_cases hroom : len + m ≤ cap
    · rw [if_pos hroom] at h
      obtain ⟨hzo, h⟩ := h
      have hone := zcells_one hzo (m * i.size) (by
        rcases Nat.eq_zero_or_pos i.size with h0 | h0
        · exact .inl (by rw [h0]; simp)
        · exact .inr (by rw [Array.length_toList, hzl]; exact h0))
      have hzm := hzc m
      have hzm' : (Builtin.zeroCells z.cells m).toList = zcells z.cells.toList (m * i.size) := by rw [hzm]
      generalize zcells z.cells.toList (m * i.size) = xs at *
      cases xs with
      | nil =>
        exact ⟨_, H, w, run_append_zeroF (ty := ty) (q' := q') ht hi hz hd hw hroom hby hs hzl (fun b _ => by rw [hzm']; simp [storeCells]) (fun _ => rfl), .refl hg, h⟩
      | cons x0 xs =>
        simp only at h
        split at h
        · rename_i b o
          obtain ⟨hm, hk⟩ := h
          unfold mayWrite at hm
          split at hm
          · rename_i c e' fr hb
            obtain ⟨rfl, ho⟩ := hm
            have hst := run_storeCells_block (P := P) (x0 :: xs) (hg.cells hb) ho hone
            exact ⟨_, _, _, run_append_zeroF (ty := ty) (q' := q') ht hi hz hd hw hroom hby hs hzl (fun q hq => by cases hq; rw [add_none, hzm']; exact hst) (fun hq => by cases hq), .setCells hg _ hb, hk⟩
          · exact hm.elim
        · exact h.elim
    · rw [if_neg hroom] at h
      have hgd : Agree H w.drew := ⟨hg.size, hg.same⟩
      obtain ⟨m2, old, h, hlen2, _, hrun2⟩ := srcC_full (P := P) h
      obtain ⟨hlo2, hfo⟩ := hrun2 w.drew hgd
      have hm2 : m2 = len := by simp [Builtin.lenOf] at hlo2; exact hlo2.symm
      subst hm2
      have hge := grownCap_ge w (m2 + m) cap e
      have hle := grownCap_le_maxLen w (m2 + m) cap e (by simpa [maxLen] using h63)
      have hk := h (grownCap w (m2 + m) cap e) hge (by simpa [maxLen] using hle)
      obtain ⟨H', ht', hk'⟩ := newC_sound hgd hk
      have hr := run_append_zero (ty := ty) (q' := q') ht hi hz hd hw hroom hby h63 hs hzl hfo
      rw [hzc, hzc] at hr
      refine ⟨_, H', _, hr, (Turns.drew hg).trans (by simpa using ht'), hk'⟩
  · exact h.elim

/-! ### copy -/

/-- A source cut to so many elements; how many it has. -/
def cutX (j : Nat) (x : Value) : Value := match x with | .slice a _ c => .slice a j c | .string s => .string (s.extract 0 j) | v => v
def lenX (x : Value) : Nat := match x with | .slice _ n _ => n | .string s => s.size | _ => 0

/-- 'copy(d, x)': as many as fit. -/
def cpS (n : Nat) (d x : Value) (H : Heap) (k : Value → Heap → Prop) : Prop :=
  match d with
  | .slice a dl _ => srcC n (cutX (min (lenX x) dl) x) H fun _ xs =>
      (match xs with
       | [] => k (.int .i64 ((min (lenX x) dl : Nat) : Int)) H
       | y :: ys => (match a with
         | some ⟨b, o, none⟩ => mayWrite H b o (y :: ys).length ∧ k (.int .i64 ((min (lenX x) dl : Nat) : Int)) (setCells H b o (y :: ys))
         | _ => False))
  | _ => False

theorem cutX_sound {n j : Nat} {x : Value} {k : Nat → List Value → Prop} (hj : j ≤ lenX x) (hg : Agree H w) (h : srcC n (cutX j x) H k) :
    ∃ xs, k j xs ∧ (∀ v ∈ xs, v.oneCell' = true) ∧ (Builtin.lenOf x).run P w = .ok (lenX x) w ∧ (Builtin.firstCells n j x).run P w = .ok xs.toArray w := by
  obtain ⟨m, xs, hk, hl, h1, hr⟩ := srcC_full (P := P) h
  obtain ⟨e1, e2⟩ := hr w hg
  cases x with
  | slice a l c =>
    simp [cutX, Builtin.lenOf] at e1
    subst e1
    exact ⟨xs, hk, h1, by simp [Builtin.lenOf, lenX], by cases a <;> exact e2⟩
  | string s =>
    have hj' : j ≤ s.size := hj
    have e : (s.extract 0 j).size = j := by simp; omega
    simp only [cutX, Builtin.lenOf, Sem.run_pure, e] at e1
    injection e1 with e1 _
    subst e1
    refine ⟨xs, hk, h1, by simp [Builtin.lenOf, lenX], ?_⟩
    simp only [cutX, Builtin.firstCells] at e2 ⊢
    rw [show (s.extract 0 j).extract 0 j = s.extract 0 j from by ext1; simp [ByteArray.data_extract]] at e2
    exact e2
  | _ => simp [cutX, srcC] at h

theorem cpS_sound {dt xt ty e : TypeId} {n : Nat} {d x : Value} {k : Value → Heap → Prop} (ht : P.underlying dt = some (.slice e)) (hs : szOf P e = some n)
    (hg : Agree H w) (h : cpS n d x H k) : ∃ v H' w', (Builtin.copy_ #[dt, xt] ty #[d, x]).run P w = .ok v w' ∧ Turns H w H' w' ∧ k v H' := by
  unfold cpS at h
  split at h
  · rename_i a dl dc
    obtain ⟨xs, h, hone, hlo, hf⟩ := cutX_sound (P := P) (Nat.min_le_left _ _) hg h
    have h0 : (#[dt, xt] : Array TypeId)[0]? = some dt := rfl
    have h2 : (#[Value.slice a dl dc, x] : Array Value)[0]? = some (.slice a dl dc) := rfl
    have h3 : (#[Value.slice a dl dc, x] : Array Value)[1]? = some x := rfl
    have front : ∀ w', (∀ b, a = some b → (storeCells b xs).run P w = .ok () w') → (a = none → w' = w) →
        (Builtin.copy_ #[dt, xt] ty #[.slice a dl dc, x]).run P w = .ok (.int .i64 ((min (lenX x) dl : Nat) : Int)) w' := by
      intro w' hst hno
      unfold Builtin.copy_
      rw [h0, h2, h3]
      simp only [Sem.run_bind, run_underlying ht, Result.andThen_ok, run_sizeOf' hs, hlo]
      rw [show Nat.min (lenX x) dl = min (lenX x) dl from rfl, hf]
      simp only [Result.andThen_ok]
      cases a with
      | none => simp [hno rfl, goInt]
      | some b => simp [hst b rfl, goInt]
    split at h
    · exact ⟨_, H, w, front w (fun b _ => by simp [storeCells]) (fun _ => rfl), .refl hg, h⟩
    · rename_i y ys
      split at h
      · rename_i b o
        obtain ⟨hm, hk⟩ := h
        unfold mayWrite at hm
        split at hm
        · rename_i c e' fr hb
          obtain ⟨rfl, ho⟩ := hm
          have hst := run_storeCells_block (P := P) (y :: ys) (hg.cells hb) ho (fun v hv => hone v hv)
          exact ⟨_, _, _, front _ (fun q hq => by cases hq; exact hst) (fun hq => by cases hq), .setCells hg _ hb, hk⟩
        · exact hm.elim
      · exact h.elim
  · exact h.elim

/-- 'clear' of a slice. -/
def clrS (z : List Value) (x : Value) (H : Heap) (k : Value → Heap → Prop) : Prop :=
  match x with
  | .slice a l _ => (match zcells z (l * z.length) with
    | [] => k (.tuple #[]) H
    | y :: ys => (match a with
      | some ⟨b, o, none⟩ => mayWrite H b o (y :: ys).length ∧ k (.tuple #[]) (setCells H b o (y :: ys))
      | _ => False))
  | _ => False

theorem clrS_sound {t ty e : TypeId} {i : TypeInfo} {zv x : Value} {k : Value → Heap → Prop} (ht : P.underlying t = some (.slice e)) (hi : P.info? e = some i) (hz : i.zero = some zv) (hok : ∀ v ∈ zv.cells.toList, v.oneCell' = true)
    (hg : Agree H w) (h : clrS zv.cells.toList x H k) : ∃ v H' w', (Builtin.clear_ #[t] ty #[x]).run P w = .ok v w' ∧ Turns H w H' w' ∧ k v H' := by
  unfold clrS at h
  split at h
  · rename_i a l cp
    have hzc : ∀ n : Nat, Builtin.zeroCells zv.cells n = (zcells zv.cells.toList (n * zv.cells.toList.length)).toArray := fun n => by
      unfold Builtin.zeroCells
      rw [Array.length_toList]
      refine madeCells_eq zv.cells _ ?_
      rcases Nat.eq_zero_or_pos zv.cells.size with h0 | h0
      · exact .inl (by rw [h0]; simp)
      · exact .inr h0
    have front : ∀ w', (∀ q, a = some q → l ≠ 0 → (storeCells q (zcells zv.cells.toList (l * zv.cells.toList.length))).run P w = .ok () w') → (a = none ∨ l = 0 → w' = w) →
        (Builtin.clear_ #[t] ty #[.slice a l cp]).run P w = .ok (.tuple #[]) w' := by
      intro w' hst hno
      cases a with
      | none => simp [Builtin.clear_, run_underlying ht, hno (.inl rfl)]
      | some q =>
        cases l with
        | zero => simp [Builtin.clear_, run_underlying ht, hno (.inr rfl)]
        | succ l =>
          have := hst q rfl (by omega)
          rw [Array.length_toList] at this
          simp [Builtin.clear_, run_underlying ht, run_zeroValue hi hz, hzc, this]
    split at h
    · rename_i hnil
      exact ⟨_, H, w, front w (fun q _ _ => by rw [hnil]; simp [storeCells]) (fun _ => rfl), .refl hg, h⟩
    · rename_i y ys hcons
      split at h
      · rename_i b o
        obtain ⟨hm, hk⟩ := h
        unfold mayWrite at hm
        split at hm
        · rename_i c e' fr hb
          obtain ⟨rfl, ho⟩ := hm
          have hone : ∀ v ∈ y :: ys, v.oneCell' = true := fun v hv => by
            rw [← hcons] at hv
            unfold zcells at hv
            obtain ⟨j, hj, rfl⟩ := List.mem_map.1 hv
            rw [List.mem_range] at hj
            have hpos : 0 < zv.cells.toList.length := by
              rcases Nat.eq_zero_or_pos zv.cells.toList.length with h0 | h0
              · rw [h0] at hj; omega
              · exact h0
            have hlt : j % zv.cells.toList.length < zv.cells.toList.length := Nat.mod_lt _ hpos
            rw [List.getD_eq_getElem?_getD, List.getElem?_eq_getElem hlt]
            exact hok _ (List.getElem_mem hlt)
          have hst := run_storeCells_block (P := P) (y :: ys) (hg.cells hb) ho hone
          have hl : l ≠ 0 := fun h0 => by subst h0; simp [zcells] at hcons
          exact ⟨_, _, _, front _ (fun q hq _ => by cases hq; rw [hcons]; exact hst) (fun hq => by rcases hq with h' | h'; cases h'; exact absurd h' hl), .setCells hg _ hb, hk⟩
        · exact hm.elim
      · exact h.elim
  · exact h.elim

/-! ### Maps of whole numbers -/

def mkM (H : Heap) (k : Value → Heap → Prop) : Prop := k (.map (some H.size)) (H.push (.map #[] 0))

theorem mkM_sound {t : TypeId} {k : Value → Heap → Prop} (hg : Agree H w) (h : mkM H k) :
    ∃ v H' w', (Instr.makeMap t none).run P w = .ok v w' ∧ Turns H w H' w' ∧ k v H' :=
  ⟨.map (some w.heap.size), H.push (.map #[] 0), w.alloc (.map #[] 0), by simp [Instr.makeMap], .push hg _, by unfold mkM at h; rw [hg.size]; exact h⟩

theorem run_checkKey {kt : TypeId} {q : IntKind} (hk : P.underlying kt = some (.int q)) (b : Bool) (n : Nat) (key : Value) : (Instr.checkKey b (n + 1) kt key).run P w = .ok () w := by
  simp [Instr.checkKey, run_underlying hk]

/-- What a map has at a key. -/
def getM (q : IntKind) (z : Value) (m key : Value) (H : Heap) (k : Value → Bool → Prop) : Prop :=
  match m with
  | .map none => k z false
  | .map (some r) => (match H[r]? with
    | some (.map es _) => (match Instr.findNow (.int q) key es.toList 0 with
      | some (some (_, v)) => k v true
      | some none => k z false
      | none => False)
    | _ => False)
  | _ => False

theorem getM_sound {t kt e : TypeId} {q : IntKind} {z m key : Value} {ok : Bool} {i : TypeInfo} {k : Value → Prop} (ht : P.underlying t = some (.map kt e)) (hk : P.underlying kt = some (.int q))
    (hi : P.info? e = some i) (hz : i.zero = some z) (hg : Agree H w) (h : getM q z m key H fun v b => k (if ok then .tuple #[v, .bool b] else v)) :
    ∃ v, (Instr.lookup t m key ok).run P w = .ok v w ∧ k v := by
  have hck : ∀ b, (Instr.checkKey b 10000 kt key).run P w = .ok () w := fun b => run_checkKey hk b 9999 key
  have hzv : (zeroValue e).run P w = .ok z w := run_zeroValue hi hz
  unfold getM at h
  split at h
  · refine ⟨_, ?_, h⟩
    cases ok <;> simp [Instr.lookup, run_underlying ht, hck, Instr.findKey, run_underlying hk, Instr.findNow, hzv]
  · rename_i r
    split at h
    · rename_i es cl hb
      have hw := hg.obj hb (by intro e; cases e)
      have hgo : (getObj r).run P w = .ok (.map es cl) w := by simp [getObj, Sem.run, hw]
      split at h
      · rename_i j v hf
        refine ⟨_, ?_, h⟩
        cases ok <;> simp [Instr.lookup, run_underlying ht, hgo, hck, Instr.findKey, run_underlying hk, hf]
      · rename_i hf
        refine ⟨_, ?_, h⟩
        cases ok <;> simp [Instr.lookup, run_underlying ht, hgo, hck, Instr.findKey, run_underlying hk, hf, hzv]
      · exact h.elim
    · exact h.elim
  · exact h.elim

/-- 'm[key] = x'. -/
def putM (q : IntKind) (m key x : Value) (H : Heap) (k : Heap → Prop) : Prop :=
  match m, key with
  | .map (some r), .int q' n => q' = q ∧ (match H[r]? with
    | some (.map es clock) => (match Instr.findNow (.int q) key es.toList 0 with
      | some (some (i, _)) => k (H.setIfInBounds r (.map (es.modify i fun e => { e with key := key, val := x }) clock))
      | some none => k (H.setIfInBounds r (.map (es.push { key := key, val := x, born := clock }) (clock + 1)))
      | none => False)
    | _ => False)
  | _, _ => False

theorem findNow_key {q : IntKind} {key v : Value} : ∀ {es : List MapEntry} {s i : Nat}, Instr.findNow (.int q) key es s = some (some (i, v)) →
    ∃ e, s ≤ i ∧ es[i - s]? = some e ∧ Instr.sameNow (.int q) key e.key = some true
  | [], s, i, h => by simp [Instr.findNow] at h
  | e :: es, s, i, h => by
    unfold Instr.findNow at h
    split at h
    · rename_i hs
      simp only [Option.some.injEq, Prod.mk.injEq] at h
      obtain ⟨rfl, rfl⟩ := h
      exact ⟨e, Nat.le_refl _, by simp, hs⟩
    · obtain ⟨e', h1, h2, h3⟩ := findNow_key h
      refine ⟨e', by omega, ?_, h3⟩
      rw [show i - s = (i - (s + 1)) + 1 from by omega]
      simpa using h2
    · cases h

theorem Turns.setObj (h : Agree H w) {r : Nat} {o : Obj} (o' : Obj) (hb : H[r]? = some o) (ho : o ≠ tomb) (hf : frOf (some o') = frOf (some o) := by rfl) :
    Turns H w (H.setIfInBounds r o') { w with heap := w.heap.setIfInBounds r o' } := by
  refine ⟨⟨by simp [h.size], ?_⟩, ⟨rfl, rfl, by simp, ?_, fun b => ?_⟩⟩
  rotate_right
  · by_cases hrb : r = b
    · subst hrb
      have hw := h.same r (by rw [hb]; intro e; exact ho (Option.some.inj e))
      have hlt : r < w.heap.size := by rw [h.size]; exact (Array.getElem?_eq_some_iff.1 hb).1
      simp only [Array.getElem?_setIfInBounds_self_of_lt hlt]
      rw [hw, hb]; exact hf
    · simp only [Array.getElem?_setIfInBounds_ne hrb]
  · intro b hb'
    simp only [Array.getElem?_setIfInBounds, h.size] at hb' ⊢
    split
    · rfl
    · rename_i hne
      rw [if_neg hne] at hb'
      exact h.same b hb'
  · intro b hb'
    have hne : r ≠ b := by intro e; subst e; rw [hb] at hb'; exact ho (Option.some.inj hb')
    exact ⟨by rw [Array.getElem?_setIfInBounds_ne hne]; exact hb', by simp only; rw [Array.getElem?_setIfInBounds_ne hne]⟩

theorem putM_sound {t kt e : TypeId} {q : IntKind} {m key x : Value} {k : Heap → Prop} (ht : P.underlying t = some (.map kt e)) (hk : P.underlying kt = some (.int q))
    (hg : Agree H w) (h : putM q m key x H k) : ∃ H' w', (Instr.mapUpdate t m key x).run P w = .ok () w' ∧ Turns H w H' w' ∧ k H' := by
  have hck : ∀ b key, (Instr.checkKey b 10000 kt key).run P w = .ok () w := fun b key => run_checkKey hk b 9999 key
  unfold putM at h
  split at h
  · rename_i r q' n
    obtain ⟨rfl, h⟩ := h
    split at h
    · rename_i es cl hb
      have hw := hg.obj hb (by intro e; cases e)
      have hgo : (getObj r).run P w = .ok (.map es cl) w := by simp [getObj, Sem.run, hw]
      have hso : ∀ o, (setObj r o).run P w = .ok () { w with heap := w.heap.setIfInBounds r o } := fun o => by simp [Go.setObj, Sem.run, hw]
      split at h
      · rename_i i v hf
        obtain ⟨e0, _, he, hsame⟩ := findNow_key hf
        refine ⟨_, _, ?_, .setObj hg _ hb (by intro e; cases e), h⟩
        have hes : es[i]? = some e0 := by simpa using he
        have hkey : Instr.sameBits 10000 e0.key (.int q' n) = true := by
          cases hk0 : e0.key with
          | int j b =>
            rw [hk0] at hsame
            simp only [Instr.sameNow] at hsame
            split at hsame
            · rename_i hq; simp at hsame; subst hq; simp [Instr.sameBits, hsame]
            · cases hsame
          | _ => rw [hk0] at hsame; simp [Instr.sameNow] at hsame
        simp [Instr.mapUpdate, run_underlying ht, hgo, hck, Instr.findKey, run_underlying hk, hf, hes, Instr.keyThatStays, hkey, hso]
      · rename_i hf
        refine ⟨_, _, ?_, .setObj hg _ hb (by intro e; cases e), h⟩
        simp [Instr.mapUpdate, run_underlying ht, hgo, hck, Instr.findKey, run_underlying hk, hf, hso]
      · exact h.elim
    · exact h.elim
  · exact h.elim

/-! ### Arithmetic, comparisons -/

def intR (op : BinOp) (k : IntKind) (a b : Int) : Option Value :=
  match op with
  | .add => some (.int k (k.wrap (a + b)))
  | .sub => some (.int k (k.wrap (a - b)))
  | .mul => some (.int k (k.wrap (a * b)))
  | .quo => if b = 0 then none else some (.int k (k.wrap (a.tdiv b)))
  | .rem => if b = 0 then none else some (.int k (a.tmod b))
  | .and => some (.int k (k.wrap (BitVec.ofInt k.bits a &&& BitVec.ofInt k.bits b).toNat))
  | .or => some (.int k (k.wrap (BitVec.ofInt k.bits a ||| BitVec.ofInt k.bits b).toNat))
  | .xor => some (.int k (k.wrap (BitVec.ofInt k.bits a ^^^ BitVec.ofInt k.bits b).toNat))
  | .andNot => some (.int k (k.wrap (BitVec.ofInt k.bits a &&& ~~~BitVec.ofInt k.bits b).toNat))
  | .eql => some (.bool (a == b))
  | .neq => some (.bool (a != b))
  | .lss => some (.bool (a < b))
  | .leq => some (.bool (a ≤ b))
  | .gtr => some (.bool (a > b))
  | .geq => some (.bool (a ≥ b))
  | .shl | .shr => none

def strR (op : BinOp) (x y : ByteArray) : Option Value :=
  match op with
  | .add => if ((x.size + y.size : Nat) : Int) > 9223372036854775807 then none else some (.string (x ++ y))
  | .eql => some (.bool (x.toList == y.toList))
  | .neq => some (.bool !(x.toList == y.toList))
  | _ => none

/-- A binary operation's value, of a type that is so. -/
def binR (d : TypeDesc) (op : BinOp) (x y : Value) : Option Value :=
  match x, y with
  | .int k a, .int k' b =>
    (match op with
     | .shl => if b < 0 then none else some (.int k (k.wrap (a * 2 ^ (min b.toNat k.bits))))
     | .shr => if b < 0 then none else some (.int k (a.fdiv (2 ^ (min b.toNat k.bits))))
     | op => if k = k' then intR op k a b else none)
  | .string a, .string b => strR op a b
  | .bool a, .bool b => (match d, op with
    | .bool, .eql => some (.bool (a == b))
    | .bool, .neq => some (.bool !(a == b))
    | _, _ => none)
  | .slice a _ _, .slice none _ _ => (match d, op with
    | .slice _, .eql => some (.bool a.isNone)
    | .slice _, .neq => some (.bool !a.isNone)
    | _, _ => none)
  | .pointer a, .pointer none => (match d, op with
    | .pointer _, .eql => some (.bool a.isNone)
    | .pointer _, .neq => some (.bool !a.isNone)
    | _, _ => none)
  | .iface _ _, .nilIface => (match d, op with
    | .interface _, .eql => some (.bool false)
    | .interface _, .neq => some (.bool true)
    | _, _ => none)
  | _, _ => none

theorem intR_sound {op : BinOp} {k : IntKind} {a b : Int} {v : Value} {t : TypeId} (h : intR op k a b = some v) : (Go.binOp op t (.int k a) (.int k b)).run P w = .ok v w := by
  cases op <;> simp only [intR] at h <;> first
    | (cases h; done)
    | (cases h; simp [Go.binOp, Op.intArith, Op.intBits, Op.intCmp]; done)
    | (split at h
       · cases h
       · rename_i hb; cases h; simp [Go.binOp, Op.intDiv, hb])

theorem run_equal {t : TypeId} {x y : Value} {b : Bool} (h : ∀ n, (Op.equalIn (n + 1) t x y).run P w = .ok b w) : (Op.equal t x y).run P w = .ok b w := h 9999

theorem run_eql {t : TypeId} {x y : Value} {b : Bool} (hb : Go.binOp .eql t x y = (do pure (.bool (← Op.equal t x y)))) (hc : Go.binOp .neq t x y = (do pure (.bool (!(← Op.equal t x y)))))
    (h : ∀ n, (Op.equalIn (n + 1) t x y).run P w = .ok b w) :
    (Go.binOp .eql t x y).run P w = .ok (.bool b) w ∧ (Go.binOp .neq t x y).run P w = .ok (.bool !b) w := by
  have he := run_equal (P := P) (w := w) h
  rw [hb, hc]
  constructor <;> simp only [Sem.run_bind, he, Result.andThen_ok, Sem.run_pure]

theorem binR_sound {d : TypeDesc} {op : BinOp} {x y v : Value} {t : TypeId} (hd : P.underlying t = some d) (h : binR d op x y = some v) :
    (Go.binOp op t x y).run P w = .ok v w := by
  unfold binR at h
  split at h
  · rename_i k a k' b
    split at h
    · split at h
      · cases h
      · rename_i hb; cases h; simp [Go.binOp, Op.shift, hb]
    · split at h
      · cases h
      · rename_i hb; cases h; simp [Go.binOp, Op.shift, hb]
    · split at h
      · rename_i hk; subst hk; exact intR_sound h
      · cases h
  · rename_i a b
    cases op <;> simp only [strR] at h <;> first
      | (cases h; done)
      | (split at h
         · cases h
         · rename_i hb
           cases h
           have hb' : ¬ ((a.size + b.size : Nat) : Int) > IntKind.i64.max := by simpa [IntKind.max, IntKind.signed, IntKind.bits] using hb
           simp only [Go.binOp, Op.stringOp, hb', if_false, Sem.run_pure])
      | (cases h; simp [Go.binOp, Op.stringOp]; done)
  · rename_i a b
    have key : ∀ {d'}, d = .bool → d' = d → _ := fun {d'} e _ => run_eql (P := P) (w := w) (t := t) (x := .bool a) (y := .bool b) (b := a == b) rfl rfl
      (fun n => by simp [Op.equalIn, run_underlying hd, e])
    split at h
    · cases h; exact (key rfl rfl).1
    · cases h; exact (key rfl rfl).2
    · cases h
  · rename_i a l c l' c'
    have key : ∀ {e}, d = .slice e → _ := fun {e} he => run_eql (P := P) (w := w) (t := t) (x := .slice a l c) (y := .slice none l' c') (b := a.isNone) rfl rfl
      (fun n => by cases a <;> simp [Op.equalIn, run_underlying hd, he])
    split at h
    · cases h; exact (key rfl).1
    · cases h; exact (key rfl).2
    · cases h
  · rename_i a
    have key : ∀ {e}, d = .pointer e → _ := fun {e} he => run_eql (P := P) (w := w) (t := t) (x := .pointer a) (y := .pointer none) (b := a.isNone) rfl rfl
      (fun n => by cases a <;> simp [Op.equalIn, run_underlying hd, he])
    split at h
    · cases h; exact (key rfl).1
    · cases h; exact (key rfl).2
    · cases h
  · rename_i u x
    have key : ∀ {e}, d = .interface e → _ := fun {e} he => run_eql (P := P) (w := w) (t := t) (x := .iface u x) (y := .nilIface) (b := false) rfl rfl
      (fun n => by simp [Op.equalIn, run_underlying hd, he])
    split at h
    · cases h; exact (key rfl).1
    · cases h; exact (key rfl).2
    · cases h
  · cases h

def binV (d : TypeDesc) (op : BinOp) (x y : Value) (k : Value → Prop) : Prop := match binR d op x y with | some v => k v | none => False

theorem eqGuard_ok {d : TypeDesc} {op : BinOp} {x y v : Value} {t : TypeId} {ox oy : Operand} (h : binR d op x y = some v) : (eqGuard op t ox oy x y).run P w = .ok () w := by
  unfold binR at h
  split at h
  case h_7 => cases h
  all_goals (unfold eqGuard; cases op <;> rfl)

theorem binV_sound {d : TypeDesc} {op : BinOp} {x y : Value} {t : TypeId} {ox oy : Operand} {k : Value → Prop} (hd : P.underlying t = some d) (h : binV d op x y k) :
    ∃ v, (do eqGuard op t ox oy x y; Go.binOp op t x y : Sem Value).run P w = .ok v w ∧ k v := by
  unfold binV at h
  split at h
  · rename_i v hv
    exact ⟨v, by simp only [Sem.run_bind, eqGuard_ok hv, Result.andThen_ok, binR_sound hd hv], h⟩
  · exact h.elim

def unR (op : UnOp) (x : Value) : Option Value :=
  match op, x with
  | .neg, .int k n => some (.int k (k.wrap (0 - n)))
  | .xor, .int k n => some (.int k (k.wrap (BitVec.ofInt k.bits (if k.signed then -1 else k.max) ^^^ BitVec.ofInt k.bits n).toNat))
  | .not, .bool b => some (.bool !b)
  | _, _ => none

def unV (op : UnOp) (x : Value) (k : Value → Prop) : Prop := match unR op x with | some v => k v | none => False

theorem unV_sound {op : UnOp} {x : Value} {k : Value → Prop} (h : unV op x k) : ∃ v, (Op.unary op x).run P w = .ok v w ∧ k v := by
  unfold unV at h
  split at h
  · rename_i v hv
    refine ⟨v, ?_, h⟩
    unfold unR at hv
    split at hv <;> first | (cases hv; simp [Op.unary, Op.intArith, Op.intBits]; done) | cases hv
  · exact h.elim

def minV (x y : Value) (k : Value → Prop) : Prop := match x, y with | .int q a, .int _ b => k (.int q (if b < a then b else a)) | _, _ => False
def maxV (x y : Value) (k : Value → Prop) : Prop := match x, y with | .int q a, .int _ b => k (.int q (if b > a then b else a)) | _, _ => False

theorem minV_sound {ts : Array TypeId} {t : TypeId} {x y : Value} {k : Value → Prop} (h : minV x y k) : ∃ v, (Builtin.min_ ts t #[x, y]).run P w = .ok v w ∧ k v := by
  unfold minV at h
  split at h
  · exact ⟨_, by simp [Builtin.min_, Builtin.min2], h⟩
  · exact h.elim

theorem maxV_sound {ts : Array TypeId} {t : TypeId} {x y : Value} {k : Value → Prop} (h : maxV x y k) : ∃ v, (Builtin.max_ ts t #[x, y]).run P w = .ok v w ∧ k v := by
  unfold maxV at h
  split at h
  · exact ⟨_, by simp [Builtin.max_, Builtin.max2], h⟩
  · exact h.elim

/-- A conversion between kinds of whole numbers. -/
def cvI (q : IntKind) (x : Value) (k : Value → Prop) : Prop := match x with | .int _ n => k (.int q (q.wrap n)) | _ => False

theorem cvI_sound {s t : TypeId} {q : IntKind} {x : Value} {d : TypeDesc} {k : Value → Prop} (hs : P.underlying s = some d) (ht : P.underlying t = some (.int q)) (h : cvI q x k) :
    ∃ v, (convert s t x).run P w = .ok v w ∧ k v := by
  unfold cvI at h
  split at h
  · refine ⟨_, ?_, h⟩
    cases d <;> simp [convert, run_underlying hs, run_underlying ht, Conv.intToInt]
  · exact h.elim

/-- Bytes that cells hold. -/
def toBytes : List Value → Option (List UInt8)
  | [] => some []
  | .int .u8 n :: r => (toBytes r).map (UInt8.ofNat n.toNat :: ·)
  | _ => none

/-- A slice of bytes, as a string. -/
def cvBS (x : Value) (H : Heap) (k : Value → Prop) : Prop :=
  match x with
  | .slice _ 0 _ => k (.string ⟨#[]⟩)
  | .slice (some ⟨b, o, none⟩) n _ => (match (cellsAt H b o n).bind toBytes with | some l => k (.string ⟨l.toArray⟩) | none => False)
  | _ => False

theorem toBytes_ints : ∀ {cs : List Value} {l : List UInt8}, toBytes cs = some l → ∃ ns : List Int, cs = ns.map (Value.int .u8) ∧ ns.map (fun n => UInt8.ofNat n.toNat) = l
  | [], l, h => by simp [toBytes] at h; exact ⟨[], rfl, by simp [h]⟩
  | c :: r, l, h => by
    unfold toBytes at h
    split at h
    · rename_i heq; cases heq
    · rename_i n r' heq
      cases heq
      cases hr : toBytes r with
      | none => rw [hr] at h; cases h
      | some l' =>
        rw [hr] at h
        simp only [Option.map_some, Option.some.injEq] at h
        obtain ⟨ns, h1, h2⟩ := toBytes_ints hr
        exact ⟨n :: ns, by simp [h1], by simp [h2, h]⟩
    · cases h

theorem foldl_push_bytes : ∀ (ns : List Int) (r : ByteArray), ns.foldl (fun r n => r.push (UInt8.ofNat n.toNat)) r = ⟨r.data ++ (ns.map fun n => UInt8.ofNat n.toNat).toArray⟩
  | [], r => by simp
  | n :: ns, r => by
    simp only [List.foldl_cons, List.map_cons]
    rw [foldl_push_bytes ns]
    simp [ByteArray.push]

theorem cvBS_sound {s t e : TypeId} {x : Value} {k : Value → Prop} (hs : P.underlying s = some (.slice e)) (he : P.underlying e = some (.int .u8)) (ht : P.underlying t = some .string) (hg : Agree H w) (h : cvBS x H k) :
    ∃ v, (convert s t x).run P w = .ok v w ∧ k v := by
  unfold cvBS at h
  split at h
  · rename_i a c
    refine ⟨_, ?_, h⟩
    rw [run_convert_bytes_string w s t e a 0 c hs he ht]
    cases a with
    | none => simp [Conv.bytesToString]; rfl
    | some a =>
      have := run_bytesToString (P := P) w a 0 c [] (by
        have := run_loadCells_list (P := P) (w := w) a [] (fun j v hj => by simp at hj)
        simpa using this)
      rw [this]; rfl
  · rename_i b o n c _
    split at h
    · rename_i l hl
      obtain ⟨cs, hcs, hb⟩ := Option.bind_eq_some_iff.1 hl
      obtain ⟨ns, h1, h2⟩ := toBytes_ints hb
      refine ⟨_, ?_, h⟩
      rw [run_convert_bytes_string w s t e _ n c hs he ht]
      unfold cellsAt at hcs
      split at hcs
      · rename_i c' e' fr hbk
        split at hcs
        · rename_i hn
          cases hcs
          have := run_loadCells_block (P := P) (hg.cells hbk) hn
          rw [run_bytesToString (P := P) w _ n c ns (by rw [this, h1]), foldl_push_bytes, h2]
          have he0 : ByteArray.empty.data = #[] := rfl
          rw [he0, Array.empty_append]
        · cases hcs
      · cases hcs
    · exact h.elim
  · exact h.elim

end
end Go.Ab
