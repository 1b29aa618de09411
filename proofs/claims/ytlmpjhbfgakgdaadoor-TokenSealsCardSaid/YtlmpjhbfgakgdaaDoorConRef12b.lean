/- Contracts: buckets read and written, as the reference has them. -/
import Derived.Test.YtlmpjhbfgakgdaaDoorConRef12
namespace Go.Proofs.YtlmpjhbfgakgdaaDoor
open Go.Ab Go.Md
set_option linter.unusedVariables false
set_option linter.unusedSimpArgs false
set_option maxRecDepth 20000

variable {H : Heap} {Q : Value → Heap → Prop} {A B C : Nat → Prop}

theorem vrep_see {H' : Heap} {F : Nat → Prop} {kind level bucket : Int} {u : Value} {x : By} (h : Sl rU8 H F u x) : VRep rSee H F true (.agg #[.int .u8 kind, .int .i64 level, .int .i64 bucket, u]) (⟨kind, level, bucket, x⟩ : See) :=
  ⟨[.int .u8 kind, .int .i64 level, .int .i64 bucket, u], rfl, u, rfl, h⟩
theorem vrep_by {F : Nat → Prop} {u : Value} {x : By} (h : Sl rU8 H F u x) : VRep rBy H F false u x := ⟨[u], rfl, u, rfl, h⟩

theorem mid_len {d : Dv} (hd : Mid d) {level : Int} : (lvlOf d level).length ≤ 1000 := by
  unfold lvlOf
  rw [List.getD_eq_getElem?_getD]
  cases h : d[level.toNat]? with
  | none => simp
  | some x => exact (hd.2 x (List.mem_of_getElem? h)).1
theorem mid_bk {d : Dv} (hd : Mid d) {level b : Int} : (bk d level b).length ≤ 1000000 := by
  unfold bk lvlOf
  rw [List.getD_eq_getElem?_getD, List.getD_eq_getElem?_getD]
  cases h : d[level.toNat]? with
  | none => simp
  | some x =>
    simp only [Option.getD_some]
    cases h2 : x[(b - 1).toNat]? with
    | none => simp
    | some y => exact (hd.2 x (List.mem_of_getElem? h)).2 y (List.mem_of_getElem? h2)

/-! ### Writing -/

theorem lvlOf_put {d : Dv} {level b : Int} {x : By} (h : 0 ≤ level ∧ level < d.length) : lvlOf (putB d level b x) level = (lvlOf d level).set (b - 1).toNat x := by
  unfold putB
  conv => lhs; unfold lvlOf
  rw [List.getD_eq_getElem?_getD, List.getElem?_set]
  simp only [if_true]
  rw [if_pos (by omega)]; rfl
theorem len_put {d : Dv} {level b : Int} {x : By} : (putB d level b x).length = d.length := by unfold putB; simp

/-- The first of what is written. -/
theorem putAll_snoc {level : Int} : ∀ {l : List Int} {all : List By} {d : Dv} {b : Int} {x : By}, l.length = all.length → putAll d level (l ++ [b]) (all ++ [x]) = putB (putAll d level l all) level b x
  | [], [], d, b, x, _ => rfl
  | b' :: l, x' :: all, d, b, x, h => by
    show putAll (putB d level b' x') level (l ++ [b]) (all ++ [x]) = _
    rw [putAll_snoc (by simpa using h)]; rfl
  | [], _ :: _, _, _, _, h => by simp at h
  | _ :: _, [], _, _, _, h => by simp at h
theorem seesW_snoc {level : Int} : ∀ {l : List Int} {all : List By} {b : Int} {x : By}, l.length = all.length → seesW level (l ++ [b]) (all ++ [x]) = seesW level l all ++ [⟨2, level, b, x⟩]
  | [], [], b, x, _ => rfl
  | b' :: l, x' :: all, b, x, h => by
    show _ :: seesW level (l ++ [b]) (all ++ [x]) = _
    rw [seesW_snoc (by simpa using h)]; rfl
  | [], _ :: _, _, _, h => by simp at h
  | _ :: _, [], _, _, h => by simp at h
theorem seesW_len {level : Int} : ∀ {l : List Int} {all : List By}, l.length = all.length → (seesW level l all).length = l.length
  | [], [], _ => rfl
  | _ :: l, _ :: all, h => by simp [seesW, seesW_len (l := l) (all := all) (by simpa using h)]
  | [], _ :: _, h => by simp at h
  | _ :: _, [], h => by simp at h
theorem putAll_len {level : Int} : ∀ {l : List Int} {all : List By} {d : Dv}, (putAll d level l all).length = d.length
  | [], [], d => rfl
  | b' :: l, x' :: all, d => by
    show (putAll (putB d level b' x') level l all).length = _
    rw [putAll_len, len_put]
  | [], _ :: _, _ => rfl
  | _ :: _, [], _ => rfl
theorem putAll_lvl {level : Int} : ∀ {l : List Int} {all : List By} {d : Dv}, (0 ≤ level ∧ level < d.length) → (lvlOf (putAll d level l all) level).length = (lvlOf d level).length
  | [], [], d, _ => rfl
  | b' :: l, x' :: all, d, h => by
    show (lvlOf (putAll (putB d level b' x') level l all) level).length = _
    rw [putAll_lvl (by rw [len_put]; exact h), lvlOf_put h]; simp
  | [], _ :: _, _, _ => rfl
  | _ :: _, [], _, _ => rfl

end Go.Proofs.YtlmpjhbfgakgdaaDoor
