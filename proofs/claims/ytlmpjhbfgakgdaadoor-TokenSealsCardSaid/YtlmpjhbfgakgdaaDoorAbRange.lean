/- A range over a function: what is asked of the call, of a round; that it is sound. -/
import Derived.Test.YtlmpjhbfgakgdaaDoorAbDraw
import Derived.RangeFuncRecord
namespace Go.Ab
set_option linter.unusedVariables false
set_option linter.unusedSimpArgs false

/-- Slots that are no values are forgotten. -/
def strip : Env → Env
  | [] => []
  | x :: r => (match x with | .val v => .val v | _ => .unk) :: strip r

def setAll (ps : List Tmp) (args : List Value) (env : Env) : Env :=
  match ps, args with
  | p :: ps, v :: args => setAll ps args (env.set p (.val v))
  | _, _ => env

/-- A function's value that is no yield. -/
def isFn : Value → Prop
  | .func (.func _) _ _ => True
  | _ => False

/-- The jumps that may leave a round: 'none' a return, 'some id' an exit. -/
def jEq : Option Nat → Option Nat → Bool
  | none, none => true
  | some a, some b => Nat.beq a b
  | _, _ => false
def jIn (x : Option Nat) : List (Option Nat) → Bool
  | [] => false
  | y :: r => jEq x y || jIn x r
def jAdd (l : List (Option Nat)) (x : Option Nat) : List (Option Nat) := match jIn x l with | true => l | false => l ++ [x]
def nIn (x : Nat) : List Nat → Bool
  | [] => false
  | y :: r => Nat.beq x y || nIn x r
def jumps : Code → List Nat → List (Option Nat) → List (Option Nat)
  | .seq a b, ins, acc => jumps b ins (jumps a ins acc)
  | .cond _ a b, ins, acc => jumps b ins (jumps a ins acc)
  | .block id b, ins, acc => jumps b (id :: ins) acc
  | .loop b, ins, acc => jumps b ins acc
  | .scope b, ins, acc => jumps b ins acc
  | .exit id, ins, acc => (match nIn id ins with | true => acc | false => jAdd acc (some id))
  | .ret, _, acc => jAdd acc none
  | _, _, acc => acc
def jcode : Option Nat → Code
  | none => .ret
  | some id => .exit id
abbrev jexit : Option Nat → Exit
  | none => .ret
  | some id => .exit id
abbrev jmps (Q : Exit → Heap → Prop) : List (Option Nat) → List (Option Nat × (Heap → Prop))
  | [] => []
  | x :: r => (x, fun H => Q (jexit x) H) :: jmps Q r

theorem jmps_mem {Q : Exit → Heap → Prop} : ∀ {l : List (Option Nat)} {p : Option Nat × (Heap → Prop)}, p ∈ jmps Q l → p.2 = fun H => Q (jexit p.1) H
  | [], p, h => by cases h
  | x :: r, p, h => by
    rcases List.mem_cons.1 h with rfl | h
    · rfl
    · exact jmps_mem h

/-- The arguments that a round is given. -/
def arg0 (args : List Value) (k : Prop) : Prop := match args with | [] => k | _ => False
def arg1 (args : List Value) (k : Value → Prop) : Prop := match args with | [v] => k v | _ => False
def arg2 (args : List Value) (k : Value → Value → Prop) : Prop := match args with | [v, u] => k v u | _ => False
abbrev argsN (ps : List Tmp) (args : List Value) (k : List Value → Prop) : Prop :=
  match ps with
  | [] => arg0 args (k [])
  | [_] => arg1 args fun v => k [v]
  | [_, _] => arg2 args fun v u => k [v, u]
  | _ => False

theorem argsN_iff {ps : List Tmp} {args : List Value} {k : List Value → Prop} (h : argsN ps args k) : args.length = ps.length ∧ k args := by
  unfold argsN at h
  split at h
  · unfold arg0 at h; split at h
    · exact ⟨rfl, h⟩
    · exact h.elim
  · unfold arg1 at h; split at h
    · exact ⟨rfl, h⟩
    · exact h.elim
  · unfold arg2 at h; split at h
    · exact ⟨rfl, h⟩
    · exact h.elim
  · exact h.elim

/-- A loop over a function, with its rounds. -/
def RangePT (P : Program) (fv : Value) (H : Heap) (Round : List Value → Heap → (Option (Option Nat) → Heap → Prop) → Prop) (kn : Heap → Prop) (ks : List (Option Nat × (Heap → Prop))) : Prop :=
  isFn fv ∧ ∀ o : Option (Option Nat) → Obj, (∀ c, o c ≠ tomb) →
    (∀ (args : List Value) (H' : Heap) (K : Value → Heap → Prop), H'[H.size + 1]? = some (o none) →
      Round args (H'.setIfInBounds (H.size + 1) tomb) (fun c H2 => K (.bool c.isNone) (H2.setIfInBounds (H.size + 1) (o c))) →
      callV P (.func (.yield (H.size + 1)) #[] #[]) args H' K) →
    callV P fv [.func (.yield (H.size + 1)) #[] #[]] ((H.push tomb).push (o none)) fun _ H2 =>
      (H2[H.size + 1]? = some (o none) ∧ kn (H2.setIfInBounds (H.size + 1) tomb)) ∨ ∃ p ∈ ks, H2[H.size + 1]? = some (o (some p.1)) ∧ p.2 (H2.setIfInBounds (H.size + 1) tomb)

/-- No range over a function in a piece of code. -/
def noRf : Code → Bool
  | .seq a b => noRf a && noRf b
  | .cond _ a b => noRf a && noRf b
  | .block _ b => noRf b
  | .loop b => noRf b
  | .scope b => noRf b
  | .rangeFunc .. => false
  | _ => true

section
variable {P : Program} {H0 : Heap} {w0 : World} {env : Env} {H : Heap} {a : Act} {w : World}

theorem strip_get : ∀ (e : Env) (i : Nat), (strip e)[i]? = (e[i]?).map fun x => match x with | .val v => .val v | _ => .unk
  | [], i => by simp [strip]
  | x :: r, 0 => by simp [strip]
  | x :: r, i + 1 => by simp [strip, strip_get r i]

theorem strip_length : ∀ (e : Env), (strip e).length = e.length
  | [] => rfl
  | x :: r => by simp [strip, strip_length r]

/-- A new beginning: from here on, with the slots that are values. -/
theorem Rel.again (r : Rel H0 w0 env H a w) (hd : a.defers = []) {w' : World} (hg : Agree H w') : Rel H w' (strip env) H a w' := by
  refine ⟨hg, .refl _ _, by rw [strip_length]; exact r.len, ?_, ?_, by simp [hd], by simp [hd]⟩
  · intro i s hs
    rw [strip_get] at hs
    cases he : env[i]? with
    | none => rw [he] at hs; cases hs
    | some x =>
      rw [he] at hs
      simp only [Option.map_some, Option.some.injEq] at hs
      have := r.ok i _ he
      cases x with
      | val v => subst hs; exact this
      | unk => subst hs; trivial
      | priv c => subst hs; trivial
      | ref q o => subst hs; trivial
  · intro i j c c' p hi
    rw [strip_get] at hi
    cases he : env[i]? with
    | none => rw [he] at hi; cases hi
    | some x => rw [he] at hi; cases x <;> simp at hi

/-- The round's environment. -/
theorem Rel.round (r : Rel H0 w0 env H a w) {H' : Heap} {w' : World} (hg : Agree H' w') : Rel H' w' (strip env) H' { tmps := a.tmps, defers := [] } w' := by
  have : Rel H' w' (strip env) H' { tmps := a.tmps, defers := [] } w' := by
    refine ⟨hg, .refl _ _, by rw [strip_length]; exact r.len, ?_, ?_, by simp, by simp⟩
    · intro i s hs
      rw [strip_get] at hs
      cases he : env[i]? with
      | none => rw [he] at hs; cases hs
      | some x =>
        rw [he] at hs
        simp only [Option.map_some, Option.some.injEq] at hs
        have := r.ok i _ he
        cases x with
        | val v => subst hs; exact this
        | unk => subst hs; trivial
        | priv c => subst hs; trivial
        | ref q o => subst hs; trivial
    · intro i j c c' p hi
      rw [strip_get] at hi
      cases he : env[i]? with
      | none => rw [he] at hi; cases hi
      | some x => rw [he] at hi; cases x <;> simp at hi
  exact this


theorem setAll_rel : ∀ (ps : List Tmp) (args : List Value) {env : Env} {H : Heap} {w : World} {tmps : Array Value}, (∀ (i : Nat) cs, env[i]? ≠ some (Slot.priv cs)) → Rel H0 w0 env H { tmps := tmps, defers := [] } w →
    Rel H0 w0 (setAll ps args env) H { tmps := (ps.zip args).foldl (fun t (p : Tmp × Value) => t.setIfInBounds p.1 p.2) tmps, defers := [] } w
  | [], args, env, H, w, tmps, hn, r => by simpa [setAll] using r
  | p :: ps, [], env, H, w, tmps, hn, r => by simpa [setAll] using r
  | p :: ps, v :: args, env, H, w, tmps, hn, r => by
    have r1 := r.putVal (t := p) v (fun cs => hn p cs)
    simp only [setAll, List.zip_cons_cons, List.foldl_cons]
    refine setAll_rel ps args ?_ r1
    intro i cs h
    by_cases hi : p = i
    · subst hi
      rw [List.getElem?_set] at h
      simp only [if_true] at h
      split at h <;> cases h
    · rw [List.getElem?_set_ne hi] at h; exact hn i cs h

theorem strip_no (env : Env) (i : Nat) (cs : List Value) : (strip env)[i]? ≠ some (Slot.priv cs) := by
  rw [strip_get]
  cases env[i]? with
  | none => simp
  | some x => cases x <;> simp

/-- A block that is not looked at becomes another one. -/
theorem Agree.putTomb {H : Heap} {w : World} (h : Agree H w) {l : Nat} (hl : H[l]? = some tomb) (o : Obj) : Agree H (w.putObj l o) :=
  ⟨by simp [World.putObj, h.size], fun b hb => by
    have : b ≠ l := fun e => hb (e ▸ hl)
    rw [World.putObj_heap_other this]; exact h.same b hb⟩

theorem Agree.toTomb {H : Heap} {w : World} (h : Agree H w) (l : Nat) : Agree (H.setIfInBounds l tomb) w :=
  ⟨by simp [h.size], fun b hb => by
    by_cases hbl : l = b
    · subst hbl
      rcases Nat.lt_or_ge l H.size with hlt | hge
      · exact absurd (by simp [hlt]) hb
      · rw [Array.getElem?_eq_none (show w.heap.size ≤ l by rw [h.size]; exact hge), Array.getElem?_eq_none (by simpa using hge)]
    · rw [Array.getElem?_setIfInBounds_ne hbl] at hb ⊢
      exact h.same b hb⟩

theorem Agree.ofTomb {H : Heap} {w : World} (h : Agree H w) {l : Nat} (hl : H[l]? = some tomb) (o : Obj) : Agree (H.setIfInBounds l o) (w.putObj l o) := by
  have hlt : l < H.size := (Array.getElem?_eq_some_iff.1 hl).1
  refine ⟨by simp [World.putObj, h.size], fun b hb => ?_⟩
  by_cases hbl : l = b
  · subst hbl
    rw [World.putObj_heap_same (by rw [h.size]; exact hlt)]; simp [hlt]
  · rw [Array.getElem?_setIfInBounds_ne hbl] at hb ⊢
    rw [World.putObj_heap_other (Ne.symm hbl)]; exact h.same b hb

theorem frOf_putObj {w : World} {l : Nat} {o o' : Obj} (hl : w.heap[l]? = some o') (ho : frOf (some o) = frOf (some o')) (b : Nat) : frOf (w.putObj l o).heap[b]? = frOf w.heap[b]? := by
  by_cases hb : b = l
  · subst hb; rw [World.putObj_heap_same (Array.getElem?_eq_some_iff.1 hl).1, hl]; exact ho
  · rw [World.putObj_heap_other hb]

end
end Go.Ab
