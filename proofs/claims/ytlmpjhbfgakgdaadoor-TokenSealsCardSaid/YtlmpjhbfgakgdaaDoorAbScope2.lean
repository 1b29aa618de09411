/- Functions whose body is a scope with labels: jumps. -/
import Derived.Test.YtlmpjhbfgakgdaaDoorAbFn
import Derived.ScopeJumps
namespace Go.Ab
variable {ro : Option Nat}
set_option linter.unusedVariables false
set_option linter.unusedSimpArgs false

/-- The labels that jumps come to. -/
def labelsOf : Code → List Nat
  | .seq a b => labelsOf a ++ labelsOf b
  | .label l => [l]
  | _ => []

/-- Jumps: what holds at each label, each pass lowers a measure. -/
def ScopePT (F : (Nat → List (List Value) → Heap → Prop) → Prop) (L : (Nat → Nat → List (List Value) → Heap → Prop) → Prop) : Prop :=
  ∃ I : Nat → Nat → List (List Value) → Heap → Prop, F (fun l s H => ∃ n, I n l s H) ∧ L I

abbrev gotoQ (ann : Ann) (labs : List Nat) (K : Nat → List (List Value) → Heap → Prop) (Q : Exit → Env → Heap → Prop) : Exit → Env → Heap → Prop := fun e env H =>
  match e with
  | .goto l => ifB (labs.contains l) (match Ann.at ann (1000000 + l) with | some ls => projK env ls fun s => K l s H | none => False) False
  | e => Q e env H

abbrev labsP (P : Program) (pv : List Nat) (ann : Ann) (c : Code) (labs wr ms : List Nat) (env0 : Env) (Q : Exit → Env → Heap → Prop) (I : Nat → Nat → List (List Value) → Heap → Prop) : List Nat → Prop
  | [] => True
  | l :: r => (∀ n s H, I n l s H → (match findLabel c l, Ann.at ann (1000000 + l) with
      | some rest, some ls => forceK (restore env0 ms ls s) fun env => awp P pv ann rest wr (gotoQ ann labs (fun l' s' H' => ∃ m, m < n ∧ I m l' s' H') Q) env H
      | _, _ => False)) ∧ labsP P pv ann c labs wr ms env0 Q I r

/-- The end of a body. -/
abbrev endQ (P : Program) (fn : Func) (Q : Value → Heap → Prop) : Exit → Env → Heap → Prop := fun e env' H' => match e with
  | .normal => resK P env' H' fn.results.toList fun vs => Q (resV vs) H'
  | .ret => resK P env' H' fn.results.toList fun vs => Q (resV vs) H'
  | _ => False

abbrev fnPTS (P : Program) (pv : List Nat) (ann : Ann) (fn : Func) (args : List Value) (H : Heap) (Q : Value → Heap → Prop) : Prop :=
  match fn.body with
  | some (.scope c) => forceK (args.map .val ++ List.replicate (fn.ntmps - args.length) .unk) fun env0 =>
      ScopePT (fun K => awp P pv ann c (List.range fn.ntmps) (gotoQ ann (labelsOf c) K (endQ P fn Q)) env0 H)
        fun I => labsP P pv ann c (labelsOf c) (List.range fn.ntmps) (mods c) env0 (endQ P fn Q) I (labelsOf c)
  | _ => False

theorem findLabel_mods : ∀ {c : Code} {l : Nat} {rest : Code}, findLabel c l = some rest → ∀ i ∈ mods rest, i ∈ mods c
  | .seq a b, l, rest, h => by
    unfold findLabel at h
    split at h
    · rename_i ra hra
      cases h
      intro i hi
      unfold mods at hi ⊢
      rcases List.mem_append.1 hi with hi | hi
      · exact List.mem_append_left _ (findLabel_mods hra i hi)
      · exact List.mem_append_right _ hi
    · intro i hi
      unfold mods
      exact List.mem_append_right _ (findLabel_mods h i hi)
  | .label l', l, rest, h => by
    unfold findLabel at h
    split at h
    · cases h; intro i hi; cases hi
    · cases h
  | .skip, _, _, h | .region .., _, _, h | .cond .., _, _, h | .block .., _, _, h | .loop .., _, _, h | .scope .., _, _, h | .exit .., _, _, h | .goto .., _, _, h | .ret, _, _, h | .rangeFunc .., _, _, h | .refuse .., _, _, h => by
    simp [findLabel] at h

section
variable {P : Program} {a : Act} {w : World} {Q : Exit → Act → World → Prop}

/-- By jumps, what the code comes to. -/
def Exit.jumps (J : Nat → Act → World → Prop) (Q : Exit → Act → World → Prop) : Exit → Act → World → Prop
  | .goto l, a, w => J l a w
  | e, a, w => Q e a w

theorem wp_scope_n {c : Code} (J : Nat → Nat → Act → World → Prop) (hJ : ∀ n l a w, J n l a w → ∃ rest, findLabel c l = some rest) (first : c.wp P (Exit.jumps (fun l a w => ∃ n, J n l a w) Q) a w)
    (pass : ∀ n l rest a w, findLabel c l = some rest → J n l a w → rest.wp P (Exit.jumps (fun l' a' w' => ∃ m, m < n ∧ J m l' a' w') Q) a w) : (Code.scope c).wp P Q a w := by
  intro b k cs
  have key : ∀ n l rest a w, findLabel c l = some rest → J n l a w → ∃ e a' w', Q e a' w' ∧ Arrives P (lone (b.at a (.code rest :: .inScope c :: k)) cs w) b k cs e a' w' := by
    intro n
    induction n using Nat.strongRecOn with
    | _ n ih =>
      intro l rest a w hf hj
      obtain ⟨e, a₁, w₁, hq, harr⟩ := pass n l rest a w hf hj b (.inScope c :: k) cs
      cases e with
      | normal => exact ⟨.normal, a₁, w₁, hq, Steps.trans harr (.one step_inScope)⟩
      | exit id => exact ⟨.exit id, a₁, w₁, hq, fun k' hk => harr k' (by simp [exitTo, hk])⟩
      | goto l' =>
        obtain ⟨m, hlt, hj'⟩ := hq
        obtain ⟨rest', hf'⟩ := hJ _ _ _ _ hj'
        have hg : gotoIn l' (.inScope c :: k) = some (.code rest' :: .inScope c :: k) := by simp [gotoIn, hf']
        obtain ⟨e₂, a₂, w₂, hq₂, harr₂⟩ := ih m hlt l' rest' a₁ w₁ hf' hj'
        exact ⟨e₂, a₂, w₂, hq₂, .of_steps (harr _ hg) harr₂⟩
      | ret => exact ⟨_, a₁, w₁, hq, harr⟩
      | panic ch => exact ⟨_, a₁, w₁, hq, harr⟩
      | outgrown => exact ⟨_, a₁, w₁, hq, harr⟩
  obtain ⟨e, a₁, w₁, hq, harr⟩ := first b (.inScope c :: k) cs
  cases e with
  | normal => exact ⟨.normal, a₁, w₁, hq, .head step_scope (Steps.trans harr (.one step_inScope))⟩
  | exit id => exact ⟨.exit id, a₁, w₁, hq, fun k' hk => .head step_scope (harr k' (by simp [exitTo, hk]))⟩
  | goto l' =>
    obtain ⟨n, hj'⟩ := hq
    obtain ⟨rest', hf'⟩ := hJ _ _ _ _ hj'
    have hg : gotoIn l' (.inScope c :: k) = some (.code rest' :: .inScope c :: k) := by simp [gotoIn, hf']
    obtain ⟨e₂, a₂, w₂, hq₂, harr₂⟩ := key n l' rest' a₁ w₁ hf' hj'
    exact ⟨e₂, a₂, w₂, hq₂, .of_steps (.head step_scope (harr _ hg)) harr₂⟩
  | ret => exact ⟨_, a₁, w₁, hq, .of_steps (.one step_scope) harr⟩
  | panic ch => exact ⟨_, a₁, w₁, hq, .of_steps (.one step_scope) harr⟩
  | outgrown => exact ⟨_, a₁, w₁, hq, .of_steps (.one step_scope) harr⟩
end

theorem labsP_mem {P : Program} {pv : List Nat} {ann : Ann} {c : Code} {labs wr ms : List Nat} {env0 : Env} {Q : Exit → Env → Heap → Prop} {I : Nat → Nat → List (List Value) → Heap → Prop} :
    ∀ {ls : List Nat}, labsP P pv ann c labs wr ms env0 Q I ls → ∀ l ∈ ls, ∀ n s H, I n l s H → ∃ rest lz, findLabel c l = some rest ∧ Ann.at ann (1000000 + l) = some lz ∧
      awp P pv ann rest wr (gotoQ ann labs (fun l' s' H' => ∃ m, m < n ∧ I m l' s' H') Q) (restore env0 ms lz s) H
  | [], _, l, hl => by cases hl
  | l0 :: r, h, l, hl => by
    rcases List.mem_cons.1 hl with rfl | hl
    · intro n s H hI
      have h1 := h.1 n s H hI
      split at h1
      · rename_i rest lz hf ha
        rw [forceK_eq] at h1
        exact ⟨rest, lz, hf, ha, h1⟩
      · exact h1.elim
    · exact labsP_mem h.2 l hl

theorem labelsOf_find : ∀ {c : Code} {l : Nat}, l ∈ labelsOf c → ∃ rest, findLabel c l = some rest
  | .seq a b, l, h => by
    unfold labelsOf at h
    unfold findLabel
    split
    · exact ⟨_, rfl⟩
    · rename_i hn
      rcases List.mem_append.1 h with h | h
      · obtain ⟨rest, hr⟩ := labelsOf_find h
        rw [hr] at hn; cases hn
      · exact labelsOf_find h
  | .label l', l, h => by
    simp only [labelsOf, List.mem_singleton] at h
    subst h
    exact ⟨.skip, by simp [findLabel]⟩
  | .skip, _, h | .region .., _, h | .cond .., _, h | .block .., _, h | .loop .., _, h | .scope .., _, h | .exit .., _, h | .goto .., _, h | .ret, _, h | .rangeFunc .., _, h | .refuse .., _, h => by
    simp [labelsOf] at h

section
variable {P : Program}

/-- **A function whose body is a scope.** -/
theorem hcallsS_of {f : FuncId} {fn : Func} {pv : List Nat} {ann : Ann} {args : List Value} {H : Heap} {Q : Value → Heap → Prop} (hf : P.funcs[f]? = some fn)
    (hname : (fn.name == "runtime.NumGoroutine") = false) (h : fnPTS P pv ann fn args H Q) : HCalls P f args.toArray H Q := by
  unfold fnPTS at h
  simp only [forceK_eq] at h
  split at h
  · rename_i c hb
    obtain ⟨I, hfirst, hlabs⟩ := h
    refine ⟨⟨fn, hf, by simp [hb], hname⟩, fun w hw => ?_⟩
    intro cs
    let b : Frame := { (default : Frame) with fn := f, kind := .normal }
    have henter : Frame.enter P f args.toArray .normal =
        b.at { tmps := args.toArray ++ Array.replicate (fn.ntmps - args.toArray.size) undef, defers := [] } [.code (.scope c)] := by
      simp [Frame.enter, Frame.at, hf, hb, b]
    obtain ⟨a0, ha0⟩ : ∃ a0 : Act, { tmps := args.toArray ++ Array.replicate (fn.ntmps - args.toArray.size) undef, defers := [] } = a0 := ⟨_, rfl⟩
    obtain ⟨env0, he0⟩ : ∃ env0 : Env, args.map .val ++ List.replicate (fn.ntmps - args.length) .unk = env0 := ⟨_, rfl⟩
    have r0 : Rel H w env0 H a0 w := ha0 ▸ he0 ▸ rel_start hw
    have hd0 : a0.defers = [] := by rw [← ha0]
    have hnp : ∀ (i : Nat) cs, env0[i]? ≠ some (.priv cs) := by
      intro i cs hi
      rw [← he0] at hi
      rw [List.getElem?_append] at hi
      split at hi
      · simp only [List.getElem?_map] at hi
        cases hv : args[i]? with
        | none => rw [hv] at hi; cases hi
        | some v => rw [hv] at hi; cases hi
      · have := List.mem_of_getElem? hi
        rw [List.mem_replicate] at this
        cases this.2
    rw [ha0] at henter
    rw [he0] at hfirst hlabs
    let Fin : Exit → Act → World → Prop := fun e a' w' => ∃ env' H' l, Rel H w env' H' a' w' ∧ a'.defers = l ++ [] ∧ (∀ d ∈ l, ∃ r, d.target = .collected r) ∧
      endQ P fn Q e env' H'
    let J : Nat → Nat → Act → World → Prop := fun n l a' w' => l ∈ labelsOf c ∧ ∃ lz s H', Ann.at ann (1000000 + l) = some lz ∧ I n l s H' ∧ Rel H w (restore env0 (mods c) lz s) H' a' w' ∧ Unch none (mods c) [] env0 a0 env0 a'
    have land : ∀ {e : Exit} {a' : Act} {w' : World} {env' : Env} {H' : Heap} {Kn : Nat → Nat → List (List Value) → Heap → Prop}, Rel H w env' H' a' w' → Unch none (mods c) [] env0 a0 env' a' →
        gotoQ ann (labelsOf c) (fun l s H => ∃ n, Kn n l s H) (endQ P fn Q) e env' H' →
        Exit.jumps (fun l a' w' => ∃ n, (l ∈ labelsOf c ∧ ∃ lz s H', Ann.at ann (1000000 + l) = some lz ∧ Kn n l s H' ∧ Rel H w (restore env0 (mods c) lz s) H' a' w' ∧ Unch none (mods c) [] env0 a0 env0 a')) Fin e a' w' := by
      intro e a' w' env' H' Kn r' u' hq
      have done : endQ P fn Q e env' H' → Fin e a' w' := fun hq => by
        obtain ⟨⟨l, hl, hc⟩, _⟩ := u'.defers
        rw [hd0] at hl
        exact ⟨env', H', l, r', hl, hc, hq⟩
      cases e with
      | goto l =>
        obtain ⟨hl, hq⟩ := ifB_iff hq
        have hl : l ∈ labelsOf c := by simpa using hl
        split at hq
        · rename_i lz hlz
          obtain ⟨s, ⟨n, hk⟩, hs⟩ := projK_iff hq
          exact ⟨n, hl, lz, s, H', hlz, hk, r0.restore r' u' (fun i hi => by cases hi) hs, ⟨u'.size, u'.tmps, fun i cs hc => absurd hc (hnp i cs), u'.defers⟩⟩
        · exact hq.elim
      | normal => exact done hq
      | ret => exact done hq
      | exit id => exact hq.elim
      | panic ch => exact hq.elim
      | outgrown => exact hq.elim
    have main : (Code.scope c).wp P Fin a0 w := by
      refine wp_scope_n J (fun n l a' w' hj => labelsOf_find hj.1) ?_ ?_
      · refine (wpIn_wide (n := 0)).1 (wpIn_mono (awp_sound c (ro := none) (.inl rfl) hfirst r0) ?_)
        rintro e a' w' ⟨env', H', r', hq, u'⟩
        exact land (Kn := I) r' ⟨u'.size, u'.tmps, fun i cs hc => absurd hc (hnp i cs), u'.defers⟩ hq
      · rintro n l rest a' w' hfl ⟨hl, lz, s, H', hlz, hI, r', u'⟩
        obtain ⟨rest', lz', hf', hz', hawp⟩ := labsP_mem hlabs l hl n s H' hI
        rw [hfl] at hf'; cases hf'
        rw [hlz] at hz'; cases hz'
        refine (wpIn_wide (n := 0)).1 (wpIn_mono (awp_sound rest (ro := none) (.inl rfl) hawp r') ?_)
        rintro e a2 w2 ⟨env2, H2, r2, hq, u2⟩
        have u3 : Unch none (mods c) [] env0 a0 env2 a2 := ⟨u2.size.trans u'.size, fun i hi => (u2.tmps i fun hh => hi (findLabel_mods hfl i hh)).trans (u'.tmps i hi), fun i cs hc => absurd hc (hnp i cs), u'.defers.trans u2.defers⟩
        have := land (Kn := fun m l s H => m < n ∧ I m l s H) r2 u3 hq
        cases e with
        | goto l' =>
          obtain ⟨m, hl', lz2, s2, H3, h1, ⟨h2, h3⟩, h4, h5⟩ := this
          exact ⟨m, h2, hl', lz2, s2, H3, h1, h3, h4, h5⟩
        | normal => exact this
        | ret => exact this
        | exit id => exact this
        | panic ch => exact this
        | outgrown => exact this
    obtain ⟨e, a', w', ⟨env', H', l, r', hl, hc, hq⟩, harr⟩ := main b [] cs
    rw [← henter] at harr
    cases e with
    | normal =>
      obtain ⟨v, w2, fr, ⟨ht, hv⟩, hs, h1, h2⟩ := leave_ret (b := b) (todo := []) (cs := cs) rfl rfl hf r' hl hc hq
      exact ⟨_, w2, fr, ⟨v, H', rfl, ht, hv⟩, (Steps.trans harr (.one step_end)).trans hs, h1, h2⟩
    | ret =>
      obtain ⟨todo, hs0⟩ := harr
      obtain ⟨v, w2, fr, ⟨ht, hv⟩, hs, h1, h2⟩ := leave_ret (b := b) (todo := todo) (cs := cs) rfl rfl hf r' hl hc hq
      exact ⟨_, w2, fr, ⟨v, H', rfl, ht, hv⟩, hs0.trans hs, h1, h2⟩
    | exit id => exact hq.elim
    | goto l => exact hq.elim
    | panic ch => exact hq.elim
    | outgrown => exact hq.elim
  · exact h.elim

end

def noPriv (env : Env) : Bool := env.all fun s => match s with | .priv _ => false | _ => true
theorem noPriv_iff {env : Env} (h : noPriv env = true) : ∀ (i : Nat) cs, env[i]? ≠ some (.priv cs) := by
  intro i cs hi
  have := List.all_eq_true.1 h _ (List.mem_of_getElem? hi)
  simp at this

abbrev fnPTQ (P : Program) (pv : List Nat) (ann : Ann) (fn : Func) (args : List Value) (H : Heap) (Q : Value → Heap → Prop) : Prop :=
  match fn.body with
  | some (.seq r0 (.scope c)) => forceK (args.map .val ++ List.replicate (fn.ntmps - args.length) .unk) fun env0 => awp P pv ann r0 (List.range fn.ntmps) (fun e env1 H1 => match e with
      | .normal => ifB (noPriv env1) (ScopePT (fun K => awp P pv ann c (List.range fn.ntmps) (gotoQ ann (labelsOf c) K (endQ P fn Q)) env1 H1)
          fun I => labsP P pv ann c (labelsOf c) (List.range fn.ntmps) (mods c) env1 (endQ P fn Q) I (labelsOf c)) False
      | _ => False) env0 H
  | _ => False

section
variable {P : Program}

theorem scope_wp {fn : Func} {c : Code} {pv : List Nat} {ann : Ann} {Q : Value → Heap → Prop} {H0 H : Heap} {w0 w : World} {env0 : Env} {a0 : Act} (r0 : Rel H0 w0 env0 H a0 w) (hnp : ∀ (i : Nat) cs, env0[i]? ≠ some (.priv cs))
    (hd0 : ∃ l, a0.defers = l ++ [] ∧ ∀ d ∈ l, ∃ r, d.target = .collected r)
    (h : ScopePT (fun K => awp P pv ann c (List.range fn.ntmps) (gotoQ ann (labelsOf c) K (endQ P fn Q)) env0 H) fun I => labsP P pv ann c (labelsOf c) (List.range fn.ntmps) (mods c) env0 (endQ P fn Q) I (labelsOf c)) :
    (Code.scope c).wp P (fun e a' w' => ∃ env' H' l, Rel H0 w0 env' H' a' w' ∧ a'.defers = l ++ [] ∧ (∀ d ∈ l, ∃ r, d.target = .collected r) ∧ endQ P fn Q e env' H') a0 w := by
  obtain ⟨I, hfirst, hlabs⟩ := h
  obtain ⟨l0, hl0, hc0⟩ := hd0
  let Fin : Exit → Act → World → Prop := fun e a' w' => ∃ env' H' l, Rel H0 w0 env' H' a' w' ∧ a'.defers = l ++ [] ∧ (∀ d ∈ l, ∃ r, d.target = .collected r) ∧
    endQ P fn Q e env' H'
  let J : Nat → Nat → Act → World → Prop := fun n l a' w' => l ∈ labelsOf c ∧ ∃ lz s H', Ann.at ann (1000000 + l) = some lz ∧ I n l s H' ∧ Rel H0 w0 (restore env0 (mods c) lz s) H' a' w' ∧ Unch none (mods c) [] env0 a0 env0 a'
  have land : ∀ {e : Exit} {a' : Act} {w' : World} {env' : Env} {H' : Heap} {Kn : Nat → Nat → List (List Value) → Heap → Prop}, Rel H0 w0 env' H' a' w' → Unch none (mods c) [] env0 a0 env' a' →
      gotoQ ann (labelsOf c) (fun l s H => ∃ n, Kn n l s H) (endQ P fn Q) e env' H' →
      Exit.jumps (fun l a' w' => ∃ n, (l ∈ labelsOf c ∧ ∃ lz s H', Ann.at ann (1000000 + l) = some lz ∧ Kn n l s H' ∧ Rel H0 w0 (restore env0 (mods c) lz s) H' a' w' ∧ Unch none (mods c) [] env0 a0 env0 a')) Fin e a' w' := by
    intro e a' w' env' H' Kn r' u' hq
    have done : endQ P fn Q e env' H' → Fin e a' w' := fun hq => by
      obtain ⟨⟨l, hl, hc⟩, _⟩ := u'.defers
      rw [hl0] at hl
      exact ⟨env', H', l ++ l0, r', by rw [hl]; simp, fun d hd => (List.mem_append.1 hd).elim (hc d) (hc0 d), hq⟩
    cases e with
    | goto l =>
      obtain ⟨hl, hq⟩ := ifB_iff hq
      have hl : l ∈ labelsOf c := by simpa using hl
      split at hq
      · rename_i lz hlz
        obtain ⟨s, ⟨n, hk⟩, hs⟩ := projK_iff hq
        exact ⟨n, hl, lz, s, H', hlz, hk, r0.restore r' u' (fun i hi => by cases hi) hs, ⟨u'.size, u'.tmps, fun i cs hc => absurd hc (hnp i cs), u'.defers⟩⟩
      · exact hq.elim
    | normal => exact done hq
    | ret => exact done hq
    | exit id => exact hq.elim
    | panic ch => exact hq.elim
    | outgrown => exact hq.elim
  refine wp_scope_n J (fun n l a' w' hj => labelsOf_find hj.1) ?_ ?_
  · refine (wpIn_wide (n := 0)).1 (wpIn_mono (awp_sound c (ro := none) (.inl rfl) hfirst r0) ?_)
    rintro e a' w' ⟨env', H', r', hq, u'⟩
    exact land (Kn := I) r' ⟨u'.size, u'.tmps, fun i cs hc => absurd hc (hnp i cs), u'.defers⟩ hq
  · rintro n l rest a' w' hfl ⟨hl, lz, s, H', hlz, hI, r', u'⟩
    obtain ⟨rest', lz', hf', hz', hawp⟩ := labsP_mem hlabs l hl n s H' hI
    rw [hfl] at hf'; cases hf'
    rw [hlz] at hz'; cases hz'
    refine (wpIn_wide (n := 0)).1 (wpIn_mono (awp_sound rest (ro := none) (.inl rfl) hawp r') ?_)
    rintro e a2 w2 ⟨env2, H2, r2, hq, u2⟩
    have u3 : Unch none (mods c) [] env0 a0 env2 a2 := ⟨u2.size.trans u'.size, fun i hi => (u2.tmps i fun hh => hi (findLabel_mods hfl i hh)).trans (u'.tmps i hi), fun i cs hc => absurd hc (hnp i cs), u'.defers.trans u2.defers⟩
    have := land (Kn := fun m l s H => m < n ∧ I m l s H) r2 u3 hq
    cases e with
    | goto l' =>
      obtain ⟨m, hl', lz2, s2, H3, h1, ⟨h2, h3⟩, h4, h5⟩ := this
      exact ⟨m, h2, hl', lz2, s2, H3, h1, h3, h4, h5⟩
    | normal => exact this
    | ret => exact this
    | exit id => exact this
    | panic ch => exact this
    | outgrown => exact this

/-- **A function whose body is a region, and a scope behind it.** -/
theorem hcallsQ_of {f : FuncId} {fn : Func} {pv : List Nat} {ann : Ann} {args : List Value} {H : Heap} {Q : Value → Heap → Prop} (hf : P.funcs[f]? = some fn)
    (hname : (fn.name == "runtime.NumGoroutine") = false) (h : fnPTQ P pv ann fn args H Q) : HCalls P f args.toArray H Q := by
  unfold fnPTQ at h
  simp only [forceK_eq] at h
  split at h
  · rename_i r0 c hb
    refine ⟨⟨fn, hf, by simp [hb], hname⟩, fun w hw => ?_⟩
    intro cs
    let b : Frame := { (default : Frame) with fn := f, kind := .normal }
    have henter : Frame.enter P f args.toArray .normal =
        b.at { tmps := args.toArray ++ Array.replicate (fn.ntmps - args.toArray.size) undef, defers := [] } [.code (.seq r0 (.scope c))] := by
      simp [Frame.enter, Frame.at, hf, hb, b]
    obtain ⟨a0, ha0⟩ : ∃ a0 : Act, { tmps := args.toArray ++ Array.replicate (fn.ntmps - args.toArray.size) undef, defers := [] } = a0 := ⟨_, rfl⟩
    obtain ⟨env0, he0⟩ : ∃ env0 : Env, args.map .val ++ List.replicate (fn.ntmps - args.length) .unk = env0 := ⟨_, rfl⟩
    have r0' : Rel H w env0 H a0 w := ha0 ▸ he0 ▸ rel_start hw
    have hd0 : a0.defers = [] := by rw [← ha0]
    rw [ha0] at henter
    rw [he0] at h
    let Fin : Exit → Act → World → Prop := fun e a' w' => ∃ env' H' l, Rel H w env' H' a' w' ∧ a'.defers = l ++ [] ∧ (∀ d ∈ l, ∃ r, d.target = .collected r) ∧
      endQ P fn Q e env' H'
    have main : (Code.seq r0 (.scope c)).wp P Fin a0 w := by
      refine wp_seq ?_
      refine (wpIn_wide (n := 0)).1 (wpIn_mono (awp_sound r0 (ro := none) (.inl rfl) h r0') ?_)
      rintro e a1 w1 ⟨env1, H1, r1, hq, u1⟩
      cases e with
      | normal =>
        obtain ⟨hp, hq⟩ := ifB_iff hq
        obtain ⟨⟨l, hl, hc⟩, _⟩ := u1.defers
        rw [hd0] at hl
        exact scope_wp r1 (noPriv_iff hp) ⟨l, hl, hc⟩ hq
      | ret => exact hq.elim
      | exit id => exact hq.elim
      | goto l => exact hq.elim
      | panic ch => exact hq.elim
      | outgrown => exact hq.elim
    obtain ⟨e, a', w', ⟨env', H', l, r', hl, hc, hq⟩, harr⟩ := main b [] cs
    rw [← henter] at harr
    cases e with
    | normal =>
      obtain ⟨v, w2, fr, ⟨ht, hv⟩, hs, h1, h2⟩ := leave_ret (b := b) (todo := []) (cs := cs) rfl rfl hf r' hl hc hq
      exact ⟨_, w2, fr, ⟨v, H', rfl, ht, hv⟩, (Steps.trans harr (.one step_end)).trans hs, h1, h2⟩
    | ret =>
      obtain ⟨todo, hs0⟩ := harr
      obtain ⟨v, w2, fr, ⟨ht, hv⟩, hs, h1, h2⟩ := leave_ret (b := b) (todo := todo) (cs := cs) rfl rfl hf r' hl hc hq
      exact ⟨_, w2, fr, ⟨v, H', rfl, ht, hv⟩, hs0.trans hs, h1, h2⟩
    | exit id => exact hq.elim
    | goto l => exact hq.elim
    | panic ch => exact hq.elim
    | outgrown => exact hq.elim
  · exact h.elim

end

end Go.Ab
