/- Functions: from the deep reading of a body to the call. -/
import Derived.Test.YtlmpjhbfgakgdaaDoorAbCode
namespace Go.Ab
variable {ro : Option Nat}
set_option linter.unusedVariables false
set_option linter.unusedSimpArgs false

abbrev resK (P : Program) (env : Env) (H : Heap) : List ResultVar → (List Value → Prop) → Prop
  | [], k => k []
  | .tmp t :: r, k => opd env (.tmp t) fun v => resK P env H r fun vs => k (v :: vs)
  | .cell t ty :: r, k => aggN P ty fun agg n => (match baseOf env (.tmp t) with
    | some (_, off, cs) => ifB (decide (off + n ≤ cs.length)) (resK P env H r fun vs => k (mkV agg (seg cs off n) :: vs)) False
    | none => opd env (.tmp t) fun p => loadP agg n p H fun v => resK P env H r fun vs => k (v :: vs))

def resV (vs : List Value) : Value := match vs with | [v] => v | vs => .tuple vs.toArray

abbrev fnPT (P : Program) (pv : List Nat) (ann : Ann) (fn : Func) (args : List Value) (H : Heap) (Q : Value → Heap → Prop) : Prop :=
  match fn.body with
  | some c => forceK (args.map .val ++ List.replicate (fn.ntmps - args.length) .unk) fun env => awp P pv ann c (List.range fn.ntmps) (fun e env' H' => match e with
      | .normal => resK P env' H' fn.results.toList fun vs => Q (resV vs) H'
      | .ret => resK P env' H' fn.results.toList fun vs => Q (resV vs) H'
      | _ => False) env H
  | none => False

section
variable {P : Program} {H0 : Heap} {w0 : World} {env : Env} {H : Heap} {a : Act} {w : World}

def oneRes (P : Program) (tmps : Array Value) : ResultVar → Sem Value
  | .tmp t => pure (tmps.getD t undef)
  | .cell a t => do loadVar t (← asAddr (tmps.getD a undef))

theorem resK_iff (r : Rel H0 w0 env H a w) : ∀ {l : List ResultVar} {k : List Value → Prop}, resK P env H l k →
    ∃ vs, k vs ∧ ∀ w', (∀ b : Nat, H[b]? ≠ some tomb → w'.heap[b]? = w.heap[b]?) → (∀ (b : Nat) (c : Array Value) (e : TypeId), w.heap[b]? = some (Obj.cells c e (0, 0)) → w'.heap[b]? = some (Obj.cells c e (0, 0))) →
      (l.mapM (oneRes P a.tmps)).run P w' = .ok vs w'
  | [], k, h => ⟨[], h, fun w' _ _ => rfl⟩
  | .tmp t :: l, k, h => by
    unfold resK at h
    obtain ⟨v, hv, h⟩ := opd_iff h
    obtain ⟨vs, hk, hr⟩ := resK_iff r h
    refine ⟨v :: vs, hk, fun w' h1 h2 => ?_⟩
    have he := r.eval hv
    simp only [Act.eval] at he
    simp only [List.mapM_cons, oneRes, he, Sem.run_bind, Sem.run_pure, Result.andThen_ok, hr w' h1 h2]
  | .cell t ty :: l, k, h => by
    unfold resK at h
    obtain ⟨agg, n, ha, hs, h1, h⟩ := aggN_iff h
    split at h
    · rename_i q off cs hb
      obtain ⟨hle, h⟩ := ifB_iff h
      obtain ⟨hq, hb⟩ := baseOf_iff hb
      obtain ⟨b, he, ht⟩ := hb a r.envOk
      obtain ⟨b', e, _, ht', _, hw⟩ := r.ok _ _ hq
      rw [ht] at ht'; cases ht'
      obtain ⟨vs, hk, hr⟩ := resK_iff r h
      refine ⟨_, hk, fun w' g1 g2 => ?_⟩
      have hrun := run_loadVar_block (P := P) ha hs h1 (g2 _ _ _ hw) (by simpa using of_decide_eq_true hle)
      simp only [Act.eval] at he
      simp only [List.mapM_cons, oneRes, he, asAddr, Sem.run_bind, Sem.run_pure, Result.andThen_ok, hrun, hr w' g1 g2]
    · obtain ⟨p, hp, h⟩ := opd_iff h
      have he := r.eval hp
      simp only [Act.eval] at he
      unfold loadP at h
      split at h
      · rename_i b o
        split at h
        · rename_i cs hcs
          obtain ⟨vs, hk, hr⟩ := resK_iff r h
          refine ⟨_, hk, fun w' g1 g2 => ?_⟩
          unfold cellsAt at hcs
          split at hcs
          · rename_i c e fr hbk
            split at hcs
            · rename_i hn
              cases hcs
              have hw' : w'.heap[b]? = some (.cells c e fr) := by
                rw [g1 b (by rw [hbk]; intro h; cases h)]; exact r.agree.cells hbk
              have hrun := run_loadVar_block (P := P) ha hs h1 hw' hn
              simp only [List.mapM_cons, oneRes, he, asAddr, Sem.run_bind, Sem.run_pure, Result.andThen_ok, hrun, hr w' g1 g2]
            · cases hcs
          · cases hcs
        · exact h.elim
      · exact h.elim

theorem results_eq (fn : Func) (tmps : Array Value) : results fn tmps = (do let vs ← fn.results.mapM (oneRes P tmps); pure (if h : vs.size = 1 then vs[0] else .tuple vs)) := by
  unfold results
  congr 1

theorem run_results {fn : Func} {tmps : Array Value} {vs : List Value} (h : (fn.results.toList.mapM (oneRes P tmps)).run P w = .ok vs w) : (results fn tmps).run P w = .ok (resV vs) w := by
  rw [results_eq (P := P), Array.mapM_eq_mapM_toList]
  simp only [Sem.run_bind, Sem.run_map, h, Result.andThen_ok, Sem.run_pure]
  congr 1
  match vs with
  | [] => rfl
  | [v] => rfl
  | v :: u :: r => simp [resV]

/-! ### Marks are taken off -/

/-- The world in which the marks' blocks have been taken. -/
def taken (w : World) : List Nat → World
  | [] => w
  | r :: rs => taken { w with heap := w.heap.setIfInBounds r (.deferred none) } rs

theorem taken_get (w : World) : ∀ (rs : List Nat) (b : Nat), b ∉ rs → (taken w rs).heap[b]? = w.heap[b]?
  | [], b, _ => rfl
  | r :: rs, b, h => by
    simp only [List.mem_cons, not_or] at h
    unfold taken
    rw [taken_get _ rs b h.2]
    simp only
    rw [Array.getElem?_setIfInBounds_ne (fun e => h.1 e.symm)]

theorem taken_none (w : World) : ∀ (rs : List Nat) (b : Nat), w.heap[b]? = some (.deferred none) → (taken w rs).heap[b]? = some (.deferred none)
  | [], _, h => h
  | r :: rs, b, h => by
    unfold taken
    refine taken_none _ rs b ?_
    by_cases hrb : r = b
    · subst hrb
      have hlt := (Array.getElem?_eq_some_iff.1 h).1
      simp only [Array.getElem?_setIfInBounds_self_of_lt hlt]
    · simp only [Array.getElem?_setIfInBounds_ne hrb]; exact h

theorem taken_in (w : World) : ∀ (rs : List Nat) (b : Nat), b ∈ rs → w.heap[b]? = some (.deferred (some [])) → (taken w rs).heap[b]? = some (.deferred none)
  | r :: rs, b, h, hw => by
    unfold taken
    by_cases hin : b ∈ rs
    · by_cases hrb : r = b
      · subst hrb
        exact taken_none _ rs r (by
          have hlt := (Array.getElem?_eq_some_iff.1 hw).1
          simp only [Array.getElem?_setIfInBounds_self_of_lt hlt])
      · refine taken_in _ rs b hin ?_
        simp only [Array.getElem?_setIfInBounds_ne hrb]; exact hw
    · have : r = b := by
        rcases List.mem_cons.1 h with h | h
        · exact h.symm
        · exact absurd h hin
      subst this
      rw [taken_get _ rs r hin]
      have hlt := (Array.getElem?_eq_some_iff.1 hw).1
      simp only [Array.getElem?_setIfInBounds_self_of_lt hlt]

theorem taken_size (w : World) : ∀ (rs : List Nat), (taken w rs).heap.size = w.heap.size
  | [] => rfl
  | r :: rs => by unfold taken; rw [taken_size]; simp

theorem taken_os (w : World) : ∀ (rs : List Nat), (taken w rs).os = w.os ∧ (taken w rs).output = w.output
  | [] => ⟨rfl, rfl⟩
  | r :: rs => by unfold taken; exact taken_os _ rs

theorem step_take {fr : Frame} {cs : List Frame} {r : Nat} {ds : List Deferred} (hm : fr.mode ≠ .run) (hd : fr.defers = { target := .collected r, args := #[] } :: ds)
    (hr : w.heap[r]? = some (.deferred (some []))) :
    step P (lone fr cs w) = .next (lone { fr with defers := ds } cs { w with heap := w.heap.setIfInBounds r (.deferred none) }) := by
  have hrun : (Instr.takeDeferred r).run P w = .ok [] { w with heap := w.heap.setIfInBounds r (.deferred none) } := by
    simp [Instr.takeDeferred, getObj, setObj, Sem.run, hr]
  refine step_lone_go ?_
  cases hmode : fr.mode with
  | run => exact absurd hmode hm
  | returning => simp [stepG, unwind, hmode, hd, Sem.runT_eq, hrun]
  | panicking chain => simp [stepG, unwind, hmode, hd, Sem.runT_eq, hrun]

/-- A mark. -/
def mark (r : Nat) : Deferred := { target := .collected r, args := #[] }

theorem steps_take {fr : Frame} {cs : List Frame} {ds : List Deferred} (hm : fr.mode ≠ .run) : ∀ (rs : List Nat) {w : World}, fr.defers = rs.map mark ++ ds →
    rs.Nodup → (∀ r ∈ rs, w.heap[r]? = some (.deferred (some []))) → Steps P (lone fr cs w) (lone { fr with defers := ds } cs (taken w rs)) := by
  intro rs
  induction rs generalizing fr with
  | nil =>
    intro w hd _ _
    have : { fr with defers := ds } = fr := by cases fr; simp_all
    rw [this]; exact .refl _ _
  | cons r rs ih =>
    intro w hd hn hr
    rw [List.nodup_cons] at hn
    refine .head (step_take hm (by simpa [mark] using hd) (hr r (by simp))) ?_
    have := ih (fr := { fr with defers := rs.map mark ++ ds }) hm (w := { w with heap := w.heap.setIfInBounds r (.deferred none) }) rfl hn.2 (fun q hq => by
      have hne : r ≠ q := fun e => hn.1 (e ▸ hq)
      simp only
      rw [Array.getElem?_setIfInBounds_ne hne]; exact hr q (by simp [hq]))
    exact this

/-- Marks whose blocks are not looked at. -/
def Marked (H0 H : Heap) (w : World) (rs : List Nat) : Prop := rs.Nodup ∧ ∀ q ∈ rs, H0.size ≤ q ∧ H[q]? = some tomb ∧ w.heap[q]? = some (.deferred (some []))

theorem marks_of (hm : ∀ d ∈ a.defers, (∃ r, d = { target := .collected r, args := #[] } ∧ H0.size ≤ r ∧ H[r]? = some tomb ∧ w.heap[r]? = some (.deferred (some []))) ∨ ∃ fv cap, d.target = .fn fv cap)
    {l : List Deferred} (hsub : ∀ d ∈ l, d ∈ a.defers) (ha : l.Pairwise (fun x y => ∀ r, x.target = .collected r → y.target ≠ .collected r)) (hl : ∀ d ∈ l, ∃ r, d.target = .collected r) :
    ∃ rs : List Nat, l = rs.map mark ∧ Marked H0 H w rs := by
  induction l with
  | nil => exact ⟨[], rfl, .nil, by simp⟩
  | cons d l ih =>
    rw [List.pairwise_cons] at ha
    obtain ⟨rs, hrs, hn, hq⟩ := ih (fun d hd => hsub d (by simp [hd])) ha.2 (fun d hd => hl d (by simp [hd]))
    obtain ⟨q, rfl, h1, h2, h3⟩ := (hm d (hsub d (by simp))).resolve_right (fun ⟨fv, cap, h⟩ => by
      obtain ⟨r, hr⟩ := hl d (by simp)
      rw [h] at hr; cases hr)
    refine ⟨q :: rs, by simp [hrs, mark], List.nodup_cons.2 ⟨fun hin => ?_, hn⟩, ?_⟩
    · exact ha.1 (mark q) (by rw [hrs]; exact List.mem_map.2 ⟨q, hin, rfl⟩) q rfl rfl
    · intro x hx
      rcases List.mem_cons.1 hx with rfl | hx
      · exact ⟨h1, h2, h3⟩
      · exact hq x hx

/-- Marks are taken off. -/
theorem take_marks {H0 : Heap} {w0 : World} {H : Heap} {w : World} (t : Turns H0 w0 H w) {rs : List Nat} (hm : Marked H0 H w rs) :
    Turns H0 w0 H (taken w rs) ∧ (∀ x : Nat, H[x]? ≠ some tomb → (taken w rs).heap[x]? = w.heap[x]?) ∧
      ∀ (b : Nat) (c : Array Value) (e : TypeId), w.heap[b]? = some (Obj.cells c e (0, 0)) → (taken w rs).heap[b]? = some (Obj.cells c e (0, 0)) := by
  have hno : ∀ x : Nat, H[x]? ≠ some tomb → x ∉ rs := fun x hx hin => hx (hm.2 x hin).2.1
  refine ⟨⟨⟨by rw [taken_size]; exact t.agree.size, fun x hx => by rw [taken_get w rs x (hno x hx)]; exact t.agree.same x hx⟩, ?_⟩, fun x hx => taken_get w rs x (hno x hx), fun x c e hx => ?_⟩
  · refine ⟨(taken_os w rs).1.trans t.kept.os, (taken_os w rs).2.trans t.kept.output, t.kept.size, fun x hx => ⟨(t.kept.tombs x hx).1, ?_⟩, fun x => ?_⟩
    rotate_right
    · by_cases hin : x ∈ rs
      · rw [← t.kept.froz x, (hm.2 x hin).2.2, taken_in w rs x hin (hm.2 x hin).2.2]; rfl
      · rw [taken_get w rs x hin]; exact t.kept.froz x
    have : x ∉ rs := fun hin => by
      have h1 := (hm.2 x hin).1
      have := (Array.getElem?_eq_some_iff.1 hx).1
      omega
    rw [taken_get w rs x this]; exact (t.kept.tombs x hx).2
  · rw [taken_get w rs x (fun hin => by have := (hm.2 x hin).2.2; rw [hx] at this; cases this)]; exact hx

theorem rel_start {args : List Value} {n : Nat} {H : Heap} {w : World} (hw : Agree H w) :
    Rel H w (args.map .val ++ List.replicate (n - args.length) .unk) H { tmps := args.toArray ++ Array.replicate (n - args.toArray.size) undef, defers := [] } w := by
  refine ⟨hw, .refl H w, by simp, ?_, ?_, by simp, by simp⟩
  · intro i s hs
    rw [List.getElem?_append] at hs
    split at hs
    · rename_i hlt
      simp only [List.getElem?_map] at hs
      cases hv : args[i]? with
      | none => rw [hv] at hs; cases hs
      | some v =>
        rw [hv] at hs
        cases hs
        simp only [SlotOk]
        rw [Array.getElem?_append_left (by simpa using hlt)]
        simpa using hv
    · have := List.mem_of_getElem? hs
      rw [List.mem_replicate] at this
      rw [this.2]; trivial
  · intro i j cs cs' p hi
    rw [List.getElem?_append] at hi
    split at hi
    · simp only [List.getElem?_map] at hi
      cases hv : args[i]? with
      | none => rw [hv] at hi; cases hi
      | some v => rw [hv] at hi; cases hi
    · have := List.mem_of_getElem? hi
      rw [List.mem_replicate] at this
      cases this.2

/-- The end of a function that has returned: its marks are taken off. -/
theorem leave_ret {fn : Func} {f : FuncId} {l : List Deferred} {Q : Value → Heap → Prop} {b : Frame} {todo : List Item} {cs : List Frame} (hb : b.fn = f) (hkind : b.kind = .normal) (hf : P.funcs[f]? = some fn) (r' : Rel H0 w0 env H a w) (hl : a.defers = l ++ [])
    (hc : ∀ d ∈ l, ∃ r, d.target = .collected r) (hres : resK P env H fn.results.toList fun vs => Q (resV vs) H) :
    ∃ v w' fr, (Turns H0 w0 H w' ∧ Q v H) ∧ Steps P (lone { b.at a todo with mode := .returning } cs w) (lone fr cs w') ∧ fr.fn = f ∧ fr.leaving P w' (.returned v) := by
  rw [List.append_nil] at hl
  obtain ⟨rs, hrs, hm⟩ := marks_of r'.marks (l := l) (fun d hd => hl ▸ hd) (hl ▸ r'.marksApart) hc
  obtain ⟨t, h1, h2⟩ := take_marks ⟨r'.agree, r'.kept⟩ hm
  obtain ⟨vs, hqv, hrun⟩ := resK_iff r' hres
  have hst := steps_take (P := P) (fr := { b.at a todo with mode := .returning }) (cs := cs) (ds := []) (by simp) rs (w := w) (by simp only [Frame.at, List.append_nil]; rw [hl, hrs]) hm.1 (fun q hq => (hm.2 q hq).2.2)
  exact ⟨resV vs, taken w rs, _, ⟨t, hqv⟩, hst, hb, rfl, rfl, hkind, fn, hb ▸ hf, run_results (hrun _ h1 h2)⟩

/-- **From the deep reading to the call.** -/
theorem hcalls_of {f : FuncId} {fn : Func} {pv : List Nat} {ann : Ann} {args : List Value} {H : Heap} {Q : Value → Heap → Prop} (hf : P.funcs[f]? = some fn)
    (hname : (fn.name == "runtime.NumGoroutine") = false) (h : fnPT P pv ann fn args H Q) : HCalls P f args.toArray H Q := by
  unfold fnPT at h
  simp only [forceK_eq] at h
  split at h
  · rename_i c hb
    refine ⟨⟨fn, hf, by simp [hb], hname⟩, fun w hw => ?_⟩
    intro cs
    let b : Frame := { (default : Frame) with fn := f, kind := .normal }
    have henter : Frame.enter P f args.toArray .normal =
        b.at { tmps := args.toArray ++ Array.replicate (fn.ntmps - args.toArray.size) undef, defers := [] } [.code c] := by
      simp [Frame.enter, Frame.at, hf, hb, b]
    obtain ⟨e, a', w', ⟨env', H', r', hq, u'⟩, harr⟩ := (wpIn_wide (n := 0)).1 (awp_sound c (ro := none) (.inl rfl) h (rel_start hw)) b [] cs
    rw [← henter] at harr
    obtain ⟨⟨l, hl, hc⟩, _⟩ := u'.defers
    cases e with
    | normal =>
      obtain ⟨v, w2, fr, ⟨ht, hv⟩, hs, h1, h2⟩ := leave_ret (b := b) (todo := []) (cs := cs) rfl rfl hf r' hl hc hq
      exact ⟨_, w2, fr, ⟨v, H', rfl, ht, hv⟩, (Steps.trans harr (.one step_end)).trans hs, h1, h2⟩
    | ret =>
      obtain ⟨todo, hs0⟩ := harr
      obtain ⟨v, w2, fr, ⟨ht, hv⟩, hs, h1, h2⟩ := leave_ret (b := b) (todo := todo) (cs := cs) rfl rfl hf r' hl hc hq
      exact ⟨_, w2, fr, ⟨v, H', rfl, ht, hv⟩, hs0.trans hs, h1, h2⟩
    | exit id => exact hq.elim
    | goto l => exact hq.elim
    | panic ch => exact hq.elim
    | outgrown => exact hq.elim
  · exact h.elim

end
end Go.Ab
