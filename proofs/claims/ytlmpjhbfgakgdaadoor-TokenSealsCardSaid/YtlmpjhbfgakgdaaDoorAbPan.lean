/- Functions that may panic, that defer, that recover. -/
import Derived.Test.YtlmpjhbfgakgdaaDoorAbFn
import Derived.Recover
namespace Go.Ab
variable {ro : Option Nat}
set_option linter.unusedVariables false
set_option linter.unusedSimpArgs false

abbrev fnPTP (P : Program) (pv : List Nat) (ann : Ann) (fn : Func) (args : List Value) (H : Heap) (Q : Value → Heap → Prop) (R : List PanicEntry → Heap → Prop) : Prop :=
  match fn.body with
  | some c => forceK (args.map .val ++ List.replicate (fn.ntmps - args.length) .unk) fun env => awp P pv ann c (List.range fn.ntmps) (fun e env' H' => match e with
      | .normal => resK P env' H' fn.results.toList fun vs => Q (resV vs) H'
      | .ret => resK P env' H' fn.results.toList fun vs => Q (resV vs) H'
      | .panic ch => R ch H'
      | _ => False) env H
  | none => False

/-- A mode in which a frame leaves. -/
def leaveMode : Option (List PanicEntry) → FrameMode
  | none => .returning
  | some ch => .panicking ch

/-- A deferred call that comes to its end, the panic recovered. -/
def DCalls (P : Program) (f : FuncId) (args : Array Value) (u : Option (List PanicEntry)) (H : Heap) (k : Heap → Prop) : Prop :=
  enters P f ∧ ∀ w, Agree H w → CallsD P f args (leaveMode u) w fun e u' w' => ∃ v H', e = .returned v ∧ settle u' = .returning ∧ Turns H w H' w' ∧ k H'

def callD (P : Program) (fv : Value) (u : Option (List PanicEntry)) (H : Heap) (k : Heap → Prop) : Prop :=
  match fv with
  | .func (.func f) first captured => DCalls P f (first ++ captured) u H k
  | _ => False

theorem DCalls.mono {P : Program} {f : FuncId} {args : Array Value} {u : Option (List PanicEntry)} {H : Heap} {k k' : Heap → Prop} (h : DCalls P f args u H k) (hk : ∀ H', k H' → k' H') : DCalls P f args u H k' :=
  ⟨h.1, fun w hw => (h.2 w hw).mono fun e u' w' ⟨v, H', he, hs, ht, hh⟩ => ⟨v, H', he, hs, ht, hk _ hh⟩⟩

theorem callD_of {P : Program} {f : FuncId} {args : List Value} {u : Option (List PanicEntry)} {H : Heap} {k : Heap → Prop} (h : DCalls P f args.toArray u H k) : callD P (.func (.func f) #[] args.toArray) u H k := by
  unfold callD; simpa using h

/-- The end of a function that has one deferred call. -/
abbrev endD (P : Program) (fn : Func) (fv : Value) (Q : Value → Heap → Prop) (u : Option (List PanicEntry)) (env : Env) (H : Heap) : Prop :=
  callD P fv u H fun H' => resK P env H' fn.results.toList fun vs => Q (resV vs) H'

/-- A function that defers one call, behind a part that may return before. -/
abbrev fnPTD (P : Program) (pv : List Nat) (ann : Ann) (fn : Func) (args : List Value) (H : Heap) (Q : Value → Heap → Prop) : Prop :=
  match fn.body with
  | some (.seq r0 (.seq A (.seq (.region id ops false) rest))) => (match ops.toList with
    | [o1, o2] => (match o1.guard, o2.guard, o2.dst, o2.op with
      | none, none, none, .defer c => (match c.callee, c.args.toList with
        | .value x, [] => forceK (args.map .val ++ List.replicate (fn.ntmps - args.length) .unk) fun env => awp P pv ann r0 (List.range fn.ntmps) (fun e env1 H1 => match e with
            | .normal => awp P pv ann A (List.range fn.ntmps) (fun e env2 H2 => match e with
              | .normal => awpOp P none pv (List.range fn.ntmps) o1 env2 H2 fun env3 H3 => opd env3 x fun fv => (match fv with
                | .func (.func g) first captured => awp P pv ann rest (List.range fn.ntmps) (fun e env4 H4 => match e with
                  | .normal => endD P fn (.func (.func g) first captured) Q none env4 H4
                  | .ret => endD P fn (.func (.func g) first captured) Q none env4 H4
                  | .panic ch => endD P fn (.func (.func g) first captured) Q (some ch) env4 H4
                  | _ => False) env3 H3
                | _ => False)
              | .ret => resK P env2 H2 fn.results.toList fun vs => Q (resV vs) H2
              | _ => False) env1 H1
            | _ => False) env H
        | _, _ => False)
      | _, _, _, _ => False)
    | _ => False)
  | _ => False

/-- A deferred function that recovers at its beginning: what it is given is told. -/
abbrev fnPTR (P : Program) (pv : List Nat) (ann : Ann) (fn : Func) (args : List Value) (x : Value) (H : Heap) (k : Heap → Prop) : Prop :=
  match fn.body with
  | some (.seq (.region id ops false) rest) => (match ops.toList with
    | [o] => (match o.guard, o.op with
      | none, .call c => (match c.callee, c.args.toList with
        | .builtin .recover, [] => forceK (args.map .val ++ List.replicate (fn.ntmps - args.length) .unk) fun env => putS env o.dst (.val x) fun env => awp P pv ann rest (List.range fn.ntmps) (fun e env' H' => match e with
            | .normal => resK P env' H' fn.results.toList fun vs => k H'
            | .ret => resK P env' H' fn.results.toList fun vs => k H'
            | _ => False) env H
        | _, _ => False)
      | _, _ => False)
    | _ => False)
  | _ => False

section
variable {P : Program} {H0 : Heap} {w0 : World} {env : Env} {H : Heap} {a : Act} {w : World}

theorem leave_panic {fn : Func} {f : FuncId} {l : List Deferred} {ch : List PanicEntry} {b : Frame} {todo : List Item} {cs : List Frame} (hb : b.fn = f) (hf : P.funcs[f]? = some fn) (r' : Rel H0 w0 env H a w) (hl : a.defers = l ++ [])
    (hc : ∀ d ∈ l, ∃ r, d.target = .collected r) :
    ∃ w' fr, Turns H0 w0 H w' ∧ Steps P (lone { b.at a todo with mode := .panicking ch } cs w) (lone fr cs w') ∧ fr.fn = f ∧ fr.leaving P w' (.panicked ch) := by
  rw [List.append_nil] at hl
  obtain ⟨rs, hrs, hm⟩ := marks_of r'.marks (l := l) (fun d hd => hl ▸ hd) (hl ▸ r'.marksApart) hc
  obtain ⟨t, h1, h2⟩ := take_marks ⟨r'.agree, r'.kept⟩ hm
  have hst := steps_take (P := P) (fr := { b.at a todo with mode := .panicking ch }) (cs := cs) (ds := []) (by simp) rs (w := w) (by simp only [Frame.at, List.append_nil]; rw [hl, hrs]) hm.1 (fun q hq => (hm.2 q hq).2.2)
  exact ⟨taken w rs, _, t, hst, hb, rfl, rfl, fn, hb ▸ hf⟩

/-- **A function that may panic.** -/
theorem hcallsP_of {f : FuncId} {fn : Func} {pv : List Nat} {ann : Ann} {args : List Value} {H : Heap} {Q : Value → Heap → Prop} {R : List PanicEntry → Heap → Prop} (hf : P.funcs[f]? = some fn)
    (hname : (fn.name == "runtime.NumGoroutine") = false) (h : fnPTP P pv ann fn args H Q R) : HCallsP P f args.toArray H Q R := by
  unfold fnPTP at h
  simp only [forceK_eq] at h
  split at h
  · rename_i c hb
    refine ⟨⟨fn, hf, by simp [hb], hname⟩, fun w hw => ?_⟩
    intro cs
    let b : Frame := { (default : Frame) with fn := f, kind := .normal }
    have henter : Frame.enter P f args.toArray .normal =
        b.at { tmps := args.toArray ++ Array.replicate (fn.ntmps - args.toArray.size) undef, defers := [] } [.code c] := by
      simp [Frame.enter, Frame.at, hf, hb, b]
    obtain ⟨e, a', w', ⟨env', H', r', hq, u'⟩, harr⟩ := (wpIn_wide (n := 0)).1 (awp_sound c (ro := none) (.inl rfl) h (rel_start hw)) b [] cs
    rw [← henter] at harr
    obtain ⟨⟨l, hl, hc⟩, _⟩ := u'.defers
    cases e with
    | normal =>
      obtain ⟨v, w2, fr, ⟨ht, hv⟩, hs, h1, h2⟩ := leave_ret (b := b) (todo := []) (cs := cs) rfl rfl hf r' hl hc hq
      exact ⟨_, w2, fr, ⟨H', ht, .inl ⟨v, rfl, hv⟩⟩, (Steps.trans harr (.one step_end)).trans hs, h1, h2⟩
    | ret =>
      obtain ⟨todo, hs0⟩ := harr
      obtain ⟨v, w2, fr, ⟨ht, hv⟩, hs, h1, h2⟩ := leave_ret (b := b) (todo := todo) (cs := cs) rfl rfl hf r' hl hc hq
      exact ⟨_, w2, fr, ⟨H', ht, .inl ⟨v, rfl, hv⟩⟩, hs0.trans hs, h1, h2⟩
    | exit id => exact hq.elim
    | goto l => exact hq.elim
    | panic ch =>
      obtain ⟨todo, hs0⟩ := harr
      obtain ⟨w2, fr, ht, hs, h1, h2⟩ := leave_panic (b := b) (todo := todo) (cs := cs) (ch := ch) rfl hf r' hl hc
      exact ⟨_, w2, fr, ⟨H', ht, .inr ⟨ch, rfl, hq⟩⟩, hs0.trans hs, h1, h2⟩
    | outgrown => exact hq.elim
  · exact h.elim

theorem Rel.taken {w2 : World} (r : Rel H0 w0 env H a w) (t : Turns H0 w0 H w2) (hc : ∀ (b : Nat) (c : Array Value) (e : TypeId), w.heap[b]? = some (Obj.cells c e (0, 0)) → w2.heap[b]? = some (Obj.cells c e (0, 0))) :
    Rel H0 w0 env H { a with defers := [] } w2 := by
  refine ⟨t.agree, t.kept, r.len, ?_, r.apart, by simp, by simp⟩
  intro i s hs
  have := r.ok i s hs
  cases s with
  | unk => trivial
  | val v => exact this
  | priv cs =>
    obtain ⟨b, e, h1, h2, h3, h4⟩ := this
    exact ⟨b, e, h1, h2, h3, hc _ _ _ h4⟩
  | ref q off => exact this

/-- The end of a function with one deferred call. -/
theorem leave_defer {fn : Func} {f g : FuncId} {first captured : Array Value} {l l0 : List Deferred} {u : Option (List PanicEntry)} {Q : Value → Heap → Prop} {b : Frame} {todo : List Item} {cs : List Frame} (hb : b.fn = f) (hkind : b.kind = .normal) (hf : P.funcs[f]? = some fn)
    (r' : Rel H0 w0 env H a w) (hl : a.defers = l ++ { target := .fn (.func g) captured, args := first } :: l0) (hc : ∀ d ∈ l, ∃ r, d.target = .collected r) (hc0 : ∀ d ∈ l0, ∃ r, d.target = .collected r)
    (h : endD P fn (.func (.func g) first captured) Q u env H) :
    ∃ v H' w' fr, (Turns H0 w0 H' w' ∧ Q v H') ∧ Steps P (lone { b.at a todo with mode := leaveMode u } cs w) (lone fr cs w') ∧ fr.fn = f ∧ fr.leaving P w' (.returned v) := by
  have hmr : leaveMode u ≠ .run := by cases u <;> simp [leaveMode]
  have hap := r'.marksApart
  rw [hl] at hap
  obtain ⟨hap1, hap2, hap3⟩ := List.pairwise_append.1 hap
  have hap2 := (List.pairwise_cons.1 hap2).2
  obtain ⟨rs, hrs, hm⟩ := marks_of r'.marks (l := l) (fun d hd => by rw [hl]; simp [hd]) hap1 hc
  obtain ⟨rs0, hrs0, hm0⟩ := marks_of r'.marks (l := l0) (fun d hd => by rw [hl]; simp [hd]) hap2 hc0
  obtain ⟨t1, h1, h2⟩ := take_marks ⟨r'.agree, r'.kept⟩ hm
  have hst := steps_take (P := P) (fr := { b.at a todo with mode := leaveMode u }) (cs := cs) (ds := { target := .fn (.func g) captured, args := first } :: l0) hmr rs (w := w) (by simp only [Frame.at]; rw [hl, hrs]) hm.1 (fun q hq => (hm.2 q hq).2.2)
  obtain ⟨w1, hw1⟩ : ∃ w1, taken w rs = w1 := ⟨_, rfl⟩
  have hm1 : ∀ q ∈ rs0, w1.heap[q]? = some (.deferred (some [])) := fun q hq => by
    rw [← hw1, taken_get w rs q (fun hin => hap3 (mark q) (by rw [hrs]; exact List.mem_map.2 ⟨q, hin, rfl⟩) (mark q) (by rw [hrs0]; exact List.mem_cons_of_mem _ (List.mem_map.2 ⟨q, hq, rfl⟩)) q rfl rfl)]
    exact (hm0.2 q hq).2.2
  rw [hw1] at t1 h1 h2 hst
  unfold endD callD at h
  obtain ⟨⟨fd, hfd, hbody, hname⟩, hcall⟩ := h
  have hbn : fd.body.isNone = false := by cases hb : fd.body <;> simp_all
  have hinv : (invoke (.fn (.func g) captured) first).run P w1 = .ok (.enter g (first ++ captured)) w1 := by
    simp only [invoke, callFunc, run_program, Sem.run_bind, hfd, hname, Result.andThen_ok, Bool.false_eq_true, if_false, hbn, Sem.run_pure]
  have hsd := step_defer (P := P) (fr := { b.at a todo with mode := leaveMode u, defers := { target := .fn (.func g) captured, args := first } :: l0 }) (cs := cs) (w := w1) hmr rfl rfl hinv
  obtain ⟨e, u', w2, frX, ⟨v, H2, rfl, hset, t2, hres⟩, hsteps, hkX, hgo⟩ := hcall w1 t1.agree { b.at a todo with mode := leaveMode u, defers := l0 } cs rfl
  have hgr := step_going_returned (c := { b.at a todo with mode := u', defers := l0 }) (cs := cs) hkX hgo
  rw [show settle ({ b.at a todo with mode := u', defers := l0 } : Frame).mode = .returning from hset] at hgr
  have hm2 : Marked H0 H2 w2 rs0 := ⟨hm0.1, fun q hq => by
    obtain ⟨k1, k2⟩ := t2.kept.tombs q (hm0.2 q hq).2.1
    exact ⟨(hm0.2 q hq).1, k1, k2.trans (hm1 q hq)⟩⟩
  obtain ⟨t3, h3, h4⟩ := take_marks (t1.trans t2) hm2
  have hst2 := steps_take (P := P) (fr := { b.at a todo with mode := .returning, defers := l0 }) (cs := cs) (ds := []) (by simp) rs0 (w := w2) (by simp [hrs0]) hm2.1 (fun q hq => (hm2.2 q hq).2.2)
  have r2 := (r'.taken t1 h2).turn t2
  obtain ⟨vs, hqv, hrun⟩ := resK_iff r2 hres
  exact ⟨resV vs, H2, taken w2 rs0, _, ⟨t3, hqv⟩, hst.trans (.head hsd (Steps.trans hsteps (.head hgr hst2))), hb, rfl, rfl, hkind, fn, hb ▸ hf, run_results (hrun _ h3 h4)⟩

/-- Where a function that defers one call comes. -/
def EndsD (P : Program) (fn : Func) (Q : Value → Heap → Prop) (H0 : Heap) (w0 : World) (e : Exit) (a' : Act) (w' : World) : Prop :=
  ∃ l l0 env' H', Rel H0 w0 env' H' a' w' ∧ (∀ d ∈ l, ∃ r, d.target = .collected r) ∧ (∀ d ∈ l0, ∃ r, d.target = .collected r) ∧
    ((e = .ret ∧ a'.defers = l ++ [] ∧ resK P env' H' fn.results.toList fun vs => Q (resV vs) H') ∨
     ∃ g first captured, a'.defers = l ++ { target := .fn (.func g) captured, args := first } :: l0 ∧ ((e = .normal ∨ e = .ret) ∧ endD P fn (.func (.func g) first captured) Q none env' H' ∨ ∃ ch, e = .panic ch ∧ endD P fn (.func (.func g) first captured) Q (some ch) env' H'))

/-- **A function that defers one call, by which panics are recovered.** -/
theorem hcallsD_of {f : FuncId} {fn : Func} {pv : List Nat} {ann : Ann} {args : List Value} {H : Heap} {Q : Value → Heap → Prop} (hf : P.funcs[f]? = some fn)
    (hname : (fn.name == "runtime.NumGoroutine") = false) (h : fnPTD P pv ann fn args H Q) : HCalls P f args.toArray H Q := by
  unfold fnPTD at h
  simp only [forceK_eq] at h
  split at h
  · rename_i r0 A id ops rest hb
    split at h
    · rename_i o1 o2 hops
      split at h
      · rename_i c hg1 hg2 hdst hop
        split at h
        · rename_i x hx hargs
          refine ⟨⟨fn, hf, by simp [hb], hname⟩, fun w hw => ?_⟩
          intro cs
          let b : Frame := { (default : Frame) with fn := f, kind := .normal }
          have henter : Frame.enter P f args.toArray .normal =
              b.at { tmps := args.toArray ++ Array.replicate (fn.ntmps - args.toArray.size) undef, defers := [] } [.code (.seq r0 (.seq A (.seq (.region id ops false) rest)))] := by
            simp [Frame.enter, Frame.at, hf, hb, b]
          have main : (Code.seq r0 (.seq A (.seq (.region id ops false) rest))).wpIn (FW none) 0 P (EndsD P fn Q H w) { tmps := args.toArray ++ Array.replicate (fn.ntmps - args.toArray.size) undef, defers := [] } w := by
            refine wpIn_seq (wpIn_mono (awp_sound r0 (ro := none) (.inl rfl) h (rel_start hw)) ?_)
            rintro e a1 w1 ⟨env1, H1, r1, h1, u1⟩
            cases e with
            | normal =>
              refine wpIn_seq (wpIn_mono (awp_sound A (ro := none) (.inl rfl) h1 r1) ?_)
              rintro e a2 w2 ⟨env2, H2, r2, h2, u2⟩
              have hgr := u1.defers.trans u2.defers
              obtain ⟨⟨l0, hl0, hc0⟩, _⟩ := hgr
              cases e with
              | normal =>
                refine wpIn_seq (wpIn_region_list ?_)
                rw [hops]
                unfold wpListIn
                rw [if_pos (by simp [Region.wanted, hg1])]
                refine Oper.wpIn_mono (fun a3 w3 hp => ?_) (awpOp_sound (ro := none) h2 r2 fun R0 e => by cases e)
                obtain ⟨env3, H3, r3, h3, u3⟩ := hp
                obtain ⟨fv, hfv, h3⟩ := opd_iff h3
                obtain ⟨⟨l1, hl1, hc1⟩, _⟩ := u3.defers
                unfold wpListIn
                rw [if_pos (by simp [Region.wanted, hg2])]
                split at h3
                · rename_i g first captured
                  have hx' := r3.eval hfv
                  have hr : (o2.semAt (FW none).round a3.eval).run P w3 = .ok (.defer { target := .fn (.func g) captured, args := first }) w3 := by
                    obtain ⟨callee, as, ts⟩ := c
                    simp only at hx hargs
                    have has : as = #[] := by simpa using hargs
                    subst hx has
                    show (Oper.semAt none a3.eval o2).run P w3 = _
                    rw [Oper.semAt_none]
                    unfold execOp
                    rw [hop]
                    simp [resolve, hx', Deferred.ofValue]
                  refine ⟨fun _ _ => trivial, ?_⟩
                  rw [hr, Oper.uponIn_defer, hdst]
                  unfold wpListIn
                  have r4 : Rel H w env3 H3 { a3 with defers := { target := .fn (.func g) captured, args := first } :: a3.defers } w3 :=
                    ⟨r3.agree, r3.kept, r3.len, r3.ok, r3.apart, fun d hd => (List.mem_cons.1 hd).elim (fun e => .inr ⟨.func g, captured, by rw [e]⟩) (r3.marks d),
                      List.pairwise_cons.2 ⟨fun d _ r e => (by cases e), r3.marksApart⟩⟩
                  refine wpIn_mono (awp_sound rest (ro := none) (.inl rfl) h3 r4) ?_
                  rintro e a5 w5 ⟨env5, H5, r5, h5, u5⟩
                  obtain ⟨⟨l5, hl5, hc5⟩, _⟩ := u5.defers
                  have hold : ∀ d ∈ a3.defers, ∃ r, d.target = .collected r := fun d hd => by
                    rw [hl1, hl0] at hd
                    simp only [List.append_nil] at hd
                    exact (List.mem_append.1 hd).elim (hc1 d) (hc0 d)
                  cases e with
                  | normal => exact ⟨l5, a3.defers, env5, H5, r5, hc5, hold, .inr ⟨g, first, captured, hl5, .inl ⟨.inl rfl, h5⟩⟩⟩
                  | ret => exact ⟨l5, a3.defers, env5, H5, r5, hc5, hold, .inr ⟨g, first, captured, hl5, .inl ⟨.inr rfl, h5⟩⟩⟩
                  | panic ch => exact ⟨l5, a3.defers, env5, H5, r5, hc5, hold, .inr ⟨g, first, captured, hl5, .inr ⟨ch, rfl, h5⟩⟩⟩
                  | _ => exact h5.elim
                · exact h3.elim
              | ret =>
                exact ⟨l0, [], env2, H2, r2, hc0, by simp, .inl ⟨rfl, hl0, h2⟩⟩
              | _ => exact h2.elim
            | _ => exact h1.elim
          obtain ⟨e, a', w', hq, harr⟩ := (wpIn_wide (n := 0)).1 main b [] cs
          rw [← henter] at harr
          obtain ⟨l, l0, env', H', r', hc, hc0, hq⟩ := hq
          rcases hq with ⟨rfl, hl, hres⟩ | ⟨g, first, captured, hl, hq⟩
          · obtain ⟨todo, hs0⟩ := harr
            obtain ⟨v, w2, fr, ⟨ht, hv⟩, hs, h1, h2⟩ := leave_ret (b := b) (todo := todo) (cs := cs) rfl rfl hf r' hl hc hres
            exact ⟨_, w2, fr, ⟨v, H', rfl, ht, hv⟩, hs0.trans hs, h1, h2⟩
          · rcases hq with ⟨he, hq⟩ | ⟨ch, he, hq⟩
            · rcases he with he | he <;> subst he
              · obtain ⟨v, H2, w2, fr, ⟨ht, hv⟩, hs, h1, h2⟩ := leave_defer (b := b) (todo := []) (cs := cs) (u := none) rfl rfl hf r' hl hc hc0 hq
                exact ⟨_, w2, fr, ⟨v, H2, rfl, ht, hv⟩, (Steps.trans harr (.one step_end)).trans hs, h1, h2⟩
              · obtain ⟨todo, hs0⟩ := harr
                obtain ⟨v, H2, w2, fr, ⟨ht, hv⟩, hs, h1, h2⟩ := leave_defer (b := b) (todo := todo) (cs := cs) (u := none) rfl rfl hf r' hl hc hc0 hq
                exact ⟨_, w2, fr, ⟨v, H2, rfl, ht, hv⟩, hs0.trans hs, h1, h2⟩
            · subst he
              obtain ⟨todo, hs0⟩ := harr
              obtain ⟨v, H2, w2, fr, ⟨ht, hv⟩, hs, h1, h2⟩ := leave_defer (b := b) (todo := todo) (cs := cs) (u := some ch) rfl rfl hf r' hl hc hc0 hq
              exact ⟨_, w2, fr, ⟨v, H2, rfl, ht, hv⟩, hs0.trans hs, h1, h2⟩
        · exact h.elim
      · exact h.elim
    · exact h.elim
  · exact h.elim

/-- **A deferred function that recovers.** -/
theorem dcalls_of {f : FuncId} {fn : Func} {pv : List Nat} {ann : Ann} {args : List Value} {x : Value} {u : Option (List PanicEntry)} {H : Heap} {k : Heap → Prop} (hf : P.funcs[f]? = some fn)
    (hname : (fn.name == "runtime.NumGoroutine") = false) (h : fnPTR P pv ann fn args x H k)
    (hu : (u = none ∧ x = .nilIface) ∨ u = some [{ v := x, recovered := false }]) : DCalls P f args.toArray u H k := by
  unfold fnPTR at h
  simp only [forceK_eq] at h
  split at h
  · rename_i id ops rest hb
    split at h
    · rename_i o hops
      split at h
      · rename_i c hg hop
        split at h
        · rename_i hx hargs
          refine ⟨⟨fn, hf, by simp [hb], hname⟩, fun w hw => ?_⟩
          intro c₀ cs hu0
          let b : Frame := { (default : Frame) with fn := f, kind := .deferred }
          have henter : Frame.enter P f args.toArray .deferred =
              b.at { tmps := args.toArray ++ Array.replicate (fn.ntmps - args.toArray.size) undef, defers := [] } [.code (.seq (.region id ops false) rest)] := by
            simp [Frame.enter, Frame.at, hf, hb, b]
          obtain ⟨a0, ha0⟩ : ∃ a0 : Act, { tmps := args.toArray ++ Array.replicate (fn.ntmps - args.toArray.size) undef, defers := [] } = a0 := ⟨_, rfl⟩
          have r0 : Rel H w (args.map .val ++ List.replicate (fn.ntmps - args.length) .unk) H a0 w := ha0 ▸ rel_start hw
          have hd0 : a0.defers = [] := by rw [← ha0]
          rw [ha0] at henter
          obtain ⟨u', hset, hrec⟩ : ∃ u', settle u' = .returning ∧ ((recoverD (c₀ :: cs) = none ∧ x = .nilIface ∧ u' = leaveMode u) ∨ recoverD (c₀ :: cs) = some (x, { c₀ with mode := u' } :: cs)) := by
            rcases hu with ⟨rfl, rfl⟩ | rfl
            · refine ⟨.returning, rfl, .inl ⟨?_, rfl, rfl⟩⟩
              simp only [recoverD, hu0, leaveMode]
            · refine ⟨.panicking [{ v := x, recovered := true }], rfl, .inr ?_⟩
              simp only [recoverD, hu0, leaveMode]
          have hexec : ∀ w, (execOp a0.eval o).run P w = .ok .recover w := by
            intro w
            obtain ⟨callee, as, ts⟩ := c
            simp only at hx hargs
            have has : as = #[] := by simpa using hargs
            subst hx has
            unfold execOp
            rw [hop]
            simp [resolve, invoke, builtin]
          obtain ⟨env1, H1, r1, ⟨hH1, h1⟩, u1⟩ := put_val (ro := none) (k := fun env' H' => H' = H ∧ awp P pv ann rest (List.range fn.ntmps) (fun e env' H' => match e with
              | .normal => resK P env' H' fn.results.toList fun vs => k H'
              | .ret => resK P env' H' fn.results.toList fun vs => k H'
              | _ => False) env' H') (wr := []) r0 (.refl r0.agree) (putS_mono (s := .val x) h fun _ h => ⟨rfl, h⟩)
          have hc0 : ({ c₀ with mode := leaveMode u } : Frame) = c₀ := by rw [← hu0]
          have hwp : (Code.seq (.region id ops false) rest).wpS P (fun e a' cs' w' => cs' = { c₀ with mode := u' } :: cs ∧ CPost none H w (mods rest) (List.range fn.ntmps) env1 (a0.put o.dst x) (fun e env' H' => match e with
              | .normal => resK P env' H' fn.results.toList fun vs => k H'
              | .ret => resK P env' H' fn.results.toList fun vs => k H'
              | _ => False) e a' w') a0 (c₀ :: cs) w := by
            refine wpS_seq (wpS_region ?_)
            have hsz : ops.size = 1 := by rw [← Array.length_toList, hops]; rfl
            have hget : ops[0]? = some o := by rw [← Array.getElem?_toList, hops]; rfl
            rw [hsz, show List.range 1 = [0] from rfl]
            have hw' : Region.wanted o (yielded ops a0.tmps) = true := by simp [Region.wanted, hg]
            simp only [wpOpsS, hget, hw', if_true, hexec]
            have go : rest.wpS P (fun e a' cs' w' => cs' = { c₀ with mode := u' } :: cs ∧ CPost none H w (mods rest) (List.range fn.ntmps) env1 (a0.put o.dst x) (fun e env' H' => match e with
              | .normal => resK P env' H' fn.results.toList fun vs => k H'
              | .ret => resK P env' H' fn.results.toList fun vs => k H'
              | _ => False) e a' w') (a0.put o.dst x) ({ c₀ with mode := u' } :: cs) w := by
              refine wpS_of_wp ((wpIn_wide (n := 0)).1 (wpIn_mono (awp_sound rest (ro := none) (.inl rfl) h1 r1) ?_))
              intro e a' w' hp
              exact ⟨rfl, hp⟩
            rcases hrec with ⟨hrec, rfl, hu'⟩ | hrec
            · rw [hrec]
              simp only [Exit.thenS]
              rw [hu', hc0] at go
              rw [hu', hc0]
              exact go
            · rw [hrec]
              simp only [Exit.thenS]
              exact go
          obtain ⟨e, a', cs', w', ⟨rfl, env', H', r', hq, u3⟩, harr⟩ := hwp b [] rfl rfl
          rw [← henter] at harr
          obtain ⟨⟨l, hl, hc⟩, _⟩ := (u1.defers.trans u3.defers)
          rw [hd0, List.append_nil] at hl
          have fin : ∀ (todo : List Item), Steps P (lone (Frame.enter P f args.toArray .deferred) (c₀ :: cs) w) (lone { b.at a' todo with mode := .returning } ({ c₀ with mode := u' } :: cs) w') →
              (resK P env' H' fn.results.toList fun vs => k H') →
              ∃ e u'' w'' fr, (∃ v H', e = .returned v ∧ settle u'' = .returning ∧ Turns H w H' w'' ∧ k H') ∧ Comes P (lone (Frame.enter P f args.toArray .deferred) (c₀ :: cs) w) (lone fr ({ c₀ with mode := u'' } :: cs) w'') e ∧ fr.kind = .deferred ∧ fr.going P w'' e := by
            intro todo hsteps hres
            obtain ⟨rs, hrs, hm⟩ := marks_of r'.marks (l := l) (fun d hd => hl ▸ hd) (hl ▸ r'.marksApart) hc
            obtain ⟨t, k1, k2⟩ := take_marks ⟨r'.agree, r'.kept⟩ hm
            obtain ⟨vs, hqv, hrun⟩ := resK_iff r' hres
            have hst := steps_take (P := P) (fr := { b.at a' todo with mode := .returning }) (cs := { c₀ with mode := u' } :: cs) (ds := []) (by simp) rs (w := w') (by simp only [Frame.at, List.append_nil]; rw [hl, hrs]) hm.1 (fun q hq => (hm.2 q hq).2.2)
            exact ⟨.returned (resV vs), u', taken w' rs, _, ⟨_, H', rfl, hset, t, hqv⟩, hsteps.trans hst, rfl, rfl, rfl, fn, hf, run_results (hrun _ k1 k2)⟩
          cases e with
          | normal => exact fin [] (Steps.trans harr (.one step_end)) hq
          | ret =>
            obtain ⟨todo, hs0⟩ := harr
            exact fin todo hs0 hq
          | _ => exact hq.elim
        · exact h.elim
      · exact h.elim
    · exact h.elim
  · exact h.elim

end
end Go.Ab
