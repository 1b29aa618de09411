/- Each operation of the deep reading is sound. -/
import Derived.Test.YtlmpjhbfgakgdaaDoorAbAwp
namespace Go.Ab
variable {ro : Option Nat}
set_option linter.unusedVariables false
set_option linter.unusedSimpArgs false

theorem cellsU_iff {agg : Bool} {n : Nat} {v : Value} {k : List Value → Prop} (h : cellsU agg n v k) : k v.cells.toList := by
  unfold cellsU at h
  cases agg with
  | true =>
    simp only at h
    split at h
    · exact (ifB_iff h).2
    · exact h.elim
  | false =>
    obtain ⟨hv, h⟩ := ifB_iff h
    have hc : v.cells = #[v] := by cases v <;> first | rfl | (simp [okc] at hv)
    rw [hc]; exact h


/-! ### What a looking operation tells is one value -/

theorem loadP_det {agg : Bool} {n : Nat} {p : Value} {H : Heap} {k : Value → Prop} (h : loadP agg n p H k) : ∃ v, k v ∧ loadP agg n p H (· = v) := by
  unfold loadP at h ⊢
  split at h
  · split at h
    · rename_i cs hcs; exact ⟨_, h, by simp only [hcs]⟩
    · exact h.elim
  · exact h.elim
theorem fldP_det {off : Nat} {p : Value} {k : Value → Prop} (h : fldP off p k) : ∃ v, k v ∧ fldP off p (· = v) := by
  unfold fldP at h ⊢
  split at h
  · exact ⟨_, h, rfl⟩
  · exact h.elim
theorem idxS_det {n : Nat} {s i : Value} {k : Value → Prop} (h : idxS n s i k) : ∃ v, k v ∧ idxS n s i (· = v) := by
  unfold idxS at h ⊢
  split at h
  · exact ⟨_, h.2, h.1, rfl⟩
  · exact h.elim
theorem idxA_det {len n : Nat} {s i : Value} {k : Value → Prop} (h : idxA len n s i k) : ∃ v, k v ∧ idxA len n s i (· = v) := by
  unfold idxA at h ⊢
  split at h
  · exact ⟨_, h.2, h.1, rfl⟩
  · exact h.elim
theorem fldV_det {agg : Bool} {o n : Nat} {x : Value} {k : Value → Prop} (h : fldV agg o n x k) : ∃ v, k v ∧ fldV agg o n x (· = v) := by
  unfold fldV at h ⊢
  split at h
  · obtain ⟨hb, h⟩ := ifB_iff h
    exact ⟨_, h, by simp only [hb, ifB]⟩
  · exact h.elim
theorem idxV_det {agg : Bool} {len n : Nat} {x i : Value} {k : Value → Prop} (h : idxV agg len n x i k) : ∃ v, k v ∧ idxV agg len n x i (· = v) := by
  unfold idxV at h ⊢
  split at h
  · exact ⟨_, h.2, h.1, rfl⟩
  · exact h.elim
theorem extractV_det {i : Nat} {x : Value} {k : Value → Prop} (h : extractV i x k) : ∃ v, k v ∧ extractV i x (· = v) := by
  unfold extractV at h ⊢
  split at h
  · split at h
    · rename_i v hv; exact ⟨_, h, by simp only [hv]⟩
    · exact h.elim
  · exact h.elim
theorem lenV_det {x : Value} {H : Heap} {k : Value → Prop} (h : lenV x H k) : ∃ v, k v ∧ lenV x H (· = v) := by
  unfold lenV at h ⊢
  split at h
  · exact ⟨_, h, rfl⟩
  · exact ⟨_, h, rfl⟩
  · exact ⟨_, h, rfl⟩
  · split at h
    · exact ⟨_, h, rfl⟩
    · exact h.elim
  · exact h.elim
theorem optI_det {o : Option Value} {d : Int} {k : Int → Prop} (h : optI o d k) : ∃ n, k n ∧ ∀ k' : Int → Prop, k' n → optI o d k' := by
  unfold optI asI at h ⊢
  split at h
  · exact ⟨_, h, fun _ h => h⟩
  · split at h
    · exact ⟨_, h, fun _ h => h⟩
    · exact h.elim
theorem slS_det {n : Nat} {s : Value} {lo hi mx : Option Value} {k : Value → Prop} (h : slS n s lo hi mx k) : ∃ v, k v ∧ slS n s lo hi mx (· = v) := by
  unfold slS at h ⊢
  split at h
  · obtain ⟨l, h, hl⟩ := optI_det h
    obtain ⟨hh, h, hhh⟩ := optI_det h
    obtain ⟨m, h, hm⟩ := optI_det h
    exact ⟨_, h.2, hl _ (hhh _ (hm _ ⟨h.1, rfl⟩))⟩
  · exact h.elim
theorem slA_det {len n : Nat} {s : Value} {lo hi mx : Option Value} {k : Value → Prop} (h : slA len n s lo hi mx k) : ∃ v, k v ∧ slA len n s lo hi mx (· = v) := by
  unfold slA at h ⊢
  split at h
  · obtain ⟨l, h, hl⟩ := optI_det h
    obtain ⟨hh, h, hhh⟩ := optI_det h
    obtain ⟨m, h, hm⟩ := optI_det h
    exact ⟨_, h.2, hl _ (hhh _ (hm _ ⟨h.1, rfl⟩))⟩
  · exact h.elim
theorem slStr_det {s : Value} {lo hi : Option Value} {k : Value → Prop} (h : slStr s lo hi k) : ∃ v, k v ∧ slStr s lo hi (· = v) := by
  unfold slStr at h ⊢
  split at h
  · obtain ⟨l, h, hl⟩ := optI_det h
    obtain ⟨hh, h, hhh⟩ := optI_det h
    exact ⟨_, h.2, hl _ (hhh _ ⟨h.1, rfl⟩)⟩
  · exact h.elim
theorem cellsV_det {agg : Bool} {n : Nat} {v : Value} {k : List Value → Prop} (h : cellsV agg n v k) : ∃ cs, k cs ∧ ∀ k' : List Value → Prop, k' cs → cellsV agg n v k' := by
  unfold cellsV at h ⊢
  cases agg with
  | true =>
    simp only at h ⊢
    split at h
    · obtain ⟨hb, h⟩ := ifB_iff h
      exact ⟨_, h, fun k' h' => by simp only [hb, ifB]; exact h'⟩
    · exact h.elim
  | false =>
    obtain ⟨hb, h⟩ := ifB_iff h
    exact ⟨_, h, fun k' h' => by simp only [hb, ifB]; exact h'⟩
theorem fillV_det {place : Nat → Option (Nat × Nat × Bool)} : ∀ {l : List (Nat × Value)} {cells : List Value} {k : List Value → Prop}, fillV place cells l k →
    ∃ cs, k cs ∧ ∀ k' : List Value → Prop, k' cs → fillV place cells l k'
  | [], cells, k, h => ⟨cells, h, fun _ h => h⟩
  | (i, v) :: rest, cells, k, h => by
    unfold fillV at h ⊢
    split at h
    · exact h.elim
    · rename_i off size agg hp
      obtain ⟨vs, h, hv⟩ := cellsV_det h
      obtain ⟨hb, h⟩ := ifB_iff h
      obtain ⟨cs, hk, hc⟩ := fillV_det h
      exact ⟨cs, hk, fun k' h' => hv _ (by simp only [hb, ifB]; exact hc k' h')⟩
theorem buildV_det {P : Program} {t : TypeId} {parts : List (Nat × Value)} {k : Value → Prop} (h : buildV P t parts k) : ∃ v, k v ∧ buildV P t parts (· = v) := by
  unfold buildV at h ⊢
  obtain ⟨cs, hk, hc⟩ := fillV_det h
  exact ⟨_, hk, hc _ rfl⟩
theorem getM_det {q : IntKind} {z m key : Value} {H : Heap} {k : Value → Bool → Prop} (h : getM q z m key H k) : ∃ v b, k v b ∧ getM q z m key H (fun v' b' => v' = v ∧ b' = b) := by
  unfold getM at h ⊢
  split at h
  · exact ⟨_, _, h, rfl, rfl⟩
  · split at h
    · rename_i es cl hb
      split at h
      · exact ⟨_, _, h, rfl, rfl⟩
      · exact ⟨_, _, h, rfl, rfl⟩
      · exact h.elim
    · exact h.elim
  · exact h.elim
theorem getM_imp {q : IntKind} {z m key : Value} {H : Heap} {k k' : Value → Bool → Prop} (h : getM q z m key H k) (hk : ∀ v b, k v b → k' v b) : getM q z m key H k' := by
  unfold getM at h ⊢
  split at h
  · exact hk _ _ h
  · split at h
    · rename_i es cl hb
      split at h
      · exact hk _ _ h
      · exact hk _ _ h
      · exact h.elim
    · exact h.elim
  · exact h.elim

theorem binV_det {d : TypeDesc} {op : BinOp} {x y : Value} {k : Value → Prop} (h : binV d op x y k) : ∃ v, k v ∧ binV d op x y (· = v) := by
  unfold binV at h ⊢
  split at h
  · rename_i v hv; exact ⟨v, h, by simp only [hv]⟩
  · exact h.elim
theorem unV_det {op : UnOp} {x : Value} {k : Value → Prop} (h : unV op x k) : ∃ v, k v ∧ unV op x (· = v) := by
  unfold unV at h ⊢
  split at h
  · rename_i v hv; exact ⟨v, h, by simp only [hv]⟩
  · exact h.elim
theorem cvBS_det {x : Value} {H : Heap} {k : Value → Prop} (h : cvBS x H k) : ∃ v, k v ∧ cvBS x H (· = v) := by
  unfold cvBS at *
  split at h
  · exact ⟨_, h, rfl⟩
  · split at h
    · exact ⟨_, h, rfl⟩
    · exact h.elim
  · exact h.elim

theorem cvI_det {q : IntKind} {x : Value} {k : Value → Prop} (h : cvI q x k) : ∃ v, k v ∧ cvI q x (· = v) := by
  unfold cvI at h ⊢
  split at h
  · exact ⟨_, h, rfl⟩
  · exact h.elim
theorem minV_det {x y : Value} {k : Value → Prop} (h : minV x y k) : ∃ v, k v ∧ minV x y (· = v) := by
  unfold minV at h ⊢
  split at h
  · exact ⟨_, h, rfl⟩
  · exact h.elim
theorem maxV_det {x y : Value} {k : Value → Prop} (h : maxV x y k) : ∃ v, k v ∧ maxV x y (· = v) := by
  unfold maxV at h ⊢
  split at h
  · exact ⟨_, h, rfl⟩
  · exact h.elim

section
variable {P : Program} {H0 : Heap} {w0 : World} {env : Env} {H : Heap} {a : Act} {w : World} {o : Oper} {wr pv : List Nat} {k : Env → Heap → Prop} {Q : Exit → Act → World → Prop}

theorem callV_sound {ro : Option Nat} {fv : Value} {vs : List Value} {ret : Value → Heap → Prop} {f : Operand} {as : List Operand} (ts : Array TypeId) (h : callV P fv vs H ret) (hf : a.eval f = fv) (hvs : as.map a.eval = vs)
    (hg : Agree H w) {next : Act → World → Prop} (hn : ∀ v H' w', Turns H w H' w' → ret v H' → next (a.put o.dst v) w')
    (ho : o.op = .call { callee := .value f, args := as.toArray, argTypes := ts }) : o.wpIn (FW ro) 0 P a w next Q := by
  unfold callV at h
  split at h
  · rename_i g first captured
    obtain ⟨⟨fn, hfn, hbody, hname⟩, hc⟩ := h
    have hr : (execOp a.eval o).run P w = .ok (.enter g (first ++ vs.toArray ++ captured)) w := by
      unfold execOp
      rw [ho]
      have hargs : (as.toArray.map a.eval) = vs.toArray := by rw [← hvs]; simp
      have hbn : fn.body.isNone = false := by cases hb : fn.body <;> simp_all
      simp only [resolve, hf, hargs, Deferred.ofValue, Sem.run_bind, Sem.run_pure, Result.andThen_ok, invoke, callFunc, run_program, hfn, hname, Bool.false_eq_true, if_false, hbn]
    refine wp_run (by rw [ho]; intro c hc; cases hc) ?_
    rw [hr, Oper.uponIn_enter]
    refine ⟨(fun h => by cases h), callsIn_fw ((hc w hg).mono fun e w' ⟨v, H', he, ht, hq⟩ => ?_)⟩
    subst he
    exact hn v H' w' ht hq
  · rename_i l first captured
    obtain ⟨fn, tmps, assign, body, h1, h2⟩ := h w hg
    have hr : (execOp a.eval o).run P w = .ok (.round l fn tmps assign body) w := by
      unfold execOp
      rw [ho]
      have hargs : (as.toArray.map a.eval) = vs.toArray := by rw [← hvs]; simp
      simp only [resolve, hf, hargs, Deferred.ofValue, Sem.run_bind, Sem.run_pure, Result.andThen_ok, invoke, Array.empty_append]
      first | exact h1 | (simp; exact h1)
    refine wp_run (by rw [ho]; intro c hc; cases hc) ?_
    rw [hr, Oper.uponIn_round]
    refine ⟨(fun h => by cases h), RoundIn.mono (F := FW ro) h2 fun e w' ⟨v, H', he, ht, hq⟩ => ?_⟩
    subst he
    exact hn v H' w' ht hq
  · exact h.elim

theorem callP_sound {ro : Option Nat} {fv : Value} {vs : List Value} {ret : Value → Heap → Prop} {R : List PanicEntry → Heap → Prop} {f : Operand} {as : List Operand} (ts : Array TypeId) (h : callP P fv vs H ret R) (hf : a.eval f = fv) (hvs : as.map a.eval = vs)
    (hg : Agree H w) {next : Act → World → Prop} (hn : ∀ v H' w', Turns H w H' w' → ret v H' → next (a.put o.dst v) w') (hp : ∀ ch H' w', Turns H w H' w' → R ch H' → Q (.panic ch) a w')
    (ho : o.op = .call { callee := .value f, args := as.toArray, argTypes := ts }) : o.wpIn (FW ro) 0 P a w next Q := by
  unfold callP at h
  split at h
  · rename_i g first captured
    obtain ⟨⟨fn, hfn, hbody, hname⟩, hc⟩ := h
    have hr : (execOp a.eval o).run P w = .ok (.enter g (first ++ vs.toArray ++ captured)) w := by
      unfold execOp
      rw [ho]
      have hargs : (as.toArray.map a.eval) = vs.toArray := by rw [← hvs]; simp
      have hbn : fn.body.isNone = false := by cases hb : fn.body <;> simp_all
      simp only [resolve, hf, hargs, Deferred.ofValue, Sem.run_bind, Sem.run_pure, Result.andThen_ok, invoke, callFunc, run_program, hfn, hname, Bool.false_eq_true, if_false, hbn]
    refine wp_run (by rw [ho]; intro c hc; cases hc) ?_
    rw [hr, Oper.uponIn_enter]
    refine ⟨(fun h => by cases h), callsIn_fw ((hc w hg).mono fun e w' ⟨H', ht, h⟩ => ?_)⟩
    rcases h with ⟨v, rfl, hq⟩ | ⟨ch, rfl, hq⟩
    · exact hn v H' w' ht hq
    · exact hp ch H' w' ht hq
  · exact h.elim

theorem invV_sound {ro : Option Nat} {rv : Value} {name : String} {vs : List Value} {ret : Value → Heap → Prop} {x : Operand} {as : List Operand} (ts : Array TypeId) (h : invV P rv name vs H ret) (hx : a.eval x = rv) (hvs : as.map a.eval = vs)
    (hg : Agree H w) {next : Act → World → Prop} (hn : ∀ v H' w', Turns H w H' w' → ret v H' → next (a.put o.dst v) w')
    (ho : o.op = .call { callee := .invoke x name, args := as.toArray, argTypes := ts }) : o.wpIn (FW ro) 0 P a w next Q := by
  unfold invV at h
  split at h
  · rename_i t v
    obtain ⟨f, r, hm, h⟩ := h
    have hargs : (as.toArray.map a.eval) = vs.toArray := by rw [← hvs]; simp
    have hrun : (execOp a.eval o).run P w = (callFunc f (#[r] ++ vs.toArray)).run P w := by
      unfold execOp
      rw [ho]
      simp only [resolve, hx, hargs, Sem.run_bind, Sem.run_pure, Result.andThen_ok, invoke]
      rw [show (#[Value.iface t v] ++ vs.toArray)[0]? = some (.iface t v) by simp]
      simp only [callMethod, Sem.run_bind, run_program, Result.andThen_ok, hm w hg]
      congr 2
      simp
    rcases h with ⟨_, h⟩ | ⟨_, h⟩
    · unfold callV at h
      simp only at h
      obtain ⟨⟨fn, hfn, hbody, hname⟩, hc⟩ := h
      have hr : (execOp a.eval o).run P w = .ok (.enter f (#[] ++ (r :: vs).toArray ++ #[])) w := by
        rw [hrun]
        have hbn : fn.body.isNone = false := by cases hb : fn.body <;> simp_all
        simp only [callFunc, Sem.run_bind, run_program, Result.andThen_ok, hfn, hname, Bool.false_eq_true, if_false, hbn, Sem.run_pure]
        simp
      refine wp_run (by rw [ho]; intro c hc; cases hc) ?_
      rw [hr, Oper.uponIn_enter]
      refine ⟨(fun h => by cases h), callsIn_fw ((hc w hg).mono fun e w' ⟨v, H', he, ht, hq⟩ => ?_)⟩
      subst he
      exact hn v H' w' ht hq
    · obtain ⟨v', H', w', hr, ht, hk⟩ := h w hg
      have e : (#[r] ++ vs.toArray) = (r :: vs).toArray := by simp
      refine wp_run (by rw [ho]; intro c hc; cases hc) ?_
      rw [hrun, e, hr]
      exact hn v' H' w' ht hk
  · exact h.elim

theorem zeroK_sound {t : TypeId} {k : Value → Prop} (h : zeroK P t k) : ∃ z, k z ∧ ∀ w, (zeroValue t).run P w = .ok z w := by
  unfold zeroK at h
  split at h
  · rename_i z hz
    refine ⟨z, h, fun w => ?_⟩
    cases hi : P.info? t with
    | none => rw [hi] at hz; cases hz
    | some i => rw [hi] at hz; exact run_zeroValue hi hz
  · exact h.elim

theorem taV_sound {xt t : TypeId} {ok : Bool} {v : Value} {k : Value → Prop} (h : taV P t ok v k) : ∃ u, k u ∧ ∀ w, (Instr.typeAssert v xt t ok).run P w = .ok u w := by
  unfold taV at h
  split at h
  · exact h.elim
  · rename_i want hu
    split at h
    · obtain ⟨rfl, h⟩ := h
      obtain ⟨z, hk, hz⟩ := zeroK_sound h
      exact ⟨_, hk, fun w => by simp [Instr.typeAssert, run_underlying hu, hz w]⟩
    · rename_i t' u
      split at h
      · exact h.elim
      · rename_i ti hti
        have hinfo : ∀ w, (typeInfo t').run P w = .ok ti w := fun w => by simp [typeInfo, hti]
        split at h
        · rename_i hm
          exact ⟨_, h, fun w => by cases ok <;> simp [Instr.typeAssert, run_underlying hu, hinfo w, hm]⟩
        · rename_i m hm
          obtain ⟨rfl, h⟩ := h
          obtain ⟨z, hk, hz⟩ := zeroK_sound h
          exact ⟨_, hk, fun w => by simp [Instr.typeAssert, run_underlying hu, hinfo w, hm, hz w]⟩
    · exact h.elim
  · rename_i d hni hu
    split at h
    · obtain ⟨rfl, h⟩ := h
      obtain ⟨z, hk, hz⟩ := zeroK_sound h
      refine ⟨_, hk, fun w => ?_⟩
      cases d <;> first | exact (hni _ hu).elim | exact (hni _ rfl).elim | exact absurd hu (hni _) | simp [Instr.typeAssert, run_underlying hu, hz w]
    · rename_i t' u
      split at h
      · rename_i he
        obtain rfl := of_decide_eq_true (p := t' = t) (by simpa using he)
        refine ⟨_, h, fun w => ?_⟩
        cases d <;> first | exact (hni _ hu).elim | exact (hni _ rfl).elim | exact absurd hu (hni _) | (cases ok <;> simp [Instr.typeAssert, run_underlying hu])
      · rename_i he
        obtain ⟨rfl, h⟩ := h
        obtain ⟨z, hk, hz⟩ := zeroK_sound h
        have hne : ¬ t' = t := by simpa using he
        refine ⟨_, hk, fun w => ?_⟩
        cases d <;> first | exact (hni _ hu).elim | exact (hni _ rfl).elim | exact absurd hu (hni _) | simp [Instr.typeAssert, run_underlying hu, hne, hz w]
    · exact h.elim

theorem builtin_sound {b : Builtin} {ts : Array TypeId} {vs : List Value} {ret : Value → Heap → Prop} {as : List Operand} (h : awpBuiltin P b ts.toList vs H ret) (hvs : as.map a.eval = vs)
    (hg : Agree H w) (ho : o.op = .call { callee := .builtin b, args := as.toArray, argTypes := ts }) :
    ∃ v H' w', (execOp a.eval o).run P w = .ok (.value v) w' ∧ Turns H w H' w' ∧ ret v H' := by
  have hargs : (as.toArray.map a.eval) = vs.toArray := by rw [← hvs]; simp
  have front : ∀ {v w'} (c : Array Bool), (builtin b ts o.type c vs.toArray).run P w = .ok (.value v) w' → (∀ c', builtin b ts o.type c' vs.toArray = builtin b ts o.type c vs.toArray) →
      (execOp a.eval o).run P w = .ok (.value v) w' := by
    intro v w' c hb hc
    unfold execOp
    rw [ho]
    simp only [resolve, hargs, Sem.run_bind, Sem.run_pure, Result.andThen_ok, invoke]
    rw [hc]; exact hb
  unfold awpBuiltin at h
  split at h
  · rename_i st xt s x hts
    have hts' : ts = #[st, xt] := by cases ts; simp_all
    subst hts'
    have fr : ∀ {v w'}, (Builtin.append_ #[st, xt] o.type #[s, x]).run P w = .ok v w' → (execOp a.eval o).run P w = .ok (.value v) w' := by
      intro v w' hb
      refine front #[] ?_ (fun _ => rfl)
      show (do pure (Next.value (← Builtin.append_ #[st, xt] o.type #[s, x])) : Sem Next).run P w = _
      simp only [Sem.run_bind, hb, Result.andThen_ok, Sem.run_pure]
    split at h
    · rename_i e d hu hd
      split at h
      · obtain ⟨i, z, hi, hz, _, h⟩ := elemN_iff h
        obtain ⟨v, H', w', hr, ht, hk⟩ := appZ_sound (P := P) (ty := o.type) hu hi hz hd hg h
        exact ⟨v, H', w', fr hr, ht, hk⟩
      · rename_i hnd
        obtain ⟨i, z, hi, hz, _, h⟩ := elemN_iff h
        obtain ⟨hb, h⟩ := ifB_iff h
        obtain ⟨v, H', w', hr, ht, hk⟩ := appS_sound (P := P) (ty := o.type) hu hi hz hd (fun q e => hnd q e) (by simpa using hb) hg h
        exact ⟨v, H', w', fr hr, ht, hk⟩
    · exact h.elim
  · rename_i dt xt d x hts
    have hts' : ts = #[dt, xt] := by cases ts; simp_all
    subst hts'
    have fr : ∀ {v w'}, (Builtin.copy_ #[dt, xt] o.type #[d, x]).run P w = .ok v w' → (execOp a.eval o).run P w = .ok (.value v) w' := by
      intro v w' hb
      refine front #[] ?_ (fun _ => rfl)
      show (do pure (Next.value (← Builtin.copy_ #[dt, xt] o.type #[d, x])) : Sem Next).run P w = _
      simp only [Sem.run_bind, hb, Result.andThen_ok, Sem.run_pure]
    split at h
    · rename_i e hu
      split at h
      · rename_i n hs
        obtain ⟨v, H', w', hr, ht, hk⟩ := cpS_sound (P := P) (ty := o.type) hu hs hg h
        exact ⟨v, H', w', fr hr, ht, hk⟩
      · exact h.elim
    · exact h.elim
  · rename_i t x hts
    have hts' : ts = #[t] := by cases ts; simp_all
    subst hts'
    have fr : ∀ {v w'}, (Builtin.clear_ #[t] o.type #[x]).run P w = .ok v w' → (execOp a.eval o).run P w = .ok (.value v) w' := by
      intro v w' hb
      refine front #[] ?_ (fun _ => rfl)
      show (do pure (Next.value (← Builtin.clear_ #[t] o.type #[x])) : Sem Next).run P w = _
      simp only [Sem.run_bind, hb, Result.andThen_ok, Sem.run_pure]
    split at h
    · rename_i e hu
      obtain ⟨i, z, hi, hz, _, h⟩ := elemN_iff h
      obtain ⟨hall, h⟩ := ifB_iff h
      obtain ⟨v, H', w', hr, ht, hk⟩ := clrS_sound (P := P) (ty := o.type) hu hi hz (fun v hv => by rw [okc_eq]; exact List.all_eq_true.1 hall v hv) hg h
      exact ⟨v, H', w', fr hr, ht, hk⟩
    · exact h.elim
  · exact h.elim

theorem run_v {s : Sem Value} {v : Value} {w w' : World} (h : s.run P w = .ok v w') : (do pure (Next.value (← s)) : Sem Next).run P w = .ok (.value v) w' := by
  simp only [Sem.run_bind, h, Result.andThen_ok, Sem.run_pure]
theorem run_u {s : Sem Unit} {w w' : World} (h : s.run P w = .ok () w') : (do s; pure Next.skip : Sem Next).run P w = .ok .skip w' := by
  simp only [Sem.run_bind, h, Result.andThen_ok, Sem.run_pure]

theorem look_sound {b : Builtin} {ts : Array TypeId} {vs : List Value} {ret : Value → Prop} {as : List Operand} (h : awpLook P b ts.toList vs H ret) (hvs : as.map a.eval = vs)
    (ho : o.op = .call { callee := .builtin b, args := as.toArray, argTypes := ts }) :
    ∃ v, ret v ∧ ∀ w, Agree H w → (execOp a.eval o).run P w = .ok (.value v) w := by
  have hargs : (as.toArray.map a.eval) = vs.toArray := by rw [← hvs]; simp
  have front : ∀ {v w w'} (c : Array Bool), (builtin b ts o.type c vs.toArray).run P w = .ok (.value v) w' → (∀ c', builtin b ts o.type c' vs.toArray = builtin b ts o.type c vs.toArray) →
      (execOp a.eval o).run P w = .ok (.value v) w' := by
    intro v w w' c hb hc
    unfold execOp
    rw [ho]
    simp only [resolve, hargs, Sem.run_bind, Sem.run_pure, Result.andThen_ok, invoke]
    rw [hc]; exact hb
  unfold awpLook at h
  split at h
  · rename_i t x hts
    have hts' : ts = #[t] := by cases ts; simp_all
    subst hts'
    have fr : ∀ {v w w'}, (Builtin.len_ #[t] o.type #[x]).run P w = .ok v w' → (execOp a.eval o).run P w = .ok (.value v) w' := by
      intro v w w' hb
      refine front #[] ?_ (fun _ => rfl)
      show (do pure (Next.value (← Builtin.len_ #[t] o.type #[x])) : Sem Next).run P w = _
      simp only [Sem.run_bind, hb, Result.andThen_ok, Sem.run_pure]
    split at h
    · rename_i n e hu
      refine ⟨_, h, fun w hg => fr (v := .int .i64 n) ?_⟩
      simp [Builtin.len_, run_underlying hu, goInt]
    · rename_i e hu
      unfold lenSl at h
      split at h
      · obtain ⟨v, hr, hd⟩ := lenV_det h
        exact ⟨v, hr, fun w hg => by obtain ⟨u, hu', rfl⟩ := lenV_sound (P := P) (ty := o.type) hu rfl hg hd; exact fr hu'⟩
      · exact h.elim
    · rename_i hu
      unfold lenStr at h
      split at h
      · obtain ⟨v, hr, hd⟩ := lenV_det h
        exact ⟨v, hr, fun w hg => by obtain ⟨u, hu', rfl⟩ := lenV_sound (P := P) (ty := o.type) hu rfl hg hd; exact fr hu'⟩
      · exact h.elim
    · rename_i hu
      unfold lenMap at h
      split at h
      · obtain ⟨v, hr, hd⟩ := lenV_det h
        exact ⟨v, hr, fun w hg => by obtain ⟨u, hu', rfl⟩ := lenV_sound (P := P) (ty := o.type) hu rfl hg hd; exact fr hu'⟩
      · exact h.elim
    · exact h.elim
  · rename_i x y
    have fr : ∀ {v w w'}, (Builtin.min_ ts o.type #[x, y]).run P w = .ok v w' → (execOp a.eval o).run P w = .ok (.value v) w' := by
      intro v w w' hb
      refine front #[] ?_ (fun _ => rfl)
      show (do pure (Next.value (← Builtin.min_ ts o.type #[x, y])) : Sem Next).run P w = _
      simp only [Sem.run_bind, hb, Result.andThen_ok, Sem.run_pure]
    obtain ⟨v, hr, hd⟩ := minV_det h
    exact ⟨v, hr, fun w hg => by obtain ⟨u, hu', rfl⟩ := minV_sound (P := P) (w := w) (ts := ts) (t := o.type) hd; exact fr hu'⟩
  · rename_i x y
    have fr : ∀ {v w w'}, (Builtin.max_ ts o.type #[x, y]).run P w = .ok v w' → (execOp a.eval o).run P w = .ok (.value v) w' := by
      intro v w w' hb
      refine front #[] ?_ (fun _ => rfl)
      show (do pure (Next.value (← Builtin.max_ ts o.type #[x, y])) : Sem Next).run P w = _
      simp only [Sem.run_bind, hb, Result.andThen_ok, Sem.run_pure]
    obtain ⟨v, hr, hd⟩ := maxV_det h
    exact ⟨v, hr, fun w hg => by obtain ⟨u, hu', rfl⟩ := maxV_sound (P := P) (w := w) (ts := ts) (t := o.type) hd; exact fr hu'⟩
  · rename_i t x hts
    have hts' : ts = #[t] := by cases ts; simp_all
    subst hts'
    split at h
    · rename_i e hu
      unfold capSl at h
      split at h
      · rename_i sa sl sc
        refine ⟨_, h, fun w hg => ?_⟩
        refine front #[] ?_ (fun _ => rfl)
        show (do pure (Next.value (← Builtin.cap_ #[t] o.type #[Value.slice sa sl sc])) : Sem Next).run P w = _
        have hb : (Builtin.cap_ #[t] o.type #[Value.slice sa sl sc]).run P w = .ok (.int .i64 (sc : Int)) w := by simp [Builtin.cap_, run_underlying hu, goInt]
        simp only [Sem.run_bind, hb, Result.andThen_ok, Sem.run_pure]
      · exact h.elim
    · exact h.elim
  · exact h.elim

/-- Does an operation look into the heap? -/
def looks (P : Program) : Op → Bool
  | .load _ _ | .lookup _ _ _ _ => true
  | .convert _ t _ => (match P.underlying t with | some .string => true | _ => false)
  | .call _ => true
  | _ => false

/-- What a looking operation needs of the world. -/
def QNeeds (P : Program) (env : Env) (a : Act) (H : Heap) (o : Oper) (w : World) : Prop :=
  match looks P o.op with
  | false => True
  | true => (match qBase env o with
    | none => Agree H w
    | some q => ∃ b e cs, env[q]? = some (.priv cs) ∧ a.tmps[q]? = some (.pointer (some ⟨b, 0, none⟩)) ∧ w.heap[b]? = some (.cells cs.toArray e (0, 0)))

theorem awpQ_sound {k : Slot → Prop} (h : awpQ P o env H k) (r : EnvOk env a) :
    ∃ s v, k s ∧ SlotVal env a s v ∧ ∀ w, QNeeds P env a H o w → (execOp a.eval o).run P w = .ok (.value v) w := by
  obtain ⟨dst, op, type, pos, after, guard⟩ := o
  -- a value
  have val : ∀ {v : Value}, looks P op = true → qBase env { dst := dst, op := op, type := type, pos := pos, after := after, guard := guard } = none → k (.val v) →
      (∀ w, Agree H w → (execOp a.eval { dst := dst, op := op, type := type, pos := pos, after := after, guard := guard }).run P w = .ok (.value v) w) →
      ∃ s v, k s ∧ SlotVal env a s v ∧ ∀ w, QNeeds P env a H { dst := dst, op := op, type := type, pos := pos, after := after, guard := guard } w →
        (execOp a.eval { dst := dst, op := op, type := type, pos := pos, after := after, guard := guard }).run P w = .ok (.value v) w := by
    intro v hl hq hk hr
    exact ⟨_, v, hk, .inl rfl, fun w hw => hr w (by unfold QNeeds at hw; simp only at hw; rw [hl, hq] at hw; exact hw)⟩
  have val0 : ∀ {v : Value}, k (.val v) →
      (∀ w, (execOp a.eval { dst := dst, op := op, type := type, pos := pos, after := after, guard := guard }).run P w = .ok (.value v) w) →
      ∃ s v, k s ∧ SlotVal env a s v ∧ ∀ w, QNeeds P env a H { dst := dst, op := op, type := type, pos := pos, after := after, guard := guard } w →
        (execOp a.eval { dst := dst, op := op, type := type, pos := pos, after := after, guard := guard }).run P w = .ok (.value v) w := by
    intro v hk hr
    exact ⟨_, v, hk, .inl rfl, fun w hw => hr w⟩
  unfold awpQ at h
  simp only at h
  split at h
  · -- move
    rename_i x
    obtain ⟨v, hv, h⟩ := opd_iff h
    exact val0 h fun w => by simp only [execOp, r.eval hv, Sem.run_pure]
  · -- assign
    rename_i x
    obtain ⟨v, hv, h⟩ := opd_iff h
    exact val0 h fun w => by simp only [execOp, r.eval hv, Sem.run_pure]
  · -- pick
    rename_i c x y
    obtain ⟨cv, hc, h⟩ := opd_iff h
    obtain ⟨t, rfl, h⟩ := asB_iff h
    obtain ⟨av, ha, h⟩ := opd_iff h
    obtain ⟨bv, hb, h⟩ := opd_iff h
    refine val0 h fun w => ?_
    simp only [execOp, r.eval hc, r.eval ha, r.eval hb, asBool, Sem.run_bind, Sem.run_pure, Result.andThen_ok]
    cases t <;> rfl
  · -- build
    rename_i t parts
    obtain ⟨hz, h⟩ := ifB_iff h
    simp only [Bool.and_eq_true] at hz
    obtain ⟨ps, hps, h⟩ := opdsN_iff h
    have hps := hps a r
    have hps' : (parts.map fun (i, x) => (i, a.eval x)).toList = ps := by rw [← hps]; simp
    rw [← hps'] at h
    obtain ⟨v, hk, hd⟩ := buildV_det h
    exact val0 hk fun w => by obtain ⟨u, hr, rfl⟩ := buildV_sound (P := P) (w := w) hz.1 hz.2 hd; exact run_v hr
  · -- load
    rename_i t x
    obtain ⟨agg, n, ha, hs, h1, h⟩ := aggN_iff h
    split at h
    · rename_i q off cs hb
      obtain ⟨hle, h⟩ := ifB_iff h
      obtain ⟨hq, hbx⟩ := baseOf_iff hb
      refine ⟨_, _, h, .inl rfl, fun w hw => ?_⟩
      have hqb : qBase env { dst := dst, op := .load t x, type := type, pos := pos, after := after, guard := guard } = some q := by simp [qBase, hb]
      unfold QNeeds at hw
      simp only [looks] at hw
      rw [hqb] at hw
      obtain ⟨b, e, cs', h1', h2', hw⟩ := hw
      rw [hq] at h1'; cases h1'
      obtain ⟨b', he, ht'⟩ := hbx a r
      rw [h2'] at ht'; cases ht'
      have hr : (Instr.loadAt t (a.eval x)).run P w = .ok (mkV agg (seg cs off n)) w := by
        rw [he]
        have := run_loadVar_block (P := P) ha hs h1 hw (by simpa using of_decide_eq_true hle)
        simpa [Instr.loadAt, Instr.sureAddr] using this
      exact run_v hr
    · rename_i hb
      obtain ⟨p, hp, h⟩ := opd_iff h
      obtain ⟨v, hk, hd⟩ := loadP_det h
      refine val rfl (by simp [qBase, hb]) hk fun w hg => ?_
      obtain ⟨u, hr, rfl⟩ := loadP_sound (P := P) ha hs h1 hg hd
      rw [← r.eval hp] at hr
      exact run_v hr
  · -- fieldAddr
    rename_i st x f
    split at h
    · rename_i fs hu
      split at h
      · rename_i fd hf
        split at h
        · rename_i n hs
          split at h
          · rename_i q off cs hb
            obtain ⟨hq, hbx⟩ := baseOf_iff hb
            obtain ⟨b, he, ht⟩ := hbx a r
            refine ⟨_, _, h, .inr ⟨q, _, b, cs, rfl, hq, ht, rfl⟩, fun w _ => ?_⟩
            have hr : (Instr.fieldAt st (a.eval x) f).run P w = .ok (.pointer (some ⟨b, off + fd.offset, none⟩)) w := by
              rw [he]
              simp [Instr.fieldAt, run_underlying hu, hf, Instr.sureAddr, fieldPlace, run_sizeOf' hs, add_none]
            exact run_v hr
          · obtain ⟨p, hp, h⟩ := opd_iff h
            obtain ⟨v, hk, hd⟩ := fldP_det h
            refine val0 hk fun w => ?_
            obtain ⟨u, hr, rfl⟩ := fldP_sound (P := P) (w := w) hu hf hs (by omega) hd
            rw [← r.eval hp] at hr
            exact run_v hr
        · exact h.elim
      · exact h.elim
    · exact h.elim
  · -- indexAddr
    rename_i t x ix
    split at h
    · rename_i e hu
      split at h
      · rename_i n hs
        obtain ⟨s, hsv, h⟩ := opd_iff h
        obtain ⟨i, hiv, h⟩ := opd_iff h
        obtain ⟨v, hk, hd⟩ := idxS_det h
        refine val0 hk fun w => ?_
        obtain ⟨u, hr, rfl⟩ := idxS_sound (P := P) (w := w) hu hs hd
        rw [← r.eval hsv, ← r.eval hiv] at hr
        exact run_v hr
      · exact h.elim
    · rename_i len e hu
      split at h
      · rename_i n hs
        obtain ⟨i, hiv, h⟩ := opd_iff h
        split at h
        · rename_i q off cs hb
          unfold idxR at h
          split at h
          · rename_i kd j
            obtain ⟨hj, h⟩ := h
            obtain ⟨hq, hbx⟩ := baseOf_iff hb
            obtain ⟨b, he, ht⟩ := hbx a r
            refine ⟨_, _, h, .inr ⟨q, _, b, cs, rfl, hq, ht, rfl⟩, fun w _ => ?_⟩
            have hr : (Instr.indexAt t (a.eval x) (a.eval ix)).run P w = .ok (.pointer (some ⟨b, off + j.toNat * n, none⟩)) w := by
              rw [he, r.eval hiv]
              exact idxA_run hu hs hj
            exact run_v hr
          · exact h.elim
        · obtain ⟨p, hp, h⟩ := opd_iff h
          obtain ⟨v, hk, hd⟩ := idxA_det h
          refine val0 hk fun w => ?_
          obtain ⟨u, hr, rfl⟩ := idxA_sound (P := P) (w := w) hu hs hd
          rw [← r.eval hp, ← r.eval hiv] at hr
          exact run_v hr
      · exact h.elim
    · exact h.elim
  · -- field
    rename_i st x f
    split at h
    · rename_i fs hu
      split at h
      · rename_i fd hf
        obtain ⟨agg, n, ha, hs, h1, h⟩ := aggN_iff h
        obtain ⟨v, hv, h⟩ := opd_iff h
        obtain ⟨v', hk, hd⟩ := fldV_det h
        refine val0 hk fun w => ?_
        obtain ⟨u, hr, rfl⟩ := fldV_sound (P := P) (w := w) hu hf ha hs h1 hd
        rw [← r.eval hv] at hr
        exact run_v hr
      · exact h.elim
    · exact h.elim
  · -- index
    rename_i t x ix
    split at h
    · rename_i len e hu
      obtain ⟨agg, n, ha, hs, h1, h⟩ := aggN_iff h
      obtain ⟨v, hv, h⟩ := opd_iff h
      obtain ⟨i, hi, h⟩ := opd_iff h
      obtain ⟨v', hk, hd⟩ := idxV_det h
      refine val0 hk fun w => ?_
      obtain ⟨u, hr, rfl⟩ := idxV_sound (P := P) (w := w) hu ha hs h1 hd
      rw [← r.eval hv, ← r.eval hi] at hr
      exact run_v hr
    · exact h.elim
  · -- extract
    rename_i x i
    obtain ⟨v, hv, h⟩ := opd_iff h
    obtain ⟨v', hk, hd⟩ := extractV_det h
    refine val0 hk fun w => ?_
    obtain ⟨u, hr, rfl⟩ := extractV_sound (P := P) (w := w) hd
    rw [← r.eval hv] at hr
    exact run_v hr
  · -- slice
    rename_i t x lo hi mx
    obtain ⟨hmx, h⟩ := ifB_iff h
    obtain ⟨v, hv, h⟩ := opd_iff h
    obtain ⟨l, hl, h⟩ := opdO_iff h
    obtain ⟨hh, hhh, h⟩ := opdO_iff h
    obtain ⟨m, hm, h⟩ := opdO_iff h
    have hl := hl a r
    have hhh := hhh a r
    have hm := hm a r
    have hmh : m.isSome = true → hh.isSome = true := by
      rw [← hm, ← hhh, Option.isSome_map, Option.isSome_map]
      intro h1
      rw [h1] at hmx
      simpa using hmx
    have fin : ∀ {u}, k (.val u) → (∀ w, (Instr.sliceAt t v l hh m).run P w = .ok u w) → _ := fun {u} hk hr =>
      val0 (v := u) hk fun w => by
        have hr := hr w
        rw [← r.eval hv, ← hl, ← hhh, ← hm] at hr
        exact run_v hr
    split at h
    · rename_i e hu
      split at h
      · rename_i n hs
        obtain ⟨v', hk, hd⟩ := slS_det h
        exact fin hk fun w => by obtain ⟨u, hr, rfl⟩ := slS_sound (P := P) (w := w) hu hs hmh hd; exact hr
      · exact h.elim
    · rename_i len e hu
      split at h
      · rename_i n hs
        obtain ⟨v', hk, hd⟩ := slA_det h
        exact fin hk fun w => by obtain ⟨u, hr, rfl⟩ := slA_sound (P := P) (w := w) hu hs hmh hd; exact hr
      · exact h.elim
    · rename_i hu
      split at h
      · obtain ⟨v', hk, hd⟩ := slStr_det h
        exact fin hk fun w => by obtain ⟨u, hr, rfl⟩ := slStr_sound (P := P) (w := w) hu hd; exact hr
      · exact h.elim
    · exact h.elim
  · -- lookup
    rename_i t x ix ok
    split at h
    · rename_i kt e hu
      split at h
      · rename_i q z hk hz
        obtain ⟨m, hm, h⟩ := opd_iff h
        obtain ⟨key, hkey, h⟩ := opd_iff h
        obtain ⟨i, hi, hzi⟩ := Option.bind_eq_some_iff.1 hz
        obtain ⟨v, b, hkk, hd⟩ := getM_det h
        have hm := r.eval hm
        have hkey := r.eval hkey
        clear h
        cases ok
        · refine val rfl rfl hkk fun w hg => ?_
          obtain ⟨u, hr, rfl⟩ := getM_sound (P := P) (ok := false) (k := fun u => u = v) hu hk hi hzi hg (by
              refine getM_imp hd ?_
              rintro _ _ ⟨rfl, rfl⟩; rfl)
          rw [← hm, ← hkey] at hr
          exact run_v hr
        · refine val rfl rfl hkk fun w hg => ?_
          obtain ⟨u, hr, rfl⟩ := getM_sound (P := P) (ok := true) (k := fun u => u = .tuple #[v, .bool b]) hu hk hi hzi hg (by
              refine getM_imp hd ?_
              rintro _ _ ⟨rfl, rfl⟩; rfl)
          rw [← hm, ← hkey] at hr
          exact run_v hr
      · exact h.elim
    · exact h.elim
  · -- binOp
    rename_i op t x y yt
    split at h
    · rename_i d hd
      obtain ⟨av, ha, h⟩ := opd_iff h
      obtain ⟨bv, hb, g⟩ := opd_iff h
      clear h
      split at g
      · rename_i hn
        have hn : (∃ ms, d = .interface ms) ∧ y = .const .nilIface := by
          unfold nilC at hn
          split at hn
          · exact ⟨⟨_, rfl⟩, rfl⟩
          · cases hn
        obtain ⟨⟨ms, rfl⟩, rfl⟩ := hn
        have hby : a.eval (.const .nilIface) = .nilIface := rfl
        have hx := r.eval ha
        unfold nilEq at g
        split at g
        · refine val0 g fun w => run_v ?_
          rw [hx, hby]
          have := (run_eql (P := P) (w := w) (t := t) (x := .nilIface) (y := .nilIface) (b := true) rfl rfl (fun n => by simp [Op.equalIn, run_underlying hd])).1
          simp only [Sem.run_bind, show (eqGuard .eql t x (.const .nilIface) .nilIface .nilIface).run P w = .ok () w from by unfold eqGuard; simp, Result.andThen_ok]
          exact this
        · refine val0 g fun w => run_v ?_
          rw [hx, hby]
          have := (run_eql (P := P) (w := w) (t := t) (x := .nilIface) (y := .nilIface) (b := true) rfl rfl (fun n => by simp [Op.equalIn, run_underlying hd])).2
          simp only [Sem.run_bind, show (eqGuard .neq t x (.const .nilIface) .nilIface .nilIface).run P w = .ok () w from by unfold eqGuard; simp, Result.andThen_ok]
          exact this
        · rename_i u z
          refine val0 g fun w => run_v ?_
          rw [hx, hby]
          have := (run_eql (P := P) (w := w) (t := t) (x := .iface u z) (y := .nilIface) (b := false) rfl rfl (fun n => by simp [Op.equalIn, run_underlying hd])).1
          simp only [Sem.run_bind, show (eqGuard .eql t x (.const .nilIface) (.iface u z) .nilIface).run P w = .ok () w from by unfold eqGuard; simp, Result.andThen_ok]
          exact this
        · rename_i u z
          refine val0 g fun w => run_v ?_
          rw [hx, hby]
          have := (run_eql (P := P) (w := w) (t := t) (x := .iface u z) (y := .nilIface) (b := false) rfl rfl (fun n => by simp [Op.equalIn, run_underlying hd])).2
          simp only [Sem.run_bind, show (eqGuard .neq t x (.const .nilIface) (.iface u z) .nilIface).run P w = .ok () w from by unfold eqGuard; simp, Result.andThen_ok]
          exact this
        · exact g.elim
      split at g
      · obtain ⟨v, hr, hk⟩ := g
        refine val0 hk fun w => ?_
        have hr := hr x y w
        rw [← r.eval ha, ← r.eval hb] at hr
        exact run_v hr
      have h := g
      obtain ⟨v, hk, hdet⟩ := binV_det h
      refine val0 hk fun w => ?_
      obtain ⟨u, hr, rfl⟩ := binV_sound (P := P) (w := w) (ox := x) (oy := y) hd hdet
      rw [← r.eval ha, ← r.eval hb] at hr
      exact run_v hr
    · exact h.elim
  · -- unOp
    rename_i op t x
    obtain ⟨av, ha, h⟩ := opd_iff h
    obtain ⟨v, hk, hdet⟩ := unV_det h
    refine val0 hk fun w => ?_
    obtain ⟨u, hr, rfl⟩ := unV_sound (P := P) (w := w) hdet
    rw [← r.eval ha] at hr
    exact run_v hr
  · -- nilCheck
    rename_i x
    obtain ⟨av, ha, h⟩ := opd_iff h
    obtain ⟨hk, hc⟩ := nilV_det h
    refine val0 hk fun w => ?_
    unfold execOp
    have hx := r.eval ha
    rcases hc with ⟨p, rfl⟩ | ⟨f, c1, c2, rfl⟩
    · simp only [hx]; rfl
    · simp only [hx]; rfl
  · -- convert
    rename_i s t x
    split at h
    · rename_i d q hs ht
      obtain ⟨av, ha, h⟩ := opd_iff h
      obtain ⟨v, hk, hdet⟩ := cvI_det h
      refine val0 hk fun w => ?_
      obtain ⟨u, hr, rfl⟩ := cvI_sound (P := P) (w := w) hs ht hdet
      rw [← r.eval ha] at hr
      exact run_v hr
    · rename_i e hs ht
      split at h
      · rename_i he
        obtain ⟨av, ha, h⟩ := opd_iff h
        obtain ⟨v, hk, hdet⟩ := cvBS_det h
        refine val (by simp [looks, ht]) rfl hk fun w hg => ?_
        obtain ⟨u, hr, rfl⟩ := cvBS_sound (P := P) hs he ht hg hdet
        rw [← r.eval ha] at hr
        exact run_v hr
      · exact h.elim
    · exact h.elim
  · -- makeInterface
    rename_i t x
    split at h
    · exact h.elim
    · rename_i d hni hd
      obtain ⟨av, ha, h⟩ := opd_iff h
      refine val0 h fun w => run_v (?_ : (Instr.makeInterface t (a.eval x)).run P w = .ok (.iface t av) w)
      rw [r.eval ha]
      simp only [Instr.makeInterface, Sem.run_bind, run_underlying hd, Result.andThen_ok]
      cases d <;> first | rfl | exact absurd hd (hni _)
    · exact h.elim
  · -- makeFunc
    rename_i fn first captured
    obtain ⟨fs, hfs, h⟩ := opds_iff h
    obtain ⟨cs, hcs, h⟩ := opds_iff h
    have hfs := hfs a r
    have hcs := hcs a r
    refine val0 h fun w => run_v (?_ : (Instr.makeFunc fn (first.map a.eval) (captured.map a.eval)).run P w = .ok (.func fn fs.toArray cs.toArray) w)
    have e1 : first.map a.eval = fs.toArray := Array.ext' (by rw [Array.toList_map]; exact hfs)
    have e2 : captured.map a.eval = cs.toArray := Array.ext' (by rw [Array.toList_map]; exact hcs)
    rw [e1, e2]; rfl
  · -- typeAssert
    rename_i x xt t ok
    obtain ⟨av, ha, h⟩ := opd_iff h
    obtain ⟨u, hk, hr⟩ := taV_sound (xt := xt) h
    exact val0 hk fun w => run_v (by rw [r.eval ha]; exact hr w)
  · -- call
    rename_i c
    split at h
    · rename_i b hb
      obtain ⟨vs, hvs, g⟩ := opds_iff h
      clear h
      obtain ⟨callee, as, ts⟩ := c
      simp only at hb g hvs
      subst hb
      obtain ⟨v, hk, hr⟩ := look_sound (P := P) (o := { dst := dst, op := .call { callee := .builtin b, args := as, argTypes := ts }, type := type, pos := pos, after := after, guard := guard })
        (as := as.toList) g (hvs a r) (by simp)
      exact val rfl rfl hk hr
    · exact h.elim
  · exact h.elim

theorem put_slot {s : Slot} {v : Value} (r : Rel H0 w0 env H a w) (hs : SlotVal env a s v) (hp : putAny env o.dst s (fun env' => k env' H)) :
    Post ro H0 w0 o.dst.toList wr env a k (a.put o.dst v) w := by
  rcases hs with rfl | ⟨q, off, b, cs, rfl, hq, hb, rfl⟩
  · exact put_val r (.refl r.agree) hp
  · exact put_ref r hq hb hp

theorem Rel.needs (r : Rel H0 w0 env H a w) (o : Oper) : QNeeds P env a H o w := by
  unfold QNeeds
  split
  · trivial
  split
  · exact r.agree
  · rename_i q hq
    unfold qBase at hq
    split at hq
    · rename_i t x heq
      cases hb : baseOf env x with
      | none => rw [hb] at hq; cases hq
      | some y =>
        obtain ⟨q', off, cs⟩ := y
        rw [hb] at hq; cases hq
        obtain ⟨hc, _⟩ := baseOf_iff hb
        obtain ⟨b, e, _, h2, _, h4⟩ := r.ok _ _ hc
        exact ⟨b, e, cs, hc, h2, h4⟩
    · cases hq

theorem quiet_defer {o : Op} (h : quiet o = true) : ∀ c, o ≠ .defer c := by
  intro c hc; subst hc; cases h

theorem awpOp_sound {ro : Option Nat} {R : PanR} (h : awpOp P R pv wr o env H k) (r : Rel H0 w0 env H a w)
    (hR : ∀ R0, R = some R0 → ∀ ch H' w', Turns H w H' w' → R0 ch env H' → Q (.panic ch) a w') : o.wpIn (FW ro) 0 P a w (Post ro H0 w0 o.dst.toList wr env a k) Q := by
  have hg := r.agree
  unfold awpOp at h
  split at h
  · rename_i hq
    obtain ⟨s, v, hk, hs, hr⟩ := awpQ_sound h r.envOk
    exact wp_value (quiet_defer hq) (hr w (r.needs o)) (put_slot r hs hk)
  rename_i hq0
  clear hq0
  obtain ⟨dst, op, type, pos, after, guard⟩ := o
  simp only at h
  split at h
  · -- alloc
    rename_i e
    obtain ⟨hz, h⟩ := ifB_iff h
    obtain ⟨p, hp, rfl⟩ := newC_alloc (P := P) (w := w) hz
    split at h
    · rename_i d
      unfold ifB at h
      split at h
      · unfold newT at h; exact wp_value (fun _ hd => by cases hd) (run_v hp) (put_priv r h)
      · obtain ⟨H', ht, h⟩ := newC_sound hg h
        exact wp_val (fun _ hd => by cases hd) (run_v hp) r ht h
    · exact h.elim
  · -- box
    rename_i e x
    obtain ⟨agg, n, ha, hs, h1, h⟩ := aggN_iff h
    obtain ⟨v, hv, h⟩ := opd_iff h
    have h := cellsU_iff h
    have hp : (Instr.box e (a.eval x)).run P w = .ok (.pointer (some ⟨w.heap.size, 0, none⟩)) (w.alloc (.cells v.cells e (0, 0))) := by rw [r.eval hv]; exact run_box
    split at h
    · rename_i d
      unfold ifB at h
      split at h
      · exact wp_value (fun _ hd => by cases hd) (run_v hp) (put_priv r h)
      · obtain ⟨H', ht, h⟩ := newC_sound hg h
        exact wp_val (fun _ hd => by cases hd) (run_v hp) r (by simpa using ht) h
    · exact h.elim
  · -- buildSlice
    rename_i t len parts
    split at h
    · rename_i e hu
      obtain ⟨agg, n, ha, hs, h1, h⟩ := aggN_iff h
      obtain ⟨i, z, hi, hz, hsz, h⟩ := elemN_iff h
      obtain ⟨hc, h⟩ := ifB_iff h
      simp only [Bool.and_eq_true, beq_iff_eq, decide_eq_true_eq] at hc
      obtain ⟨rfl, hlen⟩ := hc
      obtain ⟨ps, hps, h⟩ := opdsN_iff h
      have hps := hps a r.envOk
      have hps' : (parts.map fun (i, x) => (i, a.eval x)).toList = ps := by rw [← hps]; simp
      rw [← hps'] at h
      obtain ⟨v, H', w', hr, ht, h⟩ := bldS_sound (P := P) hu hi hz hsz h1 (by omega) hg h
      exact wp_val (fun _ hd => by cases hd) (run_v hr) r ht h
    · exact h.elim
  · -- store
    rename_i t x y
    split at h
    · exact h.elim
    · obtain ⟨agg, n, ha, hs, h1, h⟩ := aggN_iff h
      obtain ⟨v, hv, h⟩ := opd_iff h
      split at h
      · rename_i q off cs hb
        obtain ⟨hwr, h⟩ := ifB_iff h
        obtain ⟨hn, hok, h⟩ := cellsV_iff h h1
        obtain ⟨hle, h⟩ := ifB_iff h
        rw [forceK_eq] at h
        obtain ⟨hq, hb⟩ := baseOf_iff hb
        obtain ⟨b, he, ht⟩ := hb a r.envOk
        obtain ⟨b', e, hb0, ht', hH, hw⟩ := r.ok _ _ hq
        rw [ht] at ht'; cases ht'
        have hr : (Instr.storeAt t (a.eval x) (a.eval y)).run P w = .ok () (w.setRow b (setSeg cs off v.cells.toList).toArray) := by
          rw [he, r.eval hv]
          have := run_storeVar_block (P := P) (v := v) hs hn hw (by simpa using of_decide_eq_true hle) hok
          simpa [Instr.storeAt, Instr.sureAddr] using this
        refine wp_run (fun _ hd => by cases hd) ?_
        show Oper.uponIn (FW ro) 0 P _ a _ Q ((do Instr.storeAt t (a.eval x) (a.eval y); pure Next.skip : Sem Next).run P w)
        rw [run_u hr]
        refine ⟨_, _, r.storePriv hq ht hH hw hb0, h, ⟨rfl, fun _ _ => rfl, fun i c hc _ hiw => ?_, .refl _ _⟩⟩
        have hne : q ≠ i := fun e => hiw (e ▸ by simpa using hwr)
        rw [List.getElem?_set_ne hne]; exact hc
      · obtain ⟨p, hp, h⟩ := opd_iff h
        obtain ⟨H', w', hr, ht, h⟩ := storeP_sound (P := P) hs h1 hg h
        rw [← r.eval hp, ← r.eval hv] at hr
        refine wp_run (fun _ hd => by cases hd) ?_
        show Oper.uponIn (FW ro) 0 P _ a _ Q ((do Instr.storeAt t (a.eval x) (a.eval y); pure Next.skip : Sem Next).run P w)
        rw [run_u hr]
        exact ⟨_, _, r.turn ht, h, .refl _ _ _ _⟩
  · -- makeSlice
    rename_i t l c
    split at h
    · rename_i e hu
      obtain ⟨i, z, hi, hz, hsz, h⟩ := elemN_iff h
      obtain ⟨lv, hl, h⟩ := opd_iff h
      obtain ⟨cv, hc, h⟩ := opd_iff h
      obtain ⟨v, H', w', hr, ht, h⟩ := mkS_sound (P := P) hu hi hz hsz hg h
      rw [← r.eval hl, ← r.eval hc] at hr
      exact wp_val (fun _ hd => by cases hd) (run_v hr) r ht h
    · exact h.elim
  · -- makeMap
    rename_i t
    obtain ⟨v, H', w', hr, ht, h⟩ := mkM_sound (P := P) (t := t) hg h
    exact wp_val (fun _ hd => by cases hd) (run_v hr) r ht h
  · -- mapUpdate
    rename_i t m key x
    split at h
    · exact h.elim
    · split at h
      · rename_i kt e hu
        split at h
        · rename_i q hk
          obtain ⟨mv, hm, h⟩ := opd_iff h
          obtain ⟨kv, hkv, h⟩ := opd_iff h
          obtain ⟨v, hv, h⟩ := opd_iff h
          obtain ⟨H', w', hr, ht, h⟩ := putM_sound (P := P) hu hk hg h
          rw [← r.eval hm, ← r.eval hkv, ← r.eval hv] at hr
          refine wp_run (fun _ hd => by cases hd) ?_
          show Oper.uponIn (FW ro) 0 P _ a _ Q ((do Instr.mapUpdate t (a.eval m) (a.eval key) (a.eval x); pure Next.skip : Sem Next).run P w)
          rw [run_u hr]
          exact ⟨_, _, r.turn ht, h, .refl _ _ _ _⟩
        · exact h.elim
      · exact h.elim
  · -- call
    rename_i c
    split at h
    · rename_i f hf
      split at h
      · rename_i fid
        split at h
        · obtain ⟨vs, hvs, g2⟩ := opds_iff h
          clear h
          obtain ⟨callee, as, ts⟩ := c
          simp only at hf g2 hvs
          subst hf
          obtain ⟨v, H', w', hr, ht, hk⟩ := g2 w hg
          refine wp_val (fun _ hd => by cases hd) ?_ r ht hk
          have hargs : as.map a.eval = vs.toArray := Array.ext' (by rw [Array.toList_map]; exact hvs a r.envOk)
          unfold execOp
          simp only [resolve, hargs, Act.eval, Deferred.ofValue, Sem.run_bind, Sem.run_pure, Result.andThen_ok, invoke, Array.empty_append, Array.append_empty]
          exact hr
        · obtain ⟨vs, hvs, g2⟩ := opds_iff h
          clear h
          obtain ⟨callee, as, ts⟩ := c
          simp only at hf g2 hvs
          subst hf
          cases R with
          | none => exact callV_sound (as := as.toList) (f := .func fid) ts g2 (by simp [Act.eval]) (hvs a r.envOk) hg (fun v H' w' ht hp => put_val r ht hp) (by simp)
          | some R0 => exact callP_sound (as := as.toList) (f := .func fid) ts g2 (by simp [Act.eval]) (hvs a r.envOk) hg (fun v H' w' ht hp => put_val r ht hp) (fun ch H' w' ht hp => hR R0 rfl ch H' w' ht hp) (by simp)
      · obtain ⟨fv, hfv, g⟩ := opd_iff h
        obtain ⟨vs, hvs, g2⟩ := opds_iff g
        clear h g
        obtain ⟨callee, as, ts⟩ := c
        simp only at hf g2 hvs
        subst hf
        exact callV_sound (as := as.toList) (f := f) ts g2 (r.eval hfv) (hvs a r.envOk) hg (fun v H' w' ht hp => put_val r ht hp) (by simp)
    · rename_i b hb
      obtain ⟨vs, hvs, g⟩ := opds_iff h
      clear h
      obtain ⟨callee, as, ts⟩ := c
      simp only at hb g hvs
      subst hb
      obtain ⟨v, H', w', hr, ht, h⟩ := builtin_sound (o := { dst := dst, op := .call { callee := .builtin b, args := as, argTypes := ts }, type := type, pos := pos, after := after, guard := guard })
        (as := as.toList) g (hvs a r.envOk) hg (by simp)
      exact wp_val (fun _ hd => by cases hd) hr r ht h
    · rename_i x name hx
      obtain ⟨rv, hrv, g⟩ := opd_iff h
      obtain ⟨vs, hvs, g2⟩ := opds_iff g
      clear h g
      obtain ⟨callee, as, ts⟩ := c
      simp only at hx g2 hvs
      subst hx
      exact invV_sound (as := as.toList) (x := x) ts g2 (r.eval hrv) (hvs a r.envOk) hg (fun v H' w' ht hp => put_val r ht hp) (by simp)
  · -- panic
    rename_i x
    cases R with
    | none => exact h.elim
    | some R0 =>
      obtain ⟨v, hv, h⟩ := opd_iff h
      split at h
      · rename_i t u
        refine wp_run (fun _ hd => by cases hd) ?_
        show Oper.uponIn (FW ro) 0 P _ a _ Q ((do let v ← Instr.panic (a.eval x); pure (Next.value v) : Sem Next).run P w)
        rw [r.eval hv]
        exact hR R0 rfl _ H w (.refl r.agree) h
      · exact h.elim
  · exact h.elim

end
end Go.Ab
