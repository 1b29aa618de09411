/- Regions that draw their order: looking operations are taken first, what they saw is to be seen again behind each operation that does not wait for them. -/
import Derived.Test.YtlmpjhbfgakgdaaDoorAbOpSound
import Derived.OrdersHeld
namespace Go.Ab
variable {ro : Option Nat}
set_option linter.unusedVariables false
set_option linter.unusedSimpArgs false

section
variable {P : Program} {ops : Array Oper} {Q : Exit → Act → World → Prop} {md : Region.Mode}

/-- Does operation j wait for operation i? -/
def waits (md : Region.Mode) (ops : Array Oper) (j i : Nat) : Bool :=
  match ops[j]? with
  | some o => o.after.any fun e => Region.binds md e && e.on == i
  | none => false

def prune {α : Type} (md : Region.Mode) (ops : Array Oper) (l : List (Nat × α)) (j : Nat) : List (Nat × α) := l.filter fun p => !waits md ops j p.1

/-- Whatever order is picked, and what was seen first is seen behind each operation that does not wait for it. -/
def wpAnyG (ro : Option Nat) (P : Program) (md : Region.Mode) (ops : Array Oper) (Q : Exit → Act → World → Prop) : Nat → List (Nat × (World → Prop)) → Array Bool → Act → World → Prop
  | 0, S, listed, a, w => Region.ready md ops listed = [] ∧ Q .normal a w
  | fuel + 1, S, listed, a, w =>
    (Region.ready md ops listed = [] → Q .normal a w) ∧
    ∀ i ∈ Region.ready md ops listed, wpOpIn (FW ro) 0 P ops Q i (fun a' w' => (∀ p ∈ prune md ops S i, p.2 w') ∧ wpAnyG ro P md ops Q fuel (prune md ops S i) (listed.setIfInBounds i true) a' w') a w

theorem wpAny_of_G {ro : Option Nat} : ∀ (fuel : Nat) (S : List (Nat × (World → Prop))) (listed : Array Bool) (a : Act) (w : World), wpAnyG ro P md ops Q fuel S listed a w → wpAnyIn (FW ro) 0 P md ops Q fuel listed a w
  | 0, _, _, _, _, h => h
  | fuel + 1, _, _, _, _, h => ⟨h.1, fun i hi => wpOpIn_mono (fun a' w' h' => wpAny_of_G fuel _ _ a' w' h'.2) (h.2 i hi)⟩

theorem prune_sub {α : Type} {l l' : List (Nat × α)} (h : ∀ p ∈ l, p ∈ l') (j : Nat) : ∀ p ∈ prune md ops l j, p ∈ prune md ops l' j := by
  intro p hp
  obtain ⟨h1, h2⟩ := List.mem_filter.1 hp
  exact List.mem_filter.2 ⟨h p h1, h2⟩

theorem wpAnyG_sub {ro : Option Nat} : ∀ (fuel : Nat) {S S' : List (Nat × (World → Prop))} (listed : Array Bool) (a : Act) (w : World), (∀ p ∈ S, p ∈ S') → wpAnyG ro P md ops Q fuel S' listed a w → wpAnyG ro P md ops Q fuel S listed a w
  | 0, _, _, _, _, _, _, h => h
  | fuel + 1, _, _, _, _, _, hs, h => ⟨h.1, fun i hi => wpOpIn_mono (fun a' w' h' => ⟨fun p hp => h'.1 p (prune_sub hs i p hp), wpAnyG_sub fuel _ a' w' (prune_sub hs i) h'.2⟩) (h.2 i hi)⟩

/-- No operation of the region asks the tape by itself, none defers. -/
def plainOps (ops : Array Oper) : Bool := ops.all fun o => match o.op with | .select .. => false | .defer _ => false | _ => true

theorem plainOps_select (h : plainOps ops = true) (j : Nat) (o : Oper) (cs : Array SelectCase) (b : Bool) (ho : ops[j]? = some o) : o.op ≠ .select cs b := by
  intro heq
  have := Array.all_eq_true_iff_forall_mem.1 h o (Array.mem_of_getElem? ho)
  simp [heq] at this

theorem plainOps_defer (h : plainOps ops = true) (j : Nat) (o : Oper) (c : Call) (ho : ops[j]? = some o) : o.op ≠ .defer c := by
  intro heq
  have := Array.all_eq_true_iff_forall_mem.1 h o (Array.mem_of_getElem? ho)
  simp [heq] at this

theorem yieldsIf_wpOpIn {ro : Option Nat} {S : World → Prop} {i : Nat} {o : Oper} {v : Value} {a : Act} (hi : ops[i]? = some o) (hd : ∀ c, o.op ≠ .defer c) (hy : YieldsIf P ops S o v a)
    {K : Act → World → Prop} {w : World} (hS : S w) (h : K (a.put o.dst v) w) : wpOpIn (FW ro) 0 P ops Q i K a w := by
  unfold wpOpIn
  simp only [hi]
  rcases hy with ⟨hw, hv⟩ | ⟨hw, rfl⟩
  · simp only [hw, if_true]
    exact wp_run hd (by rw [hv w hS]; exact h)
  · simp only [hw, Bool.false_eq_true, if_false]; exact ⟨fun _ _ => trivial, h⟩

theorem wpOpIn_putIf {ro : Option Nat} {S : World → Prop} {j : Nat} {oi oj : Oper} {v : Value} (hj : ops[j]? = some oj) (hap : oi.apart ops oj = true)
    (hsi : ∀ cs b, oi.op ≠ .select cs b) (hsj : ∀ cs b, oj.op ≠ .select cs b) (hdj : ∀ c, oj.op ≠ .defer c)
    (hQ : ∀ c a w, Q (.panic c) (a.put oi.dst v) w → Q (.panic c) a w) {K : Act → World → Prop} {a : Act} {w : World}
    (hy : YieldsIf P ops S oi v a) (h : wpOpIn (FW ro) 0 P ops Q j K (a.put oi.dst v) w) :
    wpOpIn (FW ro) 0 P ops Q j (fun a' w' => YieldsIf P ops S oi v a' ∧ K (a'.put oi.dst v) w') a w := by
  obtain ⟨h1, h2, h3⟩ := Oper.apart_spec hap
  have keep : ∀ (a : Act), YieldsIf P ops S oi v a → ∀ u, YieldsIf P ops S oi v (a.put oj.dst u) := fun a hy u =>
    hy.of_same (execOp_put oi hsi a oj.dst u h3) (wanted_put oi a oj.dst u h3)
  have keepD : ∀ d, YieldsIf P ops S oi v { a with defers := d :: a.defers } := fun d => hy.of_same rfl rfl
  unfold wpOpIn at *
  simp only [hj] at *
  rw [wanted_put oj a oi.dst v h1] at h
  split
  · rename_i hw
    simp only [hw, if_true] at h
    refine wp_run hdj ?_
    have h := h.2
    rw [Oper.semAt_eq _ _ _ hdj, execOp_put oj hsj a oi.dst v h1] at h
    generalize (execOp a.eval oj).run P w = r at *
    cases r with
    | ok n w' =>
      cases n <;> simp only [Oper.uponIn] at h ⊢
      case value u => exact ⟨keep a hy u, by rw [← Act.put_comm a v u h2]; exact h⟩
      case skip => exact ⟨keep a hy _, by rw [← Act.put_comm a v undef h2]; exact h⟩
      case defer d =>
        refine ⟨keep _ (keepD d) _, ?_⟩
        rw [← Act.put_comm _ v undef h2, ← Act.put_defers]
        exact h
      case enter f args =>
        refine ⟨h.1, CallsIn.mono h.2 fun e w'' he => ?_⟩
        cases e with
        | returned u => exact ⟨keep a hy u, by rw [← Act.put_comm a v u h2]; exact he⟩
        | panicked c => exact hQ _ _ _ he
        | outgrown => exact he
      case row row args => exact ⟨h.1, RowsIn.mono h.2 fun u w'' he => ⟨keep a hy u, by rw [← Act.put_comm a v u h2]; exact he⟩⟩
      case round l f tmps assign body =>
        refine ⟨h.1, RoundIn.mono h.2 fun e w'' he => ?_⟩
        cases e with
        | returned u => exact ⟨keep a hy u, by rw [← Act.put_comm a v u h2]; exact he⟩
        | panicked c => exact hQ _ _ _ he
        | outgrown => exact he
    | halt x w' =>
      cases x <;> simp only [Oper.uponIn] at h ⊢
      case panic u => exact hQ _ _ _ h
  · rename_i hw
    simp only [hw] at h
    exact ⟨fun _ _ => trivial, keep a hy _, by rw [← Act.put_comm a v undef h2]; exact h.2⟩

theorem wpAnyG_first {ro : Option Nat} {i : Nat} {oi : Oper} {v : Value} {Si : World → Prop} (hi : ops[i]? = some oi) (hpl : plainOps ops = true)
    (hQ : ∀ c a w, Q (.panic c) (a.put oi.dst v) w → Q (.panic c) a w) :
    ∀ (fuel : Nat) (S : List (Nat × (World → Prop))) (listed : Array Bool) (a : Act) (w : World),
      (∀ j oj, ops[j]? = some oj → j ≠ i → listed.getD j true = false → (∀ e ∈ oj.after, Region.binds md e = true → e.on ≠ i) → oi.apart ops oj = true) →
      i ∈ Region.ready md ops listed → YieldsIf P ops Si oi v a → Si w → (∀ p ∈ S, p.2 w) →
      wpAnyG ro P md ops Q fuel ((i, Si) :: S) (listed.setIfInBounds i true) (a.put oi.dst v) w → wpAnyG ro P md ops Q (fuel + 1) S listed a w := by
  intro fuel
  induction fuel with
  | zero =>
    intro S listed a w _ hr hy hS hall H
    refine ⟨fun h => (by rw [h] at hr; cases hr), fun j hj => ?_⟩
    by_cases hji : j = i
    · subst hji; exact yieldsIf_wpOpIn hi (fun c => plainOps_defer hpl _ _ c hi) hy hS ⟨fun p hp => hall p (List.mem_filter.1 hp).1, wpAnyG_sub 0 _ _ _ (fun p hp => List.mem_cons_of_mem _ (List.mem_filter.1 hp).1) H⟩
    · have := ready_mono hj hji
      rw [H.1] at this
      cases this
  | succ fuel ih =>
    intro S listed a w hfree hr hy hS hall H
    refine ⟨fun h => (by rw [h] at hr; cases hr), fun j hj => ?_⟩
    by_cases hji : j = i
    · subst hji; exact yieldsIf_wpOpIn hi (fun c => plainOps_defer hpl _ _ c hi) hy hS ⟨fun p hp => hall p (List.mem_filter.1 hp).1, wpAnyG_sub _ _ _ _ (fun p hp => List.mem_cons_of_mem _ (List.mem_filter.1 hp).1) H⟩
    · have h1 := H.2 j (ready_mono hj hji)
      obtain ⟨hjun, oj, hoj, hafter⟩ := mem_ready.1 hj
      have hnot : ∀ e ∈ oj.after, Region.binds md e = true → e.on ≠ i := fun e he hb heq => by
        have h1 := hafter e he hb
        have h0 := (mem_ready.1 hr).1
        rw [heq] at h1
        rcases Nat.lt_or_ge i listed.size with h' | h'
        · simp [h'] at h0 h1; rw [h0] at h1; cases h1
        · simp [Array.getElem?_eq_none h'] at h1
      have hw : waits md ops j i = false := by
        unfold waits
        rw [hoj]
        simp only
        rw [← Bool.not_eq_true]
        intro h
        obtain ⟨e, he, hb⟩ := Array.any_eq_true'.1 h
        simp only [Bool.and_eq_true, beq_iff_eq] at hb
        exact hnot e he hb.1 hb.2
      have hpr : prune md ops ((i, Si) :: S) j = (i, Si) :: prune md ops S j := by simp [prune, hw]
      rw [hpr] at h1
      have h2 := wpOpIn_putIf hoj (hfree j oj hoj hji hjun hnot) (fun cs b => plainOps_select hpl i oi cs b hi) (fun cs b => plainOps_select hpl j oj cs b hoj) (fun c => plainOps_defer hpl j oj c hoj) hQ hy h1
      have hfree' : ∀ k ok, ops[k]? = some ok → k ≠ i → (listed.setIfInBounds j true).getD k true = false →
          (∀ e ∈ ok.after, Region.binds md e = true → e.on ≠ i) → oi.apart ops ok = true := fun k ok hk hki hun hno => by
        refine hfree k ok hk hki ?_ hno
        by_cases hjk : j = k
        · subst hjk; exact hjun
        · rw [getD_set_ne true hjk] at hun; exact hun
      refine wpOpIn_mono (fun a' w' h3 => ?_) h2
      obtain ⟨h3, h4, h5⟩ := h3
      have h4' : ∀ p ∈ prune md ops S j, p.2 w' := fun p hp => h4 p (List.mem_cons_of_mem _ hp)
      refine ⟨h4', ih (prune md ops S j) (listed.setIfInBounds j true) a' w' hfree' (ready_mono hr (Ne.symm hji)) h3 (h4 (i, Si) (by simp)) h4' ?_⟩
      rw [Array.setIfInBounds_comm _ _ hji]
      exact h5

/-! ### The deep reading of a region that draws -/

/-- What was seen first: in the heap (to be seen again), or in a box of the function's own (not to be written). -/
inductive Held where
  | heap (o : Oper) (env : Env) (s : Slot)
  | priv (q : Nat)

def sameSlot (s s' : Slot) : Prop :=
  match s, s' with
  | .val a, .val b => b = a
  | _, _ => False

def heldOf (P : Program) (i : Nat) (o : Oper) (env : Env) (s : Slot) : List (Nat × Held) :=
  match looks P o.op with
  | false => []
  | true => (match qBase env o with
    | some q => [(i, .priv q)]
    | none => [(i, .heap o env s)])

abbrev guardK (ops : Array Oper) (gn : List Nat) (env : Env) (o : Oper) (run skip : Env → Prop) : Prop :=
  match o.guard with
  | none => run env
  | some (g, want) => (match (ops[g]?).bind (·.dst) with
    | some d => (match env[d]? with
      | some (.val v) => (match gn.contains d with
        | true => v = undef ∧ skip env
        | false => asB v fun b =>
          ifB b
            (forceK (env.set d (.val (.bool true))) fun env => ifB want (run env) (skip env))
            (forceK (env.set d (.val (.bool false))) fun env => ifB want (skip env) (run env)))
      | _ => False)
    | none => False)

def heldPriv (held : List (Nat × Held)) : List Nat := held.flatMap fun h => match h.2 with | .priv q => [q] | .heap _ _ _ => []

/-- What was seen in the heap is seen again. -/
abbrev again (P : Program) (H : Heap) : List (Nat × Held) → Prop → Prop
  | [], k => k
  | (_, .priv _) :: r, k => again P H r k
  | (_, .heap o env s) :: r, k => awpQ P o env H (sameSlot s) ∧ again P H r k

def firstQuiet (ops : Array Oper) : List Nat → Option Nat
  | [] => none
  | i :: r => match ops[i]? with
    | some o => (match quiet o.op with | true => some i | false => firstQuiet ops r)
    | none => firstQuiet ops r

abbrev allOf : List Nat → (Nat → Prop) → Prop
  | [], _ => True
  | [i], K => K i
  | i :: r, K => K i ∧ allOf r K

def apartPriv (held : List (Nat × Held)) (o : Oper) : Bool := match o.dst with | some d => !(heldPriv held).contains d | none => true

abbrev awpDraw (P : Program) (R : PanR) (pv wr : List Nat) (ops : Array Oper) : Nat → Array Bool → List (Nat × Held) → List Nat → Env → Heap → (Env → Heap → Prop) → Prop
  | 0, listed, held, gn, env, H, k => (match Region.ready .any ops listed with | [] => k env H | _ => False)
  | fuel + 1, listed, held, gn, env, H, k =>
    (match Region.ready .any ops listed with
     | [] => k env H
     | i0 :: rs => (match firstQuiet ops (i0 :: rs) with
       | some i => (match ops[i]? with
         | some o => ifB (Region.free .any ops listed i && (Region.ready .any ops listed).contains i && apartPriv held o)
             (guardK ops gn env o
               (fun env => awpQ P o env H fun s => putAny env o.dst s fun env' => awpDraw P R pv wr ops fuel (listed.setIfInBounds i true) (heldOf P i o env s ++ held) gn env' H k)
               (fun env => putS env o.dst (.val undef) fun env' => awpDraw P R pv wr ops fuel (listed.setIfInBounds i true) held (o.dst.toList ++ gn) env' H k)) False
         | none => False)
       | none => allOf (i0 :: rs) fun i => (match ops[i]? with
         | some o => ifB (apartPriv (prune .any ops held i) o)
             (guardK ops gn env o
               (fun env => awpOp P R pv (wr.filter fun q => !(heldPriv (prune .any ops held i)).contains q) o env H fun env' H' => again P H' (prune .any ops held i) (awpDraw P R pv wr ops fuel (listed.setIfInBounds i true) (prune .any ops held i) gn env' H' k))
               (fun env => putS env o.dst (.val undef) fun env' => again P H (prune .any ops held i) (awpDraw P R pv wr ops fuel (listed.setIfInBounds i true) (prune .any ops held i) (o.dst.toList ++ gn) env' H k))) False
         | none => False)))

end

section
variable {P : Program} {H0 : Heap} {w0 : World} {ops : Array Oper} {Q : Exit → Act → World → Prop}

def EntryOk (P : Program) (env : Env) (a : Act) : Held → (World → Prop) → Prop
  | .heap o env1 s, Si => ∃ a1 v, EnvOk env1 a1 ∧ SlotVal env1 a1 s v ∧ qBase env1 o = none ∧ ∀ w, (execOp a1.eval o).run P w = .ok (.value v) w → Si w
  | .priv q, Si => ∃ b cs, env[q]? = some (.priv cs) ∧ a.tmps[q]? = some (.pointer (some ⟨b, 0, none⟩)) ∧ ∀ w e, w.heap[b]? = some (.cells cs.toArray e (0, 0)) → Si w

/-- The list of the deep reading tells all that is held. -/
def HeldOk (P : Program) (held : List (Nat × Held)) (S : List (Nat × (World → Prop))) (env : Env) (a : Act) : Prop :=
  ∀ p ∈ S, (∀ w, p.2 w) ∨ ∃ h ∈ held, h.1 = p.1 ∧ EntryOk P env a h.2 p.2

theorem HeldOk.prune {md : Region.Mode} {held : List (Nat × Held)} {S : List (Nat × (World → Prop))} {env : Env} {a : Act} (h : HeldOk P held S env a) (j : Nat) :
    HeldOk P (prune md ops held j) (prune md ops S j) env a := by
  intro p hp
  obtain ⟨h1, h2⟩ := List.mem_filter.1 hp
  rcases h p h1 with h | ⟨e, he, h3, h4⟩
  · exact .inl h
  · exact .inr ⟨e, List.mem_filter.2 ⟨he, by rw [h3]; exact h2⟩, h3, h4⟩

theorem mem_heldPriv {held : List (Nat × Held)} {i q : Nat} (h : (i, Held.priv q) ∈ held) : q ∈ heldPriv held :=
  List.mem_flatMap.2 ⟨_, h, by simp⟩

theorem HeldOk.turn {held : List (Nat × Held)} {S : List (Nat × (World → Prop))} {env env' : Env} {a a' : Act} {M wr : List Nat} (h : HeldOk P held S env a) (u : Unch ro M wr env a env' a')
    (hM : ∀ q ∈ heldPriv held, q ∉ M) (hw : ∀ q ∈ heldPriv held, q ∉ wr) : HeldOk P held S env' a' := by
  intro p hp
  rcases h p hp with h | ⟨⟨i, e⟩, he, h3, h4⟩
  · exact .inl h
  · refine .inr ⟨_, he, h3, ?_⟩
    cases e with
    | heap o env1 s => exact h4
    | priv q =>
      obtain ⟨b, cs, h5, h6, h7⟩ := h4
      have := mem_heldPriv he
      exact ⟨b, cs, u.priv q cs h5 (hM q this) (hw q this), (u.tmps q (hM q this)).trans h6, h7⟩

theorem again_iff {H : Heap} {k : Prop} : ∀ {held : List (Nat × Held)}, again P H held k → k ∧ ∀ i o env s, (i, Held.heap o env s) ∈ held → awpQ P o env H (sameSlot s)
  | [], h => ⟨h, fun _ _ _ _ hm => by cases hm⟩
  | (_, .priv _) :: r, h => by
    obtain ⟨hk, hr⟩ := again_iff (held := r) h
    exact ⟨hk, fun i o env s hm => by
      rcases List.mem_cons.1 hm with hm | hm
      · cases hm
      · exact hr i o env s hm⟩
  | (_, .heap _ _ _) :: r, h => by
    obtain ⟨h0, h⟩ := h
    obtain ⟨hk, hr⟩ := again_iff (held := r) h
    exact ⟨hk, fun i o env s hm => by
      rcases List.mem_cons.1 hm with hm | hm
      · cases hm; exact h0
      · exact hr i o env s hm⟩

theorem HeldOk.all {held : List (Nat × Held)} {S : List (Nat × (World → Prop))} {env : Env} {H : Heap} {a : Act} {w : World} (h : HeldOk P held S env a) (r : Rel H0 w0 env H a w)
    (hag : ∀ i o env s, (i, Held.heap o env s) ∈ held → awpQ P o env H (sameSlot s)) : ∀ p ∈ S, p.2 w := by
  intro p hp
  rcases h p hp with h | ⟨⟨i, e⟩, he, h3, h4⟩
  · exact h w
  · cases e with
    | heap o env1 s =>
      obtain ⟨a1, v, h5, h6, h7, h8⟩ := h4
      obtain ⟨s', v', hk, hs, hr⟩ := awpQ_sound (hag i o env1 s he) h5
      refine h8 w ?_
      have hv : v = v' := by
        unfold sameSlot at hk
        split at hk
        · rename_i x y
          subst hk
          rcases h6 with h6 | ⟨q, off, b, cs, h6, _⟩
          · rcases hs with hs | ⟨q, off, b, cs, hs, _⟩
            · cases h6; cases hs; rfl
            · cases hs
          · cases h6
        · exact hk.elim
      rw [hv]
      exact hr w (by
        unfold QNeeds
        split
        · trivial
        · rw [h7]; exact r.agree)
    | priv q =>
      obtain ⟨b, cs, h5, h6, h7⟩ := h4
      obtain ⟨b', e', _, h8, _, h9⟩ := r.ok _ _ h5
      rw [h6] at h8; cases h8
      exact h7 w e' h9

theorem guardK_iff {env : Env} {gn : List Nat} {H : Heap} {a : Act} {w : World} {o : Oper} {run skip : Env → Prop} (h : guardK ops gn env o run skip) (r : Rel H0 w0 env H a w) :
    (Region.wanted o (yielded ops a.tmps) = true ∧ run env) ∨ (Region.wanted o (yielded ops a.tmps) = false ∧ skip env) := by
  unfold guardK at h
  split at h
  · rename_i hg
    exact .inl ⟨by simp [Region.wanted, hg], h⟩
  · rename_i g want hg
    split at h
    · rename_i d hd
      split at h
      · rename_i v hv
        split at h
        · obtain ⟨rfl, h⟩ := h
          have hy : yielded ops a.tmps g = none := by
            unfold yielded
            have h1 := r.ok d _ hv
            simp only [SlotOk] at h1
            rw [hd]
            simp [h1, undef]
          exact .inr ⟨by simp [Region.wanted, hg, hy], h⟩
        obtain ⟨b, rfl, h⟩ := asB_iff h
        have hy : yielded ops a.tmps g = some b := by
          unfold yielded
          have h1 := r.ok d _ hv
          simp only [SlotOk] at h1
          rw [hd]
          simp [h1]
        have hset : env.set d (.val (.bool b)) = env := by
          apply List.ext_getElem?
          intro i
          by_cases hi : d = i
          · subst hi
            rw [List.getElem?_set_self (List.getElem?_eq_some_iff.1 hv).1, hv]
          · rw [List.getElem?_set_ne hi]
        cases b <;> cases want <;> simp only [ifB, forceK_eq, hset] at h
        · exact .inl ⟨by simp [Region.wanted, hg, hy], h⟩
        · exact .inr ⟨by simp [Region.wanted, hg, hy], h⟩
        · exact .inr ⟨by simp [Region.wanted, hg, hy], h⟩
        · exact .inl ⟨by simp [Region.wanted, hg, hy], h⟩
      · exact h.elim
    · exact h.elim

theorem putS_mono {env : Env} {d : Option Tmp} {s : Slot} {k k' : Env → Prop} (h : putS env d s k) (hk : ∀ e, k e → k' e) : putS env d s k' := by
  unfold putS at *
  split
  · exact hk _ h
  · split
    · simp_all
    · simp_all [forceK_eq]

theorem putAny_mono {env : Env} {d : Option Tmp} {s : Slot} {k k' : Env → Prop} (h : putAny env d s k) (hk : ∀ e, k e → k' e) : putAny env d s k' := by
  unfold putAny at *
  split
  · exact putS_mono h hk
  · simp only at h
    unfold putRef at *
    split
    · simp only at h
      split
      · simp_all
      · simp_all [forceK_eq]
    · exact hk _ h
  · simp_all

theorem putAny_apart {env : Env} {d : Option Tmp} {s : Slot} {k : Env → Prop} (h : putAny env d s k) {q : Nat} {cs : List Value} (hq : env[q]? = some (.priv cs)) : q ∉ d.toList := by
  intro hm
  cases d with
  | none => cases hm
  | some d =>
    simp at hm; subst hm
    unfold putAny at h
    split at h
    · simp [putS, hq] at h
    · simp [putRef, hq] at h
    · exact h

theorem allOf_mem {K : Nat → Prop} : ∀ {l : List Nat}, allOf l K → ∀ i ∈ l, K i
  | [], _, _, hi => by cases hi
  | [j], h, i, hi => by simp at hi; subst hi; exact h
  | j :: j' :: r, h, i, hi => by
    rcases List.mem_cons.1 hi with rfl | hi
    · exact h.1
    · exact allOf_mem (l := j' :: r) h.2 i hi

theorem apartPriv_spec {held : List (Nat × Held)} {o : Oper} (h : apartPriv held o = true) : ∀ q ∈ heldPriv held, q ∉ o.dst.toList := by
  intro q hq hm
  unfold apartPriv at h
  split at h
  · rename_i d hd
    rw [hd] at hm
    simp at hm
    subst hm
    simp [hq] at h
  · rename_i hd
    rw [hd] at hm; cases hm

theorem awpDraw_sound {ro : Option Nat} {R : PanR} {pv wr M : List Nat} {k : Env → Heap → Prop} (hs : plainOps ops = true) (hQ : ∀ (c : List PanicEntry) (d : Option Tmp) (v : Value) (a : Act) (w : World), (∀ x ∈ d.toList, x ∈ M) → Q (.panic c) (a.put d v) w → Q (.panic c) a w) (hM : ∀ o ∈ ops.toList, ∀ d ∈ o.dst.toList, d ∈ M) :
    ∀ (fuel : Nat) (listed : Array Bool) (held : List (Nat × Held)) (gn : List Nat) (S : List (Nat × (World → Prop))) (env : Env) (H : Heap) (a : Act) (w : World),
      awpDraw P R pv wr ops fuel listed held gn env H k → Rel H0 w0 env H a w → HeldOk P held S env a → (∀ p ∈ S, p.2 w) →
      (∀ env' H' a' w', Rel H0 w0 env' H' a' w' → k env' H' → Unch ro M wr env a env' a' → Q .normal a' w') →
      (∀ R0, R = some R0 → ∀ env' H' a' w' ch, Rel H0 w0 env' H' a' w' → R0 ch env' H' → Unch ro M wr env a env' a' → Q (.panic ch) a' w') → wpAnyG ro P .any ops Q fuel S listed a w := by
  intro fuel
  induction fuel with
  | zero =>
    intro listed held gn S env H a w h r hh hS hk hp
    unfold awpDraw at h
    split at h
    · rename_i hr; exact ⟨hr, hk _ _ _ _ r h (.refl _ _ _ _)⟩
    · exact h.elim
  | succ fuel ih =>
    intro listed held gn S env H a w h r hh hS hk hp
    unfold awpDraw at h
    split at h
    · rename_i hr
      exact ⟨fun _ => hk _ _ _ _ r h (.refl _ _ _ _), fun i hi => by rw [hr] at hi; cases hi⟩
    · rename_i i0 rs hr
      split at h
      · -- a looking operation is taken first
        rename_i i hq
        split at h
        · rename_i o ho
          obtain ⟨hc, h⟩ := ifB_iff h
          simp only [Bool.and_eq_true] at hc
          obtain ⟨⟨hf, hready⟩, hap⟩ := hc
          have hap := apartPriv_spec hap
          have hoM : ∀ d ∈ o.dst.toList, d ∈ M := hM o (by simpa using Array.mem_of_getElem? ho)
          have hfree := Region.free_spec ho hf
          have hin : i ∈ Region.ready .any ops listed := by simpa using hready
          rcases guardK_iff h r with ⟨hw, h⟩ | ⟨hw, h⟩
          · obtain ⟨s, v, hk', hsv, hrun⟩ := awpQ_sound h r.envOk
            have hrw := hrun w (r.needs o)
            obtain ⟨env2, H2, r2, hk2, u2⟩ := put_slot (ro := ro) (k := fun env' H' => H' = H ∧ awpDraw P R pv wr ops fuel (listed.setIfInBounds i true) (heldOf P i o env s ++ held) gn env' H' k) (wr := []) r hsv (putAny_mono hk' fun _ h => ⟨rfl, h⟩)
            obtain ⟨rfl, hk2⟩ := hk2
            have hh2 : HeldOk P held S env2 (a.put o.dst v) := hh.turn u2 hap (fun _ _ h => by cases h)
            have hkk : ∀ env' H' a' w', Rel H0 w0 env' H' a' w' → k env' H' → Unch ro M wr env2 (a.put o.dst v) env' a' → Q .normal a' w' :=
              fun env' H' a' w' r' hk' u' => hk env' H' a' w' r' hk' ((u2.mono hoM (fun _ h => by cases h)).trans u')
            have hpp : ∀ R0, R = some R0 → ∀ env' H' a' w' ch, Rel H0 w0 env' H' a' w' → R0 ch env' H' → Unch ro M wr env2 (a.put o.dst v) env' a' → Q (.panic ch) a' w' :=
              fun R0 e env' H' a' w' ch r' hk' u' => hp R0 e env' H' a' w' ch r' hk' ((u2.mono hoM (fun _ h => by cases h)).trans u')
            have key : ∀ (Si : World → Prop), YieldsIf P ops Si o v a → Si w → ((∀ w, Si w) ∨ ∃ e ∈ heldOf P i o env s, e.1 = i ∧ EntryOk P env2 (a.put o.dst v) e.2 Si) → wpAnyG ro P .any ops Q (fuel + 1) S listed a w := by
              intro Si hy hSi hH
              refine wpAnyG_first ho hs (fun c a w h => hQ c o.dst _ a w hoM h) fuel S listed a w hfree hin hy hSi hS ?_
              refine ih _ _ _ ((i, Si) :: S) _ _ _ _ hk2 r2 ?_ ?_ hkk hpp
              · intro p hp
                rcases List.mem_cons.1 hp with rfl | hp
                · rcases hH with h | ⟨e, he, h1, h2⟩
                  · exact .inl h
                  · exact .inr ⟨e, List.mem_append_left _ he, h1, h2⟩
                · rcases hh2 p hp with h | ⟨e, he, h1, h2⟩
                  · exact .inl h
                  · exact .inr ⟨e, List.mem_append_right _ he, h1, h2⟩
              · intro p hp
                rcases List.mem_cons.1 hp with rfl | hp
                · exact hSi
                · exact hS p hp
            cases hl : looks P o.op with
            | false =>
              refine key (fun _ => True) (.inl ⟨hw, fun w' _ => hrun w' (by unfold QNeeds; rw [hl]; trivial)⟩) trivial (.inl fun _ => trivial)
            | true =>
              cases hqb : qBase env o with
              | none =>
                refine key (fun w => (execOp a.eval o).run P w = .ok (.value v) w) (.inl ⟨hw, fun w' h => h⟩) hrw (.inr ⟨(i, .heap o env s), ?_, rfl, a, v, r.envOk, hsv, hqb, fun w h => h⟩)
                simp [heldOf, hl, hqb]
              | some q =>
                obtain ⟨b, e, cs, h1, h2, h3⟩ := (show ∃ b e cs, env[q]? = some (.priv cs) ∧ a.tmps[q]? = some (.pointer (some ⟨b, 0, none⟩)) ∧ w.heap[b]? = some (.cells cs.toArray e (0, 0)) by
                  have := r.needs (P := P) o
                  unfold QNeeds at this
                  rw [hl, hqb] at this
                  exact this)
                have hqd := putAny_apart hk' h1
                refine key (fun w => ∃ e, w.heap[b]? = some (.cells cs.toArray e (0, 0))) (.inl ⟨hw, fun w' ⟨e', h4⟩ => hrun w' ?_⟩) ⟨e, h3⟩ (.inr ⟨(i, .priv q), ?_, rfl, b, cs, u2.priv q cs h1 hqd (fun h => by cases h), (u2.tmps q hqd).trans h2, fun w e h => ⟨e, h⟩⟩)
                · unfold QNeeds; rw [hl, hqb]; exact ⟨b, e', cs, h1, h2, h4⟩
                · simp [heldOf, hl, hqb]
          · have hpv := put_val (ro := ro) (k := fun env' H' => H' = H ∧ awpDraw P R pv wr ops fuel (listed.setIfInBounds i true) held (o.dst.toList ++ gn) env' H' k) (wr := []) r (.refl r.agree) (putS_mono h fun _ h => ⟨rfl, h⟩)
            obtain ⟨env2, H2, r2, ⟨rfl, hk2⟩, u2⟩ := hpv
            refine wpAnyG_first ho hs (fun c a w h => hQ c o.dst _ a w hoM h) fuel S listed a w hfree hin (Si := fun _ => True) (.inr ⟨hw, rfl⟩) trivial hS ?_
            refine ih _ _ _ ((i, fun _ => True) :: S) _ _ _ _ hk2 r2 ?_ ?_ (fun env' H' a' w' r' hk' u' => hk env' H' a' w' r' hk' ((u2.mono hoM (fun _ h => by cases h)).trans u'))
              fun R0 e env' H' a' w' ch r' hk' u' => hp R0 e env' H' a' w' ch r' hk' ((u2.mono hoM (fun _ h => by cases h)).trans u')
            · intro p hp
              rcases List.mem_cons.1 hp with hp | hp
              · exact .inl fun w => by rw [hp]; trivial
              · exact hh.turn u2 hap (fun _ _ h => by cases h) p hp
            · intro p hp
              rcases List.mem_cons.1 hp with hp | hp
              · rw [hp]; trivial
              · exact hS p hp
        · exact h.elim
      · -- whichever comes up
        rename_i hq
        refine ⟨fun h0 => (by rw [hr] at h0; cases h0), fun i hi => ?_⟩
        rw [hr] at hi
        have h := allOf_mem h i hi
        split at h
        · rename_i o ho
          obtain ⟨hap, h⟩ := ifB_iff h
          have hap := apartPriv_spec hap
          have hoM : ∀ d ∈ o.dst.toList, d ∈ M := hM o (by simpa using Array.mem_of_getElem? ho)
          unfold wpOpIn
          rw [ho]
          simp only
          have go : ∀ {gn' : List Nat} {env' : Env} {H' : Heap} {a' : Act} {w' : World} {wr' : List Nat}, Rel H0 w0 env' H' a' w' →
              again P H' (prune .any ops held i) (awpDraw P R pv wr ops fuel (listed.setIfInBounds i true) (prune .any ops held i) gn' env' H' k) → Unch ro o.dst.toList wr' env a env' a' → (∀ q ∈ wr', q ∈ wr) →
              (∀ q ∈ heldPriv (prune .any ops held i), q ∉ wr') → (∀ p ∈ prune .any ops S i, p.2 w') ∧ wpAnyG ro P .any ops Q fuel (prune .any ops S i) (listed.setIfInBounds i true) a' w' := by
            intro gn' env' H' a' w' wr' r' hag u hwr hno
            obtain ⟨hd, hag⟩ := again_iff hag
            have hh' : HeldOk P (prune .any ops held i) (prune .any ops S i) env' a' := (hh.prune i).turn u hap hno
            have hS' := hh'.all r' hag
            exact ⟨hS', ih _ _ _ _ _ _ _ _ hd r' hh' hS' (fun env'' H'' a'' w'' r'' hk' u' => hk env'' H'' a'' w'' r'' hk' ((u.mono hoM hwr).trans u'))
              fun R0 e env'' H'' a'' w'' ch r'' hk' u' => hp R0 e env'' H'' a'' w'' ch r'' hk' ((u.mono hoM hwr).trans u')⟩
          rcases guardK_iff h r with ⟨hw, h⟩ | ⟨hw, h⟩
          · rw [if_pos hw]
            refine Oper.wpIn_mono (fun a' w' hp => ?_) (awpOp_sound (Q := Q) h r fun R0 e ch H' w' ht hq => hp R0 e env H' a w' ch (r.turn ht) hq (.refl _ _ _ _))
            obtain ⟨env1, H1, r1, h1, u1⟩ := hp
            exact go r1 h1 u1 (fun q hq => (List.mem_filter.1 hq).1) fun q hq hq' => by simpa [hq] using (List.mem_filter.1 hq').2
          · rw [if_neg (by simp [hw])]
            obtain ⟨env1, H1, r1, ⟨rfl, h1⟩, u1⟩ := put_val (ro := ro) (k := fun env' H' => H' = H ∧ again P H (prune .any ops held i) (awpDraw P R pv wr ops fuel (listed.setIfInBounds i true) (prune .any ops held i) (o.dst.toList ++ gn) env' H k)) (wr := []) r (.refl r.agree) (putS_mono h fun _ h => ⟨rfl, h⟩)
            exact ⟨fun _ _ => trivial, go r1 h1 u1 (fun _ h => by cases h) (fun _ _ h => by cases h)⟩
        · exact h.elim
end
end Go.Ab
