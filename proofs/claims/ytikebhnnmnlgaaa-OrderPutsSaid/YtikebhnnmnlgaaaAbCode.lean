/- Code: the deep reading of control flow, and that it is sound. -/
import Derived.Test.YtikebhnnmnlgaaaAbDraw
namespace Go.Ab
set_option linter.unusedVariables false

/-! ### Which slots a piece of code writes -/

def mods : Code → List Nat
  | .region _ ops _ => ops.toList.flatMap fun o => o.dst.toList
  | .seq a b => mods a ++ mods b
  | .cond _ a b => mods a ++ mods b
  | .block _ b => mods b
  | .loop b => mods b
  | .scope b => mods b
  | _ => []

/-- The first region of a piece of code: by it joins and loops are named. -/
def keyOf : Code → Nat
  | .region id _ _ => id + 1
  | .seq a b => if keyOf a = 0 then keyOf b else keyOf a
  | .cond _ a b => if keyOf a = 0 then keyOf b else keyOf a
  | .block _ b => keyOf b
  | .loop b => keyOf b
  | .scope b => keyOf b
  | .rangeFunc _ _ a b => if keyOf a = 0 then keyOf b else keyOf a
  | _ => 0

abbrev Ann := List (Nat × List Nat)
def Ann.at (ann : Ann) (k : Nat) : Option (List Nat) := match ann with | [] => none | (i, l) :: r => if i = k then some l else Ann.at r k

/-! ### Operations in a row -/

abbrev awpOps (P : Program) (pv wr : List Nat) (all : List Oper) : List Oper → Env → Heap → (Env → Heap → Prop) → Prop
  | [], env, H, k => k env H
  | o :: rest, env, H, k =>
    match o.guard with
    | none => awpOp P pv wr o env H fun env' H' => awpOps P pv wr all rest env' H' k
    | some (g, want) => (match (all[g]?).bind (·.dst) with
      | some d => (match env[d]? with
        | some (.val v) => asB v fun b =>
            ifB b
              (forceK (env.set d (.val (.bool true))) fun env => ifB want (awpOp P pv wr o env H fun env' H' => awpOps P pv wr all rest env' H' k)
                (putS env o.dst (.val undef) fun env' => awpOps P pv wr all rest env' H k))
              (forceK (env.set d (.val (.bool false))) fun env => ifB want (putS env o.dst (.val undef) fun env' => awpOps P pv wr all rest env' H k)
                (awpOp P pv wr o env H fun env' H' => awpOps P pv wr all rest env' H' k))
        | _ => False)
      | none => False)

/-- Joined by an annotation, or not. -/
abbrev joinA (ann : Ann) (key : Nat) (env : Env) (ms wr : List Nat) (body : List Nat → (Env → Heap → Prop) → Prop) (k : Env → Heap → Prop) : Prop :=
  match Ann.at ann key with
  | none => body wr k
  | some ls => JoinPT (fun K => body (keeps wr ls ++ ms) fun env' H' => projK env' ls fun s => K s H') fun s H' => forceK (restore env ms ls s) fun env' => k env' H'

abbrev awp (P : Program) (pv : List Nat) (ann : Ann) : Code → List Nat → (Exit → Env → Heap → Prop) → Env → Heap → Prop
  | .skip, wr, Q, env, H => Q .normal env H
  | .label _, wr, Q, env, H => Q .normal env H
  | .region id ops false, wr, Q, env, H => joinA ann (3 * (id + 1) + 2) env (ops.toList.flatMap fun o => o.dst.toList) wr (fun wr' k => awpOps P pv wr' ops.toList ops.toList env H k) (Q .normal)
  | .region id ops true, wr, Q, env, H => ifB (P.follows .mixedOrders && Region.noSelect ops) (joinA ann (3 * (id + 1) + 2) env (ops.toList.flatMap fun o => o.dst.toList) wr
      (fun wr' k => awpDraw P pv wr' ops ops.size (Array.replicate ops.size false) [] env H k) (Q .normal)) False
  | .seq a b, wr, Q, env, H => awp P pv ann a wr (fun e env' H' => match e with | .normal => awp P pv ann b wr Q env' H' | e => Q e env' H') env H
  | .cond c a b, wr, Q, env, H => opd env c fun v => asB v fun t =>
      (match Ann.at ann (3 * keyOf (.cond c a b)) with
       | none => ifB t (awp P pv ann a wr Q env H) (awp P pv ann b wr Q env H)
       | some ls => JoinPT (fun K => ifB t
            (awp P pv ann a (keeps wr ls ++ (mods a ++ mods b)) (fun e env' H' => match e with | .normal => projK env' ls fun s => K s H' | e => Q e env' H') env H)
            (awp P pv ann b (keeps wr ls ++ (mods a ++ mods b)) (fun e env' H' => match e with | .normal => projK env' ls fun s => K s H' | e => Q e env' H') env H))
          fun s H' => forceK (restore env (mods a ++ mods b) ls s) fun env' => Q .normal env' H')
  | .block id b, wr, Q, env, H =>
      (match Ann.at ann (3 * keyOf b + 1) with
       | none => awp P pv ann b wr (fun e env' H' => match e with | .normal => Q .normal env' H' | .exit i => if i = id then Q .normal env' H' else Q (.exit i) env' H' | e => Q e env' H') env H
       | some ls => JoinPT (fun K => awp P pv ann b (keeps wr ls ++ mods b) (fun e env' H' => match e with
            | .normal => projK env' ls fun s => K s H'
            | .exit i => if i = id then projK env' ls fun s => K s H' else Q (.exit i) env' H'
            | e => Q e env' H') env H)
          fun s H' => forceK (restore env (mods b) ls s) fun env' => Q .normal env' H')
  | .loop b, wr, Q, env, H =>
      (match Ann.at ann (3 * keyOf b) with
       | none => False
       | some ls => projK env ls fun s0 => LoopPT (fun s H K => forceK (restore env (mods b) ls s) fun env => awp P pv ann b (keeps wr ls ++ mods b) (fun e env' H' => match e with | .normal => projK env' ls fun s' => K s' H' | e => Q e env' H')
            env H) s0 H)
  | .exit id, wr, Q, env, H => Q (.exit id) env H
  | .ret, wr, Q, env, H => Q .ret env H
  | _, _, _, _, _ => False

/-! ### Restoring -/

theorem findIx_some {l : List Nat} {i j : Nat} (h : findIx l i = some j) : l[j]? = some i := by
  induction l generalizing j with
  | nil => simp [findIx] at h
  | cons x r ih =>
    unfold findIx at h
    split at h
    · rename_i e; cases h; simp [e]
    · cases hf : findIx r i with
      | none => rw [hf] at h; cases h
      | some m => rw [hf] at h; cases h; simpa using ih hf

theorem findIx_none {l : List Nat} {i : Nat} (h : findIx l i = none) : i ∉ l := by
  induction l with
  | nil => simp
  | cons x r ih =>
    unfold findIx at h
    split at h
    · cases h
    · rename_i hne
      cases hf : findIx r i with
      | none => simp only [List.mem_cons, not_or]; exact ⟨fun e => hne e.symm, ih hf⟩
      | some m => rw [hf] at h; cases h

theorem restoreFrom_get (mods ls : List Nat) (s : List (List Value)) : ∀ (e : Env) (k i : Nat), (restoreFrom mods ls s k e)[i]? = (e[i]?).map (restoreAt mods ls s (k + i))
  | [], k, i => by simp [restoreFrom]
  | x :: r, k, i => by
    cases i with
    | zero => simp [restoreFrom]
    | succ i =>
      simp only [restoreFrom, List.getElem?_cons_succ]
      rw [restoreFrom_get mods ls s r (k + 1) i, show k + 1 + i = k + (i + 1) from by omega]

theorem restore_get (env : Env) (mods ls : List Nat) (s : List (List Value)) (i : Nat) : (restore env mods ls s)[i]? = (env[i]?).map (restoreAt mods ls s i) := by
  simpa [restore] using restoreFrom_get mods ls s env 0 i

theorem restoreFrom_length (mods ls : List Nat) (s : List (List Value)) : ∀ (e : Env) (k : Nat), (restoreFrom mods ls s k e).length = e.length
  | [], k => rfl
  | x :: r, k => by simp [restoreFrom, restoreFrom_length mods ls s r]

/-- What a list of what is passed on tells of an environment. -/
def Told (env : Env) (ls : List Nat) (s : List (List Value)) : Prop :=
  ∀ j c, ls[j]? = some c → (c % 2 = 1 ∧ ∃ cs, env[c / 2]? = some (.priv cs) ∧ s.getD j [] = cs) ∨ (c % 2 = 0 ∧ ∃ v, env[c / 2]? = some (.val v) ∧ s.getD j [] = [v])

theorem projK_iff {env : Env} : ∀ {ls : List Nat} {k : List (List Value) → Prop}, projK env ls k → ∃ s, k s ∧ Told env ls s
  | [], k, h => ⟨[], h, fun j i hj => by simp at hj⟩
  | c :: r, k, h => by
    unfold projK at h
    split at h
    · rename_i cs hc he
      obtain ⟨s, hk, hs⟩ := projK_iff h
      refine ⟨cs :: s, hk, fun j x hj => ?_⟩
      cases j with
      | zero => simp at hj; subst hj; exact .inl ⟨by simpa using hc, cs, he, rfl⟩
      | succ j => simpa using hs j x (by simpa using hj)
    · rename_i v hc he
      obtain ⟨s, hk, hs⟩ := projK_iff h
      refine ⟨[v] :: s, hk, fun j y hj => ?_⟩
      cases j with
      | zero => simp at hj; subst hj; exact .inr ⟨by simp at hc; omega, v, he, rfl⟩
      | succ j => simpa using hs j y (by simpa using hj)
    · exact h.elim

theorem Told.priv {env : Env} {ls : List Nat} {s : List (List Value)} (h : Told env ls s) {i j : Nat} (hf : findIx ls (2 * i + 1) = some j) : env[i]? = some (.priv (sc s j)) := by
  rcases h j _ (findIx_some hf) with ⟨_, cs, he, hs⟩ | ⟨h0, _⟩
  · rw [show (2 * i + 1) / 2 = i from by omega] at he
    rw [he, ← hs]; rfl
  · omega

theorem Told.val {env : Env} {ls : List Nat} {s : List (List Value)} (h : Told env ls s) {i j : Nat} (hf : findIx ls (2 * i) = some j) : env[i]? = some (.val (sv s j)) := by
  rcases h j _ (findIx_some hf) with ⟨h0, _⟩ | ⟨_, v, he, hs⟩
  · omega
  · rw [show (2 * i) / 2 = i from by omega] at he
    rw [he]
    unfold sv
    rw [hs]; rfl

theorem mem_keeps {wr ls : List Nat} {i : Nat} (h : i ∈ keeps wr ls) : i ∈ wr ∧ 2 * i + 1 ∈ ls := by
  obtain ⟨h1, h2⟩ := List.mem_filter.1 h
  exact ⟨h1, by simpa using h2⟩

section
variable {P : Program} {H0 : Heap} {w0 : World} {env env' : Env} {H H' : Heap} {a a' : Act} {w w' : World}

theorem Rel.restore {ms wr ls : List Nat} {s : List (List Value)} (r : Rel H0 w0 env H a w) (r' : Rel H0 w0 env' H' a' w') (u : Unch ms wr env a env' a') (hwr : ∀ i ∈ wr, 2 * i + 1 ∈ ls)
    (hs : Told env' ls s) : Rel H0 w0 (restore env ms ls s) H' a' w' := by
  have hlen : env.length = env'.length := by rw [← r.len, ← r'.len, u.size]
  -- what a restored slot is
  have key : ∀ (i : Nat) x, (Ab.restore env ms ls s)[i]? = some x →
      (x = .unk) ∨ (∃ v, x = .val v ∧ a'.tmps[i]? = some v) ∨ (∃ cs, x = .priv cs ∧ env'[i]? = some (.priv cs)) := by
    intro i x hx
    rw [restore_get] at hx
    cases he : env[i]? with
    | none => rw [he] at hx; cases hx
    | some y =>
      rw [he] at hx
      simp only [Option.map_some, Option.some.injEq] at hx
      unfold restoreAt at hx
      cases hf : findIx ls (2 * i + 1) with
      | some j =>
        rw [hf] at hx
        exact .inr (.inr ⟨_, hx.symm, hs.priv hf⟩)
      | none =>
        rw [hf] at hx
        simp only at hx
        cases hf2 : findIx ls (2 * i) with
        | some j =>
          rw [hf2] at hx
          exact .inr (.inl ⟨_, hx.symm, r'.ok i _ (hs.val hf2)⟩)
        | none =>
          rw [hf2] at hx
          simp only at hx
          split at hx
          · exact .inl hx.symm
          · rename_i hm
            have hm' : i ∉ ms := by simpa using hm
            have hw' : i ∉ wr := fun h => findIx_none hf (hwr i h)
            cases y with
            | unk => exact .inl hx.symm
            | val v =>
              have := r.ok i _ he
              exact .inr (.inl ⟨v, hx.symm, by rw [u.tmps i hm']; exact this⟩)
            | priv c => exact .inr (.inr ⟨c, hx.symm, u.priv i c he hm' hw'⟩)
            | ref q o => exact .inl hx.symm
  refine ⟨r'.agree, r'.kept, by simp only [Ab.restore, restoreFrom_length]; rw [r'.len, hlen], ?_, ?_, r'.marks, r'.marksApart⟩
  · intro i x hx
    rcases key i x hx with rfl | ⟨v, rfl, hv⟩ | ⟨cs, rfl, hc⟩
    · trivial
    · exact hv
    · exact r'.ok i _ hc
  · intro i j c c' p hi hj
    have hi' : env'[i]? = some (.priv c) := by
      rcases key i _ hi with h | ⟨v, h, _⟩ | ⟨cs, h, hc⟩
      · cases h
      · cases h
      · cases h; exact hc
    have hj' : env'[j]? = some (.priv c') := by
      rcases key j _ hj with h | ⟨v, h, _⟩ | ⟨cs, h, hc⟩
      · cases h
      · cases h
      · cases h; exact hc
    exact r'.apart i j c c' p hi' hj'

theorem Unch.restore {ms ls wr0 : List Nat} {s : List (List Value)} (u : Unch ms (keeps wr0 ls) env a env' a') (hs : Told env' ls s) :
    Unch ms wr0 env a (restore env ms ls s) a' := by
  refine ⟨u.size, u.tmps, fun i cs hc hm hw => ?_⟩
  have h' := u.priv i cs hc hm (fun h => hw (mem_keeps h).1)
  rw [restore_get, hc]
  simp only [Option.map_some, Option.some.injEq]
  unfold restoreAt
  cases hf : findIx ls (2 * i + 1) with
  | some j =>
    have := hs.priv hf
    rw [h'] at this; cases this; rfl
  | none =>
    simp only
    cases hf2 : findIx ls (2 * i) with
    | some j =>
      have := hs.val hf2
      rw [h'] at this; cases this
    | none =>
      simp only
      rw [if_neg (by simpa using hm)]

/-! ### Loops -/

theorem wp_loop_n {c : Code} {Q : Exit → Act → World → Prop} (I : Nat → Act → World → Prop) (n0 : Nat) (h₀ : I n0 a w)
    (round : ∀ n a w, I n a w → c.wp P (Exit.then (fun a' w' => ∃ m, m < n ∧ I m a' w') Q) a w) : (Code.loop c).wp P Q a w := by
  intro b k cs
  have key : ∀ n a w, I n a w → ∃ e a' w', Q e a' w' ∧ Arrives P (lone (b.at a (.code c :: .inLoop c :: k)) cs w) b k cs e a' w' := by
    intro n
    induction n using Nat.strongRecOn with
    | _ n ih =>
      intro a w hI
      obtain ⟨e, a₁, w₁, hq, harr⟩ := round n a w hI b (.inLoop c :: k) cs
      cases e with
      | normal =>
        obtain ⟨m, hlt, hI₁⟩ := hq
        obtain ⟨e₂, a₂, w₂, hq₂, harr₂⟩ := ih m hlt a₁ w₁ hI₁
        exact ⟨e₂, a₂, w₂, hq₂, .of_steps (Steps.trans harr (.one step_inLoop)) harr₂⟩
      | exit id => exact ⟨_, a₁, w₁, hq, .pass (x := .inLoop c) rfl (fun _ _ => .inl (by simp)) harr⟩
      | goto l => exact ⟨_, a₁, w₁, hq, .pass (x := .inLoop c) rfl (fun _ _ => .inl (by simp)) harr⟩
      | ret => exact ⟨_, a₁, w₁, hq, .pass (x := .inLoop c) rfl (fun _ _ => .inl (by simp)) harr⟩
      | panic ch => exact ⟨_, a₁, w₁, hq, .pass (x := .inLoop c) rfl (fun _ _ => .inl (by simp)) harr⟩
      | outgrown => exact ⟨_, a₁, w₁, hq, .pass (x := .inLoop c) rfl (fun _ _ => .inl (by simp)) harr⟩
  obtain ⟨e, a', w', hq, harr⟩ := key n0 a w h₀
  exact ⟨e, a', w', hq, .of_steps (.one step_loop) harr⟩

/-! ### The soundness of code -/

theorem yielded_of {ops : Array Oper} {g d : Nat} {b : Bool} (r : Rel H0 w0 env H a w) (hd : (ops.toList[g]?).bind (·.dst) = some d) (hv : env[d]? = some (.val (.bool b))) :
    yielded ops a.tmps g = some b := by
  unfold yielded
  have h := r.ok d _ hv
  simp only [SlotOk] at h
  have hd' : (ops[g]?).bind (·.dst) = some d := by simpa using hd
  rw [hd']
  simp [h]

theorem Rel.setSame {d : Nat} {v : Value} (r : Rel H0 w0 env H a w) (hv : env[d]? = some (.val v)) {v' : Value} (he : v = v') : Rel H0 w0 (env.set d (.val v')) H a w := by
  subst he
  have : env.set d (.val v) = env := by
    apply List.ext_getElem?
    intro i
    by_cases hi : d = i
    · subst hi
      rw [List.getElem?_set_self (List.getElem?_eq_some_iff.1 hv).1, hv]
    · rw [List.getElem?_set_ne hi]
  rw [this]; exact r

theorem Unch.ofSet {M wr : List Nat} {d : Nat} {v : Value} {e2 : Env} {a2 : Act} (hv : ∃ v, env[d]? = some (.val v)) (u : Unch M wr (env.set d (.val v)) a e2 a2) : Unch M wr env a e2 a2 := by
  obtain ⟨v0, hv⟩ := hv
  refine ⟨u.size, u.tmps, fun i cs hc hm hw => u.priv i cs ?_ hm hw⟩
  have : d ≠ i := by intro e; subst e; rw [hv] at hc; cases hc
  rw [List.getElem?_set_ne this]; exact hc

theorem awpOps_sound {pv wr M : List Nat} (ops : Array Oper) {Q : Exit → Act → World → Prop} : ∀ (l : List Oper) {env : Env} {H : Heap} {a : Act} {w : World} {k : Env → Heap → Prop},
    awpOps P pv wr ops.toList l env H k → Rel H0 w0 env H a w → (∀ o ∈ l, ∀ d ∈ o.dst.toList, d ∈ M) →
    (∀ env' H' a' w', Rel H0 w0 env' H' a' w' → k env' H' → Unch M wr env a env' a' → Q .normal a' w') → wpList P ops Q l a w
  | [], env, H, a, w, k, h, r, hM, hk => hk _ _ _ _ r h (.refl _ _ _ _)
  | o :: rest, env, H, a, w, k, h, r, hM, hk => by
    have hMo : ∀ d ∈ o.dst.toList, d ∈ M := hM o (by simp)
    -- an operation that is carried out
    have go : ∀ {env : Env}, Rel H0 w0 env H a w → (∀ env' H' a' w', Rel H0 w0 env' H' a' w' → k env' H' → Unch M wr env a env' a' → Q .normal a' w') →
        awpOp P pv wr o env H (fun env' H' => awpOps P pv wr ops.toList rest env' H' k) → o.wp P a w (wpList P ops Q rest) Q := by
      intro env r hk h
      have hs := awpOp_sound (Q := Q) h r
      refine Oper.wp_mono (fun a' w' hp => ?_) hs
      obtain ⟨env1, H1, r1, h1, u1⟩ := hp
      exact awpOps_sound ops rest h1 r1 (fun o' ho => hM o' (by simp [ho])) fun env' H' a'' w'' r' hk' u' =>
        hk env' H' a'' w'' r' hk' ((u1.mono hMo (fun _ h => h)).trans u')
    -- one that is not
    have skip : ∀ {env : Env}, Rel H0 w0 env H a w → (∀ env' H' a' w', Rel H0 w0 env' H' a' w' → k env' H' → Unch M wr env a env' a' → Q .normal a' w') →
        putS env o.dst (.val undef) (fun env' => awpOps P pv wr ops.toList rest env' H k) → wpList P ops Q rest (a.put o.dst undef) w := by
      intro env r hk h
      obtain ⟨env1, H1, r1, h1, u1⟩ := put_val (k := fun env' H' => awpOps P pv wr ops.toList rest env' H' k) (wr := wr) r (.refl r.agree) h
      exact awpOps_sound ops rest h1 r1 (fun o' ho => hM o' (by simp [ho])) fun env' H' a'' w'' r' hk' u' =>
        hk env' H' a'' w'' r' hk' ((u1.mono hMo (fun _ h => h)).trans u')
    unfold awpOps at h
    unfold wpList
    split at h
    · rename_i hgd
      rw [if_pos (by simp [Region.wanted, hgd])]
      exact .inl (go r hk h)
    · rename_i g want hgd
      split at h
      · rename_i d hd
        split at h
        · rename_i v hv
          obtain ⟨b, rfl, h⟩ := asB_iff h
          have hy := yielded_of r hd hv
          have hset : ∀ {e2 : Env} {a2 : Act}, Unch M wr (env.set d (.val (.bool b))) a e2 a2 → Unch M wr env a e2 a2 := fun u => u.ofSet ⟨_, hv⟩
          have r2 := r.setSame hv rfl
          have hk2 : ∀ env' H' a' w', Rel H0 w0 env' H' a' w' → k env' H' → Unch M wr (env.set d (.val (.bool b))) a env' a' → Q .normal a' w' :=
            fun env' H' a' w' r' hk' u => hk env' H' a' w' r' hk' (hset u)
          cases b <;> cases want <;> simp only [ifB, forceK_eq] at h
          · rw [if_pos (by simp [Region.wanted, hgd, hy])]; exact .inl (go r2 hk2 h)
          · rw [if_neg (by simp [Region.wanted, hgd, hy])]; exact skip r2 hk2 h
          · rw [if_neg (by simp [Region.wanted, hgd, hy])]; exact skip r2 hk2 h
          · rw [if_pos (by simp [Region.wanted, hgd, hy])]; exact .inl (go r2 hk2 h)
        · exact h.elim
      · exact h.elim

/-- What a piece of code comes to. -/
def CPost (H0 : Heap) (w0 : World) (M wr : List Nat) (env : Env) (a : Act) (Q : Exit → Env → Heap → Prop) (e : Exit) (a' : Act) (w' : World) : Prop :=
  ∃ env' H', Rel H0 w0 env' H' a' w' ∧ Q e env' H' ∧ Unch M wr env a env' a'

theorem Unch.drop {M wr : List Nat} {e1 : Env} {a1 : Act} (u : Unch M (wr ++ M) env a e1 a1) : Unch M wr env a e1 a1 :=
  ⟨u.size, u.tmps, fun i cs hc hm hw => u.priv i cs hc hm (by simp [hm, hw])⟩

theorem join_sound {ms wr ls : List Nat} {k : Env → Heap → Prop} (r : Rel H0 w0 env H a w) (r' : Rel H0 w0 env' H' a' w') (u : Unch ms (keeps wr ls) env a env' a')
    (h : projK env' ls fun s => k (restore env ms ls s) H') : ∃ env2, Rel H0 w0 env2 H' a' w' ∧ k env2 H' ∧ Unch ms wr env a env2 a' := by
  obtain ⟨s, hk, hs⟩ := projK_iff h
  exact ⟨_, r.restore r' u (fun i hi => (mem_keeps hi).2) hs, hk, u.restore hs⟩

theorem region_sound {pv wr : List Nat} {ann : Ann} {id : Nat} {ops : Array Oper} {Q : Exit → Env → Heap → Prop} (r : Rel H0 w0 env H a w)
    (h : joinA ann (3 * (id + 1) + 2) env (ops.toList.flatMap fun o => o.dst.toList) wr (fun wr' k => awpOps P pv wr' ops.toList ops.toList env H k) (Q .normal)) :
    (Code.region id ops false).wp P (CPost H0 w0 (ops.toList.flatMap fun o => o.dst.toList) wr env a Q) a w := by
  have hM : ∀ o ∈ ops.toList, ∀ d ∈ o.dst.toList, d ∈ (ops.toList.flatMap fun o => o.dst.toList) := fun o ho d hd => List.mem_flatMap.2 ⟨o, ho, hd⟩
  unfold joinA at h
  split at h
  · exact wp_region_list (awpOps_sound ops ops.toList h r hM fun env' H' a' w' r' hk u => ⟨env', H', r', hk, u⟩)
  · rename_i ls hls
    unfold JoinPT at h
    simp only [forceK_eq] at h
    exact wp_region_list (awpOps_sound ops ops.toList h r hM fun env' H' a' w' r' hk u => by
      obtain ⟨env2, r2, hk2, u2⟩ := join_sound (k := Q .normal) r r' u.drop hk
      exact ⟨env2, H', r2, hk2, u2⟩)

theorem draw_sound {pv wr : List Nat} {ann : Ann} {id : Nat} {ops : Array Oper} {Q : Exit → Env → Heap → Prop} (r : Rel H0 w0 env H a w)
    (h : ifB (P.follows .mixedOrders && Region.noSelect ops) (joinA ann (3 * (id + 1) + 2) env (ops.toList.flatMap fun o => o.dst.toList) wr
      (fun wr' k => awpDraw P pv wr' ops ops.size (Array.replicate ops.size false) [] env H k) (Q .normal)) False) :
    (Code.region id ops true).wp P (CPost H0 w0 (ops.toList.flatMap fun o => o.dst.toList) wr env a Q) a w := by
  have hM : ∀ o ∈ ops.toList, ∀ d ∈ o.dst.toList, d ∈ (ops.toList.flatMap fun o => o.dst.toList) := fun o ho d hd => List.mem_flatMap.2 ⟨o, ho, hd⟩
  obtain ⟨hc, h⟩ := ifB_iff h
  simp only [Bool.and_eq_true] at hc
  have r0 : Rel H0 w0 env H a { w with drawn := w.drawn + 1 } := r.turn (Turns.drew r.agree)
  have main : ∀ {k : Env → Heap → Prop} {wr' : List Nat}, awpDraw P pv wr' ops ops.size (Array.replicate ops.size false) [] env H k →
      (∀ env' H' a' w', Rel H0 w0 env' H' a' w' → k env' H' → Unch (ops.toList.flatMap fun o => o.dst.toList) wr' env a env' a' → CPost H0 w0 (ops.toList.flatMap fun o => o.dst.toList) wr env a Q .normal a' w') →
      (Code.region id ops true).wp P (CPost H0 w0 (ops.toList.flatMap fun o => o.dst.toList) wr env a Q) a w := by
    intro k wr' h hk
    refine wp_mono (wp_region_any (Q := fun e a' w' => e = .normal ∧ CPost H0 w0 (ops.toList.flatMap fun o => o.dst.toList) wr env a Q .normal a' w') hc.1
      (wpAny_of_G _ [] _ _ _ (awpDraw_sound hc.2 (fun c a w h => by cases h.1) hM ops.size _ [] [] env H a _ h r0 (fun p hp => by cases hp) (fun p hp => by cases hp)
        fun env' H' a' w' r' hk' u => ⟨rfl, hk env' H' a' w' r' hk' u⟩))) ?_
    rintro e a' w' ⟨rfl, h⟩
    exact h
  unfold joinA at h
  split at h
  · exact main h fun env' H' a' w' r' hk u => ⟨env', H', r', hk, u⟩
  · rename_i ls hls
    unfold JoinPT at h
    simp only [forceK_eq] at h
    exact main h fun env' H' a' w' r' hk u => by
      obtain ⟨env2, r2, hk2, u2⟩ := join_sound (k := Q .normal) r r' u.drop hk
      exact ⟨env2, H', r2, hk2, u2⟩

theorem awp_sound {pv : List Nat} {ann : Ann} : ∀ (c : Code) {wr : List Nat} {Q : Exit → Env → Heap → Prop} {env : Env} {H : Heap} {a : Act} {w : World},
    awp P pv ann c wr Q env H → Rel H0 w0 env H a w → c.wp P (CPost H0 w0 (mods c) wr env a Q) a w
  | .skip, wr, Q, env, H, a, w, h, r => wp_skip ⟨env, H, r, h, .refl _ _ _ _⟩
  | .label _, wr, Q, env, H, a, w, h, r => wp_label ⟨env, H, r, h, .refl _ _ _ _⟩
  | .region id ops false, wr, Q, env, H, a, w, h, r => region_sound r h
  | .region id ops true, wr, Q, env, H, a, w, h, r => draw_sound r h
  | .seq x y, wr, Q, env, H, a, w, h, r => by
    refine wp_seq (wp_mono (awp_sound x h r) ?_)
    rintro e a1 w1 ⟨env1, H1, r1, hq, u1⟩
    have u1' : Unch (mods (.seq x y)) wr env a env1 a1 := u1.mono (fun i hi => List.mem_append_left _ hi) (fun _ h => h)
    cases e with
    | normal =>
      refine wp_mono (awp_sound y hq r1) ?_
      rintro e a2 w2 ⟨env2, H2, r2, hq2, u2⟩
      exact ⟨env2, H2, r2, hq2, u1'.trans (u2.mono (fun i hi => List.mem_append_right _ hi) (fun _ h => h))⟩
    | exit id => exact ⟨env1, H1, r1, hq, u1'⟩
    | goto l => exact ⟨env1, H1, r1, hq, u1'⟩
    | ret => exact ⟨env1, H1, r1, hq, u1'⟩
    | panic ch => exact ⟨env1, H1, r1, hq, u1'⟩
    | outgrown => exact ⟨env1, H1, r1, hq, u1'⟩
  | .cond c x y, wr, Q, env, H, a, w, h, r => by
    unfold awp at h
    obtain ⟨v, hv, h⟩ := opd_iff h
    obtain ⟨t, rfl, h⟩ := asB_iff h
    refine wp_cond (r.eval hv) ?_
    split at h
    · cases t <;> simp only [ifB] at h
      · exact wp_mono (awp_sound y h r) fun e a1 w1 ⟨env1, H1, r1, hq, u1⟩ => ⟨env1, H1, r1, hq, u1.mono (fun i hi => List.mem_append_right _ hi) (fun _ h => h)⟩
      · exact wp_mono (awp_sound x h r) fun e a1 w1 ⟨env1, H1, r1, hq, u1⟩ => ⟨env1, H1, r1, hq, u1.mono (fun i hi => List.mem_append_left _ hi) (fun _ h => h)⟩
    · rename_i ls hls
      unfold JoinPT at h
      simp only [forceK_eq] at h
      have fin : ∀ (z : Code), (∀ i ∈ mods z, i ∈ mods x ++ mods y) →
          awp P pv ann z (keeps wr ls ++ (mods x ++ mods y)) (fun e env' H' => match e with | .normal => projK env' ls fun s => Q .normal (restore env (mods x ++ mods y) ls s) H' | e => Q e env' H') env H →
          z.wp P (CPost H0 w0 (mods (.cond c x y)) wr env a Q) a w → True := fun _ _ _ _ => trivial
      have main : ∀ (z : Code) {e : Exit} {a1 : Act} {w1 : World}, (∀ i ∈ mods z, i ∈ mods x ++ mods y) →
          CPost H0 w0 (mods z) (keeps wr ls ++ (mods x ++ mods y)) env a (fun e env' H' => match e with | .normal => projK env' ls fun s => Q .normal (restore env (mods x ++ mods y) ls s) H' | e => Q e env' H') e a1 w1 →
          CPost H0 w0 (mods (.cond c x y)) wr env a Q e a1 w1 := by
        rintro z e a1 w1 hz ⟨env1, H1, r1, hq, u1⟩
        have u1 := (u1.mono (M' := mods x ++ mods y) hz (fun _ h => h)).drop
        cases e with
        | normal =>
          obtain ⟨env2, r2, hk2, u2⟩ := join_sound (k := Q .normal) r r1 u1 hq
          exact ⟨env2, H1, r2, hk2, u2⟩
        | _ => exact ⟨env1, H1, r1, hq, u1.mono (fun _ h => h) (fun i hi => (mem_keeps hi).1)⟩
      cases t <;> simp only [ifB] at h
      · exact wp_mono (awp_sound y h r) fun e a1 w1 hp => main y (fun i hi => List.mem_append_right _ hi) hp
      · exact wp_mono (awp_sound x h r) fun e a1 w1 hp => main x (fun i hi => List.mem_append_left _ hi) hp
  | .block id b, wr, Q, env, H, a, w, h, r => by
    unfold awp at h
    split at h
    · refine wp_block (wp_mono (awp_sound b h r) ?_)
      rintro e a1 w1 ⟨env1, H1, r1, hq, u1⟩
      cases e with
      | exit i =>
        simp only [Exit.inBlock]
        simp only at hq
        split
        · rename_i hi; rw [if_pos hi] at hq; exact ⟨env1, H1, r1, hq, u1⟩
        · rename_i hi; rw [if_neg hi] at hq; exact ⟨env1, H1, r1, hq, u1⟩
      | _ => exact ⟨env1, H1, r1, hq, u1⟩
    · rename_i ls hls
      unfold JoinPT at h
      simp only [forceK_eq] at h
      refine wp_block (wp_mono (awp_sound b h r) ?_)
      rintro e a1 w1 ⟨env1, H1, r1, hq, u1⟩
      have u1 := u1.drop
      have u1' : Unch (mods (.block id b)) wr env a env1 a1 := u1.mono (fun _ h => h) (fun i hi => (mem_keeps hi).1)
      cases e with
      | normal =>
        obtain ⟨env2, r2, hk2, u2⟩ := join_sound (k := Q .normal) r r1 u1 hq
        exact ⟨env2, H1, r2, hk2, u2⟩
      | exit i =>
        simp only [Exit.inBlock]
        simp only at hq
        split
        · rename_i hi
          rw [if_pos hi] at hq
          obtain ⟨env2, r2, hk2, u2⟩ := join_sound (k := Q .normal) r r1 u1 hq
          exact ⟨env2, H1, r2, hk2, u2⟩
        · rename_i hi; rw [if_neg hi] at hq; exact ⟨env1, H1, r1, hq, u1'⟩
      | _ => exact ⟨env1, H1, r1, hq, u1'⟩
  | .loop b, wr, Q, env, H, a, w, h, r => by
    unfold awp at h
    split at h
    · exact h.elim
    · rename_i ls hls
      obtain ⟨s0, h, hs0⟩ := projK_iff h
      obtain ⟨I, n0, hI0, hround⟩ := h
      simp only [forceK_eq] at hround
      refine wp_loop_n (fun n a1 w1 => ∃ s H1, I n s H1 ∧ Rel H0 w0 (restore env (mods b) ls s) H1 a1 w1 ∧ Unch (mods b) wr env a (restore env (mods b) ls s) a1) n0
        ⟨s0, H, hI0, r.restore r (.refl _ (keeps wr ls) _ _) (fun i hi => (mem_keeps hi).2) hs0, (Unch.refl (mods b) (keeps wr ls) env a).restore hs0⟩ ?_
      rintro n a1 w1 ⟨s, H1, hI, r1, u1⟩
      refine wp_mono (awp_sound b (hround n s H1 hI) r1) ?_
      rintro e a2 w2 ⟨env2, H2, r2, hq, u2⟩
      have u2 := u2.drop
      have u2' : Unch (mods b) wr env a env2 a2 := u1.trans (u2.mono (fun _ h => h) (fun i hi => (mem_keeps hi).1))
      cases e with
      | normal =>
        obtain ⟨s', ⟨m, hμ, hI'⟩, hs'⟩ := projK_iff hq
        -- from the loop's beginning
        have u3 : Unch (mods b) (keeps wr ls) env a env2 a2 := by
          refine ⟨u2'.size, u2'.tmps, fun i cs hc hm hw => ?_⟩
          by_cases hwr : i ∈ wr
          · have hnl : 2 * i + 1 ∉ ls := fun hl => hw (List.mem_filter.2 ⟨hwr, by simpa using hl⟩)
            refine u2.priv i cs ?_ hm hw
            rw [restore_get, hc]
            simp only [Option.map_some, Option.some.injEq]
            unfold restoreAt
            cases hf : findIx ls (2 * i + 1) with
            | some j => exact absurd (List.mem_of_getElem? (findIx_some hf)) hnl
            | none =>
              simp only
              cases hf2 : findIx ls (2 * i) with
              | some j =>
                have := hs0.val hf2
                rw [hc] at this; cases this
              | none => simp only; rw [if_neg (by simpa using hm)]
          · exact u2'.priv i cs hc hm hwr
        exact ⟨m, hμ, s', H2, hI', r.restore r2 u3 (fun i hi => (mem_keeps hi).2) hs', u3.restore hs'⟩
      | _ => exact ⟨env2, H2, r2, hq, u2'⟩
  | .exit id, wr, Q, env, H, a, w, h, r => wp_exit ⟨env, H, r, h, .refl _ _ _ _⟩
  | .ret, wr, Q, env, H, a, w, h, r => wp_ret ⟨env, H, r, h, .refl _ _ _ _⟩
  | .rangeFunc .., wr, Q, env, H, a, w, h, r => h.elim
  | .scope _, wr, Q, env, H, a, w, h, r => h.elim
  | .goto _, wr, Q, env, H, a, w, h, r => h.elim
  | .refuse _, wr, Q, env, H, a, w, h, r => h.elim

end
end Go.Ab
