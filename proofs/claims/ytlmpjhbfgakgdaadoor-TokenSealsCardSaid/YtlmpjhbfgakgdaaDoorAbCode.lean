/- Code: the deep reading of control flow, and that it is sound. -/
import Derived.Test.YtlmpjhbfgakgdaaDoorAbRange
import Derived.TacticsIn
namespace Go.Ab
variable {ro : Option Nat}
set_option linter.unusedVariables false
set_option linter.unusedSimpArgs false

/-! ### Which slots a piece of code writes -/

def mods : Code → List Nat
  | .region _ ops _ => ops.toList.flatMap fun o => o.dst.toList
  | .seq a b => mods a ++ mods b
  | .cond _ a b => mods a ++ mods b
  | .block _ b => mods b
  | .loop b => mods b
  | .scope b => mods b
  | _ => []

/-- The first region of a piece of code: by it joins and loops are named. -/
def keyOf : Code → Nat
  | .region id _ _ => id + 1
  | .seq a b => if keyOf a = 0 then keyOf b else keyOf a
  | .cond _ a b => if keyOf a = 0 then keyOf b else keyOf a
  | .block _ b => keyOf b
  | .loop b => keyOf b
  | .scope b => keyOf b
  | .rangeFunc _ _ a b => if keyOf a = 0 then keyOf b else keyOf a
  | _ => 0

abbrev Ann := List (Nat × List Nat)
def Ann.at (ann : Ann) (k : Nat) : Option (List Nat) := match ann with | [] => none | (i, l) :: r => if i = k then some l else Ann.at r k

/-! ### Operations in a row -/

abbrev awpOps (P : Program) (R : PanR) (pv wr : List Nat) (all : List Oper) : List Oper → List Nat → Env → Heap → (Env → Heap → Prop) → Prop
  | [], gn, env, H, k => k env H
  | o :: rest, gn, env, H, k =>
    match o.guard with
    | none => awpOp P R pv wr o env H fun env' H' => awpOps P R pv wr all rest gn env' H' k
    | some (g, want) => (match (all[g]?).bind (·.dst) with
      | some d => (match env[d]? with
        | some (.val v) => (match gn.contains d with
          | true => v = undef ∧ putS env o.dst (.val undef) fun env' => awpOps P R pv wr all rest (o.dst.toList ++ gn) env' H k
          | false => asB v fun b =>
            ifB b
              (forceK (env.set d (.val (.bool true))) fun env => ifB want (awpOp P R pv wr o env H fun env' H' => awpOps P R pv wr all rest gn env' H' k)
                (putS env o.dst (.val undef) fun env' => awpOps P R pv wr all rest (o.dst.toList ++ gn) env' H k))
              (forceK (env.set d (.val (.bool false))) fun env => ifB want (putS env o.dst (.val undef) fun env' => awpOps P R pv wr all rest (o.dst.toList ++ gn) env' H k)
                (awpOp P R pv wr o env H fun env' H' => awpOps P R pv wr all rest gn env' H' k)))
        | _ => False)
      | none => False)

/-- Where a function's panics are looked at (a mark among the annotations): behind one the region's own slots are not known. -/
abbrev panR (ann : Ann) (ms : List Nat) (Q : Exit → Env → Heap → Prop) : PanR :=
  match Ann.at ann 999999 with
  | none => none
  | some _ => some fun ch env H => forceK (restore env ms [] []) fun env' => Q (.panic ch) env' H

/-- Joined by an annotation, or not. -/
abbrev joinA (ann : Ann) (key : Nat) (env : Env) (ms wr : List Nat) (body : List Nat → (Env → Heap → Prop) → Prop) (k : Env → Heap → Prop) : Prop :=
  match Ann.at ann key with
  | none => body wr k
  | some ls => JoinPT (fun K => body (keeps wr ls ++ ms) fun env' H' => projK env' ls fun s => K s H') fun s H' => forceK (restore env ms ls s) fun env' => k env' H'

abbrev awp (P : Program) (pv : List Nat) (ann : Ann) : Code → List Nat → (Exit → Env → Heap → Prop) → Env → Heap → Prop
  | .skip, wr, Q, env, H => Q .normal env H
  | .label _, wr, Q, env, H => Q .normal env H
  | .region id ops false, wr, Q, env, H => joinA ann (3 * (id + 1) + 2) env (ops.toList.flatMap fun o => o.dst.toList) wr (fun wr' k => awpOps P (panR ann (ops.toList.flatMap fun o => o.dst.toList) Q) pv wr' ops.toList ops.toList [] env H k) (Q .normal)
  | .region id ops true, wr, Q, env, H => ifB (P.follows .mixedOrders && plainOps ops) (joinA ann (3 * (id + 1) + 2) env (ops.toList.flatMap fun o => o.dst.toList) wr
      (fun wr' k => awpDraw P (panR ann (ops.toList.flatMap fun o => o.dst.toList) Q) pv wr' ops ops.size (Array.replicate ops.size false) [] [] env H k) (Q .normal)) False
  | .seq a b, wr, Q, env, H => awp P pv ann a wr (fun e env' H' => match e with | .normal => awp P pv ann b wr Q env' H' | e => Q e env' H') env H
  | .cond c a b, wr, Q, env, H => opd env c fun v => asB v fun t =>
      (match Ann.at ann (3 * keyOf (.cond c a b)) with
       | none => ifB t (awp P pv ann a wr Q env H) (awp P pv ann b wr Q env H)
       | some ls => JoinPT (fun K => ifB t
            (awp P pv ann a (keeps wr ls ++ (mods a ++ mods b)) (fun e env' H' => match e with | .normal => projK env' ls fun s => K s H' | e => Q e env' H') env H)
            (awp P pv ann b (keeps wr ls ++ (mods a ++ mods b)) (fun e env' H' => match e with | .normal => projK env' ls fun s => K s H' | e => Q e env' H') env H))
          fun s H' => forceK (restore env (mods a ++ mods b) ls s) fun env' => Q .normal env' H')
  | .block id b, wr, Q, env, H =>
      (match Ann.at ann (500000 + id) with
       | none => awp P pv ann b wr (fun e env' H' => match e with | .normal => Q .normal env' H' | .exit i => if i = id then Q .normal env' H' else Q (.exit i) env' H' | e => Q e env' H') env H
       | some ls => JoinPT (fun K => awp P pv ann b (keeps wr ls ++ mods b) (fun e env' H' => match e with
            | .normal => projK env' ls fun s => K s H'
            | .exit i => if i = id then projK env' ls fun s => K s H' else Q (.exit i) env' H'
            | e => Q e env' H') env H)
          fun s H' => forceK (restore env (mods b) ls s) fun env' => Q .normal env' H')
  | .loop b, wr, Q, env, H =>
      (match Ann.at ann (3 * keyOf b) with
       | none => False
       | some ls => projK env ls fun s0 => LoopPT (fun s H K => forceK (restore env (mods b) ls s) fun env => awp P pv ann b (keeps wr ls ++ mods b) (fun e env' H' => match e with | .normal => projK env' ls fun s' => K s' H' | e => Q e env' H')
            env H) s0 H)
  | .exit id, wr, Q, env, H => Q (.exit id) env H
  | .goto l, wr, Q, env, H => Q (.goto l) env H
  | .ret, wr, Q, env, H => Q .ret env H
  | .rangeFunc g ps assign body, wr, Q, env, H => ifB (noRf assign && noRf body) (opd env g fun fv => RangePT P fv H
      (fun args H' K => argsN ps.toList args fun vs => forceK (setAll ps.toList vs (strip env)) fun env1 => awp P pv ann assign [] (fun e env2 H2 => match e with
        | .normal => forceK (strip env2) fun env3 => awp P pv ann body [] (fun e _ H3 => match e with
          | .normal => K none H3
          | .ret => K (some none) H3
          | .exit id => K (some (some id)) H3
          | _ => False) env3 H2
        | _ => False) env1 H')
      (Q .normal env) (jmps (fun e H' => Q e env H') (jumps body [] []))) False
  | _, _, _, _, _ => False

/-! ### Restoring -/

theorem findIx_some {l : List Nat} {i j : Nat} (h : findIx l i = some j) : l[j]? = some i := by
  induction l generalizing j with
  | nil => simp [findIx] at h
  | cons x r ih =>
    unfold findIx at h
    split at h
    · rename_i e; cases h; simp [e]
    · cases hf : findIx r i with
      | none => rw [hf] at h; cases h
      | some m => rw [hf] at h; cases h; simpa using ih hf

theorem findIx_none {l : List Nat} {i : Nat} (h : findIx l i = none) : i ∉ l := by
  induction l with
  | nil => simp
  | cons x r ih =>
    unfold findIx at h
    split at h
    · cases h
    · rename_i hne
      cases hf : findIx r i with
      | none => simp only [List.mem_cons, not_or]; exact ⟨fun e => hne e.symm, ih hf⟩
      | some m => rw [hf] at h; cases h

theorem restoreFrom_get (mods ls : List Nat) (s : List (List Value)) : ∀ (e : Env) (k i : Nat), (restoreFrom mods ls s k e)[i]? = (e[i]?).map (restoreAt mods ls s (k + i))
  | [], k, i => by simp [restoreFrom]
  | x :: r, k, i => by
    cases i with
    | zero => simp [restoreFrom]
    | succ i =>
      simp only [restoreFrom, List.getElem?_cons_succ]
      rw [restoreFrom_get mods ls s r (k + 1) i, show k + 1 + i = k + (i + 1) from by omega]

theorem restore_get (env : Env) (mods ls : List Nat) (s : List (List Value)) (i : Nat) : (restore env mods ls s)[i]? = (env[i]?).map (restoreAt mods ls s i) := by
  simpa [restore] using restoreFrom_get mods ls s env 0 i

theorem restoreFrom_length (mods ls : List Nat) (s : List (List Value)) : ∀ (e : Env) (k : Nat), (restoreFrom mods ls s k e).length = e.length
  | [], k => rfl
  | x :: r, k => by simp [restoreFrom, restoreFrom_length mods ls s r]

/-- What a list of what is passed on tells of an environment. -/
def Told (env : Env) (ls : List Nat) (s : List (List Value)) : Prop :=
  ∀ j c, ls[j]? = some c → (c % 2 = 1 ∧ ∃ cs, env[c / 2]? = some (.priv cs) ∧ s.getD j [] = cs) ∨ (c % 2 = 0 ∧ ∃ v, env[c / 2]? = some (.val v) ∧ s.getD j [] = [v])

theorem projK_iff {env : Env} : ∀ {ls : List Nat} {k : List (List Value) → Prop}, projK env ls k → ∃ s, k s ∧ Told env ls s
  | [], k, h => ⟨[], h, fun j i hj => by simp at hj⟩
  | c :: r, k, h => by
    unfold projK at h
    split at h
    · rename_i cs hc he
      obtain ⟨s, hk, hs⟩ := projK_iff h
      refine ⟨cs :: s, hk, fun j x hj => ?_⟩
      cases j with
      | zero => simp at hj; subst hj; exact .inl ⟨by simpa using hc, cs, he, rfl⟩
      | succ j => simpa using hs j x (by simpa using hj)
    · rename_i v hc he
      obtain ⟨s, hk, hs⟩ := projK_iff h
      refine ⟨[v] :: s, hk, fun j y hj => ?_⟩
      cases j with
      | zero => simp at hj; subst hj; exact .inr ⟨by simp at hc; omega, v, he, rfl⟩
      | succ j => simpa using hs j y (by simpa using hj)
    · exact h.elim

theorem Told.priv {env : Env} {ls : List Nat} {s : List (List Value)} (h : Told env ls s) {i j : Nat} (hf : findIx ls (2 * i + 1) = some j) : env[i]? = some (.priv (sc s j)) := by
  rcases h j _ (findIx_some hf) with ⟨_, cs, he, hs⟩ | ⟨h0, _⟩
  · rw [show (2 * i + 1) / 2 = i from by omega] at he
    rw [he, ← hs]; rfl
  · omega

theorem Told.val {env : Env} {ls : List Nat} {s : List (List Value)} (h : Told env ls s) {i j : Nat} (hf : findIx ls (2 * i) = some j) : env[i]? = some (.val (sv s j)) := by
  rcases h j _ (findIx_some hf) with ⟨h0, _⟩ | ⟨_, v, he, hs⟩
  · omega
  · rw [show (2 * i) / 2 = i from by omega] at he
    rw [he]
    unfold sv
    rw [hs]; rfl

theorem mem_keeps {wr ls : List Nat} {i : Nat} (h : i ∈ keeps wr ls) : i ∈ wr ∧ 2 * i + 1 ∈ ls := by
  obtain ⟨h1, h2⟩ := List.mem_filter.1 h
  exact ⟨h1, by simpa using h2⟩

section
variable {P : Program} {H0 : Heap} {w0 : World} {env env' : Env} {H H' : Heap} {a a' : Act} {w w' : World}

theorem Rel.restore {ms wr ls : List Nat} {s : List (List Value)} (r : Rel H0 w0 env H a w) (r' : Rel H0 w0 env' H' a' w') (u : Unch ro ms wr env a env' a') (hwr : ∀ i ∈ wr, 2 * i + 1 ∈ ls)
    (hs : Told env' ls s) : Rel H0 w0 (restore env ms ls s) H' a' w' := by
  have hlen : env.length = env'.length := by rw [← r.len, ← r'.len, u.size]
  -- what a restored slot is
  have key : ∀ (i : Nat) x, (Ab.restore env ms ls s)[i]? = some x →
      (x = .unk) ∨ (∃ v, x = .val v ∧ a'.tmps[i]? = some v) ∨ (∃ cs, x = .priv cs ∧ env'[i]? = some (.priv cs)) := by
    intro i x hx
    rw [restore_get] at hx
    cases he : env[i]? with
    | none => rw [he] at hx; cases hx
    | some y =>
      rw [he] at hx
      simp only [Option.map_some, Option.some.injEq] at hx
      unfold restoreAt at hx
      cases hf : findIx ls (2 * i + 1) with
      | some j =>
        rw [hf] at hx
        exact .inr (.inr ⟨_, hx.symm, hs.priv hf⟩)
      | none =>
        rw [hf] at hx
        simp only at hx
        cases hf2 : findIx ls (2 * i) with
        | some j =>
          rw [hf2] at hx
          exact .inr (.inl ⟨_, hx.symm, r'.ok i _ (hs.val hf2)⟩)
        | none =>
          rw [hf2] at hx
          simp only at hx
          split at hx
          · exact .inl hx.symm
          · rename_i hm
            have hm' : i ∉ ms := by simpa using hm
            have hw' : i ∉ wr := fun h => findIx_none hf (hwr i h)
            cases y with
            | unk => exact .inl hx.symm
            | val v =>
              have := r.ok i _ he
              exact .inr (.inl ⟨v, hx.symm, by rw [u.tmps i hm']; exact this⟩)
            | priv c => exact .inr (.inr ⟨c, hx.symm, u.priv i c he hm' hw'⟩)
            | ref q o => exact .inl hx.symm
  refine ⟨r'.agree, r'.kept, by simp only [Ab.restore, restoreFrom_length]; rw [r'.len, hlen], ?_, ?_, r'.marks, r'.marksApart⟩
  · intro i x hx
    rcases key i x hx with rfl | ⟨v, rfl, hv⟩ | ⟨cs, rfl, hc⟩
    · trivial
    · exact hv
    · exact r'.ok i _ hc
  · intro i j c c' p hi hj
    have hi' : env'[i]? = some (.priv c) := by
      rcases key i _ hi with h | ⟨v, h, _⟩ | ⟨cs, h, hc⟩
      · cases h
      · cases h
      · cases h; exact hc
    have hj' : env'[j]? = some (.priv c') := by
      rcases key j _ hj with h | ⟨v, h, _⟩ | ⟨cs, h, hc⟩
      · cases h
      · cases h
      · cases h; exact hc
    exact r'.apart i j c c' p hi' hj'

theorem Unch.restore {ms ls wr0 : List Nat} {s : List (List Value)} (u : Unch ro ms (keeps wr0 ls) env a env' a') (hs : Told env' ls s) :
    Unch ro ms wr0 env a (restore env ms ls s) a' := by
  refine ⟨u.size, u.tmps, fun i cs hc hm hw => ?_, u.defers⟩
  have h' := u.priv i cs hc hm (fun h => hw (mem_keeps h).1)
  rw [restore_get, hc]
  simp only [Option.map_some, Option.some.injEq]
  unfold restoreAt
  cases hf : findIx ls (2 * i + 1) with
  | some j =>
    have := hs.priv hf
    rw [h'] at this; cases this; rfl
  | none =>
    simp only
    cases hf2 : findIx ls (2 * i) with
    | some j =>
      have := hs.val hf2
      rw [h'] at this; cases this
    | none =>
      simp only
      rw [if_neg (by simpa using hm)]

/-! ### Loops -/

theorem wp_loop_n {ro : Option Nat} {c : Code} {Q : Exit → Act → World → Prop} (I : Nat → Act → World → Prop) (n0 : Nat) (h₀ : I n0 a w)
    (round : ∀ n a w, I n a w → c.wpIn (FW ro) 0 P (Exit.then (fun a' w' => ∃ m, m < n ∧ I m a' w') Q) a w) : (Code.loop c).wpIn (FW ro) 0 P Q a w := by
  intro b k cs hro hb hr
  have key : ∀ n a w, I n a w → ∃ e a' w', Q e a' w' ∧ ArrivesIn (Machine.fenced P (FW ro)) P (lone (b.atR a (.code c :: .inLoop c :: k)) cs w) b k cs e a' w' := by
    intro n
    induction n using Nat.strongRecOn with
    | _ n ih =>
      intro a w hI
      obtain ⟨e, a₁, w₁, hq, harr⟩ := round n a w hI b (.inLoop c :: k) cs hro hb hr
      cases e with
      | normal =>
        obtain ⟨m, hlt, hI₁⟩ := hq
        obtain ⟨e₂, a₂, w₂, hq₂, harr₂⟩ := ih m hlt a₁ w₁ hI₁
        exact ⟨e₂, a₂, w₂, hq₂, .of_steps (StepsIn.trans harr (.one (fenced_calm hb hr rfl) stepR_inLoop)) harr₂⟩
      | exit id => exact ⟨_, a₁, w₁, hq, .pass (x := .inLoop c) rfl (fun _ _ => .inl (by simp)) harr⟩
      | goto l => exact ⟨_, a₁, w₁, hq, .pass (x := .inLoop c) rfl (fun _ _ => .inl (by simp)) harr⟩
      | ret => exact ⟨_, a₁, w₁, hq, .pass (x := .inLoop c) rfl (fun _ _ => .inl (by simp)) harr⟩
      | panic ch => exact ⟨_, a₁, w₁, hq, .pass (x := .inLoop c) rfl (fun _ _ => .inl (by simp)) harr⟩
      | outgrown => exact ⟨_, a₁, w₁, hq, .pass (x := .inLoop c) rfl (fun _ _ => .inl (by simp)) harr⟩
  obtain ⟨e, a', w', hq, harr⟩ := key n0 a w h₀
  exact ⟨e, a', w', hq, .of_steps (.one (fenced_calm hb hr rfl) stepR_loop) harr⟩

/-! ### The soundness of code -/

theorem yielded_of {ops : Array Oper} {g d : Nat} {b : Bool} (r : Rel H0 w0 env H a w) (hd : (ops.toList[g]?).bind (·.dst) = some d) (hv : env[d]? = some (.val (.bool b))) :
    yielded ops a.tmps g = some b := by
  unfold yielded
  have h := r.ok d _ hv
  simp only [SlotOk] at h
  have hd' : (ops[g]?).bind (·.dst) = some d := by simpa using hd
  rw [hd']
  simp [h]

theorem Rel.setSame {d : Nat} {v : Value} (r : Rel H0 w0 env H a w) (hv : env[d]? = some (.val v)) {v' : Value} (he : v = v') : Rel H0 w0 (env.set d (.val v')) H a w := by
  subst he
  have : env.set d (.val v) = env := by
    apply List.ext_getElem?
    intro i
    by_cases hi : d = i
    · subst hi
      rw [List.getElem?_set_self (List.getElem?_eq_some_iff.1 hv).1, hv]
    · rw [List.getElem?_set_ne hi]
  rw [this]; exact r

theorem Unch.ofSet {M wr : List Nat} {d : Nat} {v : Value} {e2 : Env} {a2 : Act} (hv : ∃ v, env[d]? = some (.val v)) (u : Unch ro M wr (env.set d (.val v)) a e2 a2) : Unch ro M wr env a e2 a2 := by
  obtain ⟨v0, hv⟩ := hv
  refine ⟨u.size, u.tmps, fun i cs hc hm hw => u.priv i cs ?_ hm hw, u.defers⟩
  have : d ≠ i := by intro e; subst e; rw [hv] at hc; cases hc
  rw [List.getElem?_set_ne this]; exact hc

theorem awpOps_sound {ro : Option Nat} {R : PanR} {pv wr M : List Nat} (ops : Array Oper) {Q : Exit → Act → World → Prop} : ∀ (l : List Oper) {gn : List Nat} {env : Env} {H : Heap} {a : Act} {w : World} {k : Env → Heap → Prop},
    awpOps P R pv wr ops.toList l gn env H k → Rel H0 w0 env H a w → (∀ o ∈ l, ∀ d ∈ o.dst.toList, d ∈ M) →
    (∀ env' H' a' w', Rel H0 w0 env' H' a' w' → k env' H' → Unch ro M wr env a env' a' → Q .normal a' w') →
    (∀ R0, R = some R0 → ∀ env' H' a' w' ch, Rel H0 w0 env' H' a' w' → R0 ch env' H' → Unch ro M wr env a env' a' → Q (.panic ch) a' w') → wpListIn (FW ro) 0 P ops Q l a w
  | [], gn, env, H, a, w, k, h, r, hM, hk, hp => hk _ _ _ _ r h (.refl _ _ _ _)
  | o :: rest, gn, env, H, a, w, k, h, r, hM, hk, hp => by
    have hMo : ∀ d ∈ o.dst.toList, d ∈ M := hM o (by simp)
    -- an operation that is carried out
    have go : ∀ {env : Env}, Rel H0 w0 env H a w → (∀ env' H' a' w', Rel H0 w0 env' H' a' w' → k env' H' → Unch ro M wr env a env' a' → Q .normal a' w') →
        (∀ R0, R = some R0 → ∀ env' H' a' w' ch, Rel H0 w0 env' H' a' w' → R0 ch env' H' → Unch ro M wr env a env' a' → Q (.panic ch) a' w') →
        awpOp P R pv wr o env H (fun env' H' => awpOps P R pv wr ops.toList rest gn env' H' k) → o.wpIn (FW ro) 0 P a w (wpListIn (FW ro) 0 P ops Q rest) Q := by
      intro env r hk hp h
      have hs := awpOp_sound (ro := ro) (Q := Q) h r fun R0 e ch H' w' ht hq => hp R0 e env H' a w' ch (r.turn ht) hq (.refl _ _ _ _)
      refine Oper.wpIn_mono (fun a' w' hp => ?_) hs
      obtain ⟨env1, H1, r1, h1, u1⟩ := hp
      exact awpOps_sound ops rest h1 r1 (fun o' ho => hM o' (by simp [ho])) (fun env' H' a'' w'' r' hk' u' =>
        hk env' H' a'' w'' r' hk' ((u1.mono hMo (fun _ h => h)).trans u')) fun R0 e env' H' a'' w'' ch r' hk' u' => hp R0 e env' H' a'' w'' ch r' hk' ((u1.mono hMo (fun _ h => h)).trans u')
    -- one that is not
    have skip : ∀ {env : Env}, Rel H0 w0 env H a w → (∀ env' H' a' w', Rel H0 w0 env' H' a' w' → k env' H' → Unch ro M wr env a env' a' → Q .normal a' w') →
        (∀ R0, R = some R0 → ∀ env' H' a' w' ch, Rel H0 w0 env' H' a' w' → R0 ch env' H' → Unch ro M wr env a env' a' → Q (.panic ch) a' w') →
        putS env o.dst (.val undef) (fun env' => awpOps P R pv wr ops.toList rest (o.dst.toList ++ gn) env' H k) → wpListIn (FW ro) 0 P ops Q rest (a.put o.dst undef) w := by
      intro env r hk hp h
      obtain ⟨env1, H1, r1, h1, u1⟩ := put_val (ro := ro) (k := fun env' H' => awpOps P R pv wr ops.toList rest (o.dst.toList ++ gn) env' H' k) (wr := wr) r (.refl r.agree) h
      exact awpOps_sound ops rest h1 r1 (fun o' ho => hM o' (by simp [ho])) (fun env' H' a'' w'' r' hk' u' =>
        hk env' H' a'' w'' r' hk' ((u1.mono hMo (fun _ h => h)).trans u')) fun R0 e env' H' a'' w'' ch r' hk' u' => hp R0 e env' H' a'' w'' ch r' hk' ((u1.mono hMo (fun _ h => h)).trans u')
    unfold awpOps at h
    unfold wpListIn
    split at h
    · rename_i hgd
      rw [if_pos (by simp [Region.wanted, hgd])]
      exact go r hk hp h
    · rename_i g want hgd
      split at h
      · rename_i d hd
        split at h
        · rename_i v hv
          split at h
          · obtain ⟨rfl, h⟩ := h
            have hy : yielded ops a.tmps g = none := by
              unfold yielded
              have h1 : a.tmps[d]? = some undef := r.ok d _ hv
              rw [show (ops[g]?).bind (·.dst) = some d from by simpa using hd]
              simp [h1, undef]
            rw [if_neg (by simp [Region.wanted, hgd, hy])]; exact ⟨fun _ _ => trivial, skip r hk hp h⟩
          obtain ⟨b, rfl, h⟩ := asB_iff h
          have hy := yielded_of r hd hv
          have hset : ∀ {e2 : Env} {a2 : Act}, Unch ro M wr (env.set d (.val (.bool b))) a e2 a2 → Unch ro M wr env a e2 a2 := fun u => u.ofSet ⟨_, hv⟩
          have r2 := r.setSame hv rfl
          have hk2 : ∀ env' H' a' w', Rel H0 w0 env' H' a' w' → k env' H' → Unch ro M wr (env.set d (.val (.bool b))) a env' a' → Q .normal a' w' :=
            fun env' H' a' w' r' hk' u => hk env' H' a' w' r' hk' (hset u)
          have hp2 : ∀ R0, R = some R0 → ∀ env' H' a' w' ch, Rel H0 w0 env' H' a' w' → R0 ch env' H' → Unch ro M wr (env.set d (.val (.bool b))) a env' a' → Q (.panic ch) a' w' :=
            fun R0 e env' H' a' w' ch r' hk' u => hp R0 e env' H' a' w' ch r' hk' (hset u)
          cases b <;> cases want <;> simp only [ifB, forceK_eq] at h
          · rw [if_pos (by simp [Region.wanted, hgd, hy])]; exact go r2 hk2 hp2 h
          · rw [if_neg (by simp [Region.wanted, hgd, hy])]; exact ⟨fun _ _ => trivial, skip r2 hk2 hp2 h⟩
          · rw [if_neg (by simp [Region.wanted, hgd, hy])]; exact ⟨fun _ _ => trivial, skip r2 hk2 hp2 h⟩
          · rw [if_pos (by simp [Region.wanted, hgd, hy])]; exact go r2 hk2 hp2 h
        · exact h.elim
      · exact h.elim

/-- What a piece of code comes to. -/
def CPost (ro : Option Nat) (H0 : Heap) (w0 : World) (M wr : List Nat) (env : Env) (a : Act) (Q : Exit → Env → Heap → Prop) (e : Exit) (a' : Act) (w' : World) : Prop :=
  ∃ env' H', Rel H0 w0 env' H' a' w' ∧ Q e env' H' ∧ Unch ro M wr env a env' a'

theorem Unch.drop {M wr : List Nat} {e1 : Env} {a1 : Act} (u : Unch ro M (wr ++ M) env a e1 a1) : Unch ro M wr env a e1 a1 :=
  ⟨u.size, u.tmps, fun i cs hc hm hw => u.priv i cs hc hm (by simp [hm, hw]), u.defers⟩

theorem join_sound {ms wr ls : List Nat} {k : Env → Heap → Prop} (r : Rel H0 w0 env H a w) (r' : Rel H0 w0 env' H' a' w') (u : Unch ro ms (keeps wr ls) env a env' a')
    (h : projK env' ls fun s => k (restore env ms ls s) H') : ∃ env2, Rel H0 w0 env2 H' a' w' ∧ k env2 H' ∧ Unch ro ms wr env a env2 a' := by
  obtain ⟨s, hk, hs⟩ := projK_iff h
  exact ⟨_, r.restore r' u (fun i hi => (mem_keeps hi).2) hs, hk, u.restore hs⟩

theorem told_nil {env' : Env} : Told env' [] [] := by
  obtain ⟨s, hs, ht⟩ := projK_iff (env := env') (ls := []) (k := fun s => s = []) (by rfl)
  exact hs ▸ ht

/-- Behind a panic: the region's own slots are not known. -/
theorem blur {ms wr : List Nat} (r' : Rel H0 w0 env' H' a' w') (u : Unch ro ms wr env a env' a') :
    Rel H0 w0 (restore env' ms [] []) H' a' w' ∧ Unch ro ms wr env a (restore env' ms [] []) a' :=
  ⟨r'.restore (ro := none) r' (.refl ms (keeps [] []) _ _) (fun i hi => (mem_keeps hi).2) told_nil,
    ⟨u.size, u.tmps, fun i cs hc hm hw => ((Unch.refl (ro := none) ms (keeps [] []) env' a').restore (wr0 := []) (ls := []) told_nil).priv i cs (u.priv i cs hc hm hw) hm (by simp), u.defers⟩⟩

theorem restore_blur {env : Env} {ms : List Nat} {i : Nat} {s : Slot} (h : (restore env ms [] [])[i]? = some s) : (i ∈ ms → s = .unk) ∧ ∀ q off, s ≠ .ref q off := by
  rw [restore_get] at h
  cases he : env[i]? with
  | none => rw [he] at h; cases h
  | some x =>
    rw [he] at h
    simp only [Option.map_some, Option.some.injEq] at h
    subst h
    unfold restoreAt findIx
    simp only
    constructor
    · intro hm; rw [if_pos (by simpa using hm)]
    · intro q off
      split
      · intro e; cases e
      · split
        · intro e; cases e
        · rename_i hx; intro e; exact hx _ _ e

/-- What is told of a slot that is not known says nothing of it. -/
theorem Rel.unput {ms : List Nat} {d : Option Tmp} {v : Value} (hu : ∀ (i : Nat) (s : Slot), env[i]? = some s → (i ∈ ms → s = .unk) ∧ ∀ q off, s ≠ .ref q off) (hd : ∀ x ∈ d.toList, x ∈ ms)
    (r : Rel H0 w0 env H (a.put d v) w) : Rel H0 w0 env H a w := by
  cases d with
  | none => exact r
  | some d =>
    have hdm : d ∈ ms := hd d (by simp)
    have key : ∀ (i : Nat) (s : Slot), env[i]? = some s → s ≠ .unk → (a.put (some d) v).tmps[i]? = a.tmps[i]? := by
      intro i s hi hs
      have : d ≠ i := fun e => hs ((hu i s hi).1 (e ▸ hdm))
      simp [Act.put, Array.getElem?_setIfInBounds_ne this]
    refine ⟨r.agree, r.kept, by simpa [Act.put] using r.len, ?_, ?_, r.marks, r.marksApart⟩
    · intro i s hi
      have h := r.ok i s hi
      cases s with
      | unk => trivial
      | val x => simp only [SlotOk] at h ⊢; rw [key i _ hi (by simp)] at h; exact h
      | priv cs =>
        obtain ⟨b, e, h1, h2, h3, h4⟩ := h
        exact ⟨b, e, h1, (key i _ hi (by simp)) ▸ h2, h3, h4⟩
      | ref q off => exact absurd rfl ((hu i _ hi).2 q off)
    · intro i j cs cs' p hi hj h1 h2
      exact r.apart i j cs cs' p hi hj ((key i _ hi (by simp)).trans h1) ((key j _ hj (by simp)).trans h2)

theorem region_sound {ro : Option Nat} {pv wr : List Nat} {ann : Ann} {id : Nat} {ops : Array Oper} {Q : Exit → Env → Heap → Prop} (r : Rel H0 w0 env H a w)
    (h : joinA ann (3 * (id + 1) + 2) env (ops.toList.flatMap fun o => o.dst.toList) wr (fun wr' k => awpOps P (panR ann (ops.toList.flatMap fun o => o.dst.toList) Q) pv wr' ops.toList ops.toList [] env H k) (Q .normal)) :
    (Code.region id ops false).wpIn (FW ro) 0 P (CPost ro H0 w0 (ops.toList.flatMap fun o => o.dst.toList) wr env a Q) a w := by
  have hM : ∀ o ∈ ops.toList, ∀ d ∈ o.dst.toList, d ∈ (ops.toList.flatMap fun o => o.dst.toList) := fun o ho d hd => List.mem_flatMap.2 ⟨o, ho, hd⟩
  have hP : ∀ {wr' : List Nat}, (∀ {env' : Env} {a' : Act}, Unch ro (ops.toList.flatMap fun o => o.dst.toList) wr' env a env' a' → Unch ro (ops.toList.flatMap fun o => o.dst.toList) wr env a env' a') →
      ∀ R0, panR ann (ops.toList.flatMap fun o => o.dst.toList) Q = some R0 → ∀ env' H' a' w' ch, Rel H0 w0 env' H' a' w' → R0 ch env' H' →
      Unch ro (ops.toList.flatMap fun o => o.dst.toList) wr' env a env' a' → CPost ro H0 w0 (ops.toList.flatMap fun o => o.dst.toList) wr env a Q (.panic ch) a' w' := by
    intro wr' hw R0 he env' H' a' w' ch r' hq u
    unfold panR at he
    split at he
    · cases he
    · cases he
      rw [forceK_eq] at hq
      obtain ⟨r2, u2⟩ := blur r' (hw u)
      exact ⟨_, H', r2, hq, u2⟩
  unfold joinA at h
  split at h
  · exact wpIn_region_list (awpOps_sound ops ops.toList h r hM (fun env' H' a' w' r' hk u => ⟨env', H', r', hk, u⟩) (hP fun u => u))
  · rename_i ls hls
    unfold JoinPT at h
    simp only [forceK_eq] at h
    exact wpIn_region_list (awpOps_sound ops ops.toList h r hM (fun env' H' a' w' r' hk u => by
      obtain ⟨env2, r2, hk2, u2⟩ := join_sound (k := Q .normal) r r' u.drop hk
      exact ⟨env2, H', r2, hk2, u2⟩) (hP fun u => u.drop.mono (fun _ h => h) fun i hi => (mem_keeps hi).1))

theorem draw_sound {ro : Option Nat} {pv wr : List Nat} {ann : Ann} {id : Nat} {ops : Array Oper} {Q : Exit → Env → Heap → Prop} (r : Rel H0 w0 env H a w)
    (h : ifB (P.follows .mixedOrders && plainOps ops) (joinA ann (3 * (id + 1) + 2) env (ops.toList.flatMap fun o => o.dst.toList) wr
      (fun wr' k => awpDraw P (panR ann (ops.toList.flatMap fun o => o.dst.toList) Q) pv wr' ops ops.size (Array.replicate ops.size false) [] [] env H k) (Q .normal)) False) :
    (Code.region id ops true).wpIn (FW ro) 0 P (CPost ro H0 w0 (ops.toList.flatMap fun o => o.dst.toList) wr env a Q) a w := by
  obtain ⟨M, hMe⟩ : ∃ M, (ops.toList.flatMap fun o => o.dst.toList) = M := ⟨_, rfl⟩
  have hM : ∀ o ∈ ops.toList, ∀ d ∈ o.dst.toList, d ∈ M := fun o ho d hd => hMe ▸ List.mem_flatMap.2 ⟨o, ho, hd⟩
  rw [hMe] at h ⊢
  obtain ⟨hc, h⟩ := ifB_iff h
  simp only [Bool.and_eq_true] at hc
  have r0 : Rel H0 w0 env H a { w with drawn := w.drawn + 1 } := r.turn (Turns.drew r.agree)
  obtain ⟨Q2, hQ2⟩ : ∃ Q2 : Exit → Act → World → Prop, Q2 = fun e a' w' => (e = .normal ∧ CPost ro H0 w0 M wr env a Q .normal a' w') ∨
    ∃ ch, e = .panic ch ∧ ∃ (env' : Env) (H' : Heap), (∀ (i : Nat) (s : Slot), env'[i]? = some s → (i ∈ M → s = .unk) ∧ ∀ q off, s ≠ .ref q off) ∧ Rel H0 w0 env' H' a' w' ∧ Q (.panic ch) env' H' ∧ Unch ro M wr env a env' a' := ⟨_, rfl⟩
  have hstay : ∀ (c : List PanicEntry) (d : Option Tmp) (v : Value) (a : Act) (w : World), (∀ x ∈ d.toList, x ∈ M) → Q2 (.panic c) (a.put d v) w → Q2 (.panic c) a w := by
    intro c d v a1 w1 hd hq
    rw [hQ2] at hq ⊢
    rcases hq with ⟨he, _⟩ | ⟨ch, he, env', H', hu, r1, hq, u1⟩
    · cases he
    · refine .inr ⟨ch, he, env', H', hu, r1.unput hu hd, hq, ⟨?_, fun i hi => ?_, u1.priv, ?_⟩⟩
      · rw [← u1.size]; cases d <;> simp [Act.put]
      · rw [← u1.tmps i hi]
        cases d with
        | none => rfl
        | some d =>
          have : d ≠ i := fun e => hi (e ▸ hd d (by simp))
          simp [Act.put, Array.getElem?_setIfInBounds_ne this]
      · have := u1.defers; cases d <;> exact this
  have main : ∀ {k : Env → Heap → Prop} {wr' : List Nat}, awpDraw P (panR ann M Q) pv wr' ops ops.size (Array.replicate ops.size false) [] [] env H k →
      (∀ env' H' a' w', Rel H0 w0 env' H' a' w' → k env' H' → Unch ro M wr' env a env' a' → CPost ro H0 w0 M wr env a Q .normal a' w') →
      (∀ {env' : Env} {a' : Act}, Unch ro M wr' env a env' a' → Unch ro M wr env a env' a') →
      (Code.region id ops true).wpIn (FW ro) 0 P (CPost ro H0 w0 M wr env a Q) a w := by
    intro k wr' h hk hw
    refine wpIn_mono (wpIn_region_any (Q := Q2) hc.1
      (wpAny_of_G _ [] _ _ _ (awpDraw_sound hc.2 hstay hM ops.size _ [] [] [] env H a _ h r0 (fun p hp => by cases hp) (fun p hp => by cases hp)
        (fun env' H' a' w' r' hk' u => by rw [hQ2]; exact .inl ⟨rfl, hk env' H' a' w' r' hk' u⟩)
        fun R0 he env' H' a' w' ch r' hq u => by
          unfold panR at he
          split at he
          · cases he
          · cases he
            rw [forceK_eq] at hq
            obtain ⟨r2, u2⟩ := blur r' (hw u)
            rw [hQ2]
            exact .inr ⟨ch, rfl, _, H', fun i s hs => restore_blur hs, r2, hq, u2⟩))) ?_
    intro e a' w' h
    rw [hQ2] at h
    rcases h with ⟨rfl, h⟩ | ⟨ch, rfl, env', H', _, r1, hq, u1⟩
    · exact h
    · exact ⟨env', H', r1, hq, u1⟩
  unfold joinA at h
  split at h
  · exact main h (fun env' H' a' w' r' hk u => ⟨env', H', r', hk, u⟩) fun u => u
  · rename_i ls hls
    unfold JoinPT at h
    simp only [forceK_eq] at h
    exact main h (fun env' H' a' w' r' hk u => by
      obtain ⟨env2, r2, hk2, u2⟩ := join_sound (k := Q .normal) r r' u.drop hk
      exact ⟨env2, H', r2, hk2, u2⟩) fun u => u.drop.mono (fun _ h => h) fun i hi => (mem_keeps hi).1

/-- A range over a function. -/
theorem range_sound {pv : List Nat} {ann : Ann} {g : Operand} {ps : Array Tmp} {assign body : Code} {wr : List Nat} {Q : Exit → Env → Heap → Prop}
    (sa : ∀ {l : Nat} {H0 : Heap} {w0 : World} {env : Env} {H : Heap} {a : Act} {w : World} {Q : Exit → Env → Heap → Prop}, noRf assign = true → awp P pv ann assign [] Q env H → Rel H0 w0 env H a w →
      assign.wpIn (FW (some l)) 0 P (CPost (some l) H0 w0 (mods assign) [] env a Q) a w)
    (sb : ∀ {l : Nat} {H0 : Heap} {w0 : World} {env : Env} {H : Heap} {a : Act} {w : World} {Q : Exit → Env → Heap → Prop}, noRf body = true → awp P pv ann body [] Q env H → Rel H0 w0 env H a w →
      body.wpIn (FW (some l)) 0 P (CPost (some l) H0 w0 (mods body) [] env a Q) a w)
    (h : awp P pv ann (.rangeFunc g ps assign body) wr Q env H) (r : Rel H0 w0 env H a w) :
    (Code.rangeFunc g ps assign body).wpIn (FW none) 0 P (CPost none H0 w0 [] wr env a Q) a w := by
  unfold awp at h
  obtain ⟨hrf, h⟩ := ifB_iff h
  simp only [Bool.and_eq_true] at hrf
  obtain ⟨fv, hfv, h⟩ := opd_iff h
  obtain ⟨hisf, h⟩ := h
  have hg := r.eval hfv
  refine wpIn_rangeFunc fun fn hfn => ?_
  obtain ⟨rec, hrec⟩ : ∃ rec : LoopState → Option Code → Loop, rec = fun st pe => { state := st, pending := pe, fn, tmps := a.tmps, params := ps, assign, body, defers := w.heap.size } := ⟨_, rfl⟩
  obtain ⟨o, ho⟩ : ∃ o : Option (Option Nat) → Obj, o = fun c => .loop (rec (if c.isNone then .ready else .done) (c.map jcode)) := ⟨_, rfl⟩
  have hot : ∀ c, o c ≠ tomb := fun c e => by rw [ho] at e; cases e
  obtain ⟨W1, hW1⟩ : ∃ W1, (w.alloc (.deferred (some []))).alloc (o none) = W1 := ⟨_, rfl⟩
  have ta : Turns H w (H.push tomb) (w.alloc (.deferred (some []))) := .pushTomb r.agree _
  have tb : Turns (H.push tomb) (w.alloc (.deferred (some []))) ((H.push tomb).push (o none)) W1 := by
    rw [← hW1]; exact .push ta.agree _ (by rw [ho]; rfl)
  have t1 := ta.trans tb
  have hsz : w.heap.size = H.size := r.agree.size
  have hL1 : ((H.push tomb).push (o none))[H.size + 1]? = some (o none) := by
    have : (H.push tomb).size = H.size + 1 := by simp
    rw [← this, Array.getElem?_push_size]
  have hD1 : ((H.push tomb).push (o none))[H.size]? = some tomb := by
    rw [Array.getElem?_push_lt (by simp)]; simp
  have hDw : W1.heap[w.heap.size]? = some (.deferred (some [])) := by
    rw [← hW1]
    simp only [World.alloc]
    rw [Array.getElem?_push_lt (by simp), Array.getElem_push_eq]
  -- one round
  have round : ∀ (args : List Value) (H' : Heap) (K : Value → Heap → Prop), H'[H.size + 1]? = some (o none) →
      (argsN ps.toList args fun vs => forceK (setAll ps.toList vs (strip env)) fun env1 => awp P pv ann assign [] (fun e env2 H2 => match e with
        | .normal => forceK (strip env2) fun env3 => awp P pv ann body [] (fun e _ H3 => match e with
          | .normal => (fun c H2 => K (.bool c.isNone) (H2.setIfInBounds (H.size + 1) (o c))) none H3
          | .ret => (fun c H2 => K (.bool c.isNone) (H2.setIfInBounds (H.size + 1) (o c))) (some none) H3
          | .exit id => (fun c H2 => K (.bool c.isNone) (H2.setIfInBounds (H.size + 1) (o c))) (some (some id)) H3
          | _ => False) env3 H2
        | _ => False) env1 (H'.setIfInBounds (H.size + 1) tomb)) →
      callV P (.func (.yield (H.size + 1)) #[] #[]) args H' K := by
    intro args H' K hL hr
    obtain ⟨hlen, hr⟩ := argsN_iff hr
    have hlen : args.length = ps.size := by simpa using hlen
    rw [forceK_eq] at hr
    unfold callV
    intro w' hg'
    have hLw : w'.heap[H.size + 1]? = some (.loop (rec .ready none)) := by
      have := hg'.obj hL (hot _)
      rw [ho] at this; exact this
    have hlt : H.size + 1 < H'.size := (Array.getElem?_eq_some_iff.1 hL).1
    have hy := run_yield (P := P) (args := #[] ++ args.toArray) hLw (by rw [hrec]; simpa using hlen)
    rw [hrec] at hy
    refine ⟨fn, _, assign, body, hy, roundIn_of_wpIn (F := FW none) trivial ?_⟩
    -- the round begins
    have hgr : Agree (H'.setIfInBounds (H.size + 1) tomb) w' := hg'.toTomb _
    have r0 : Rel (H'.setIfInBounds (H.size + 1) tomb) w' (strip env) (H'.setIfInBounds (H.size + 1) tomb) { tmps := a.tmps, defers := [] } w' := r.round hgr
    have r1 := setAll_rel ps.toList args (strip_no env) r0
    have etm : (ps.zip (#[] ++ args.toArray)).foldl (fun tmps (x : Tmp × Value) => tmps.setIfInBounds x.1 x.2) a.tmps = (ps.toList.zip args).foldl (fun t (p : Tmp × Value) => t.setIfInBounds p.1 p.2) a.tmps := by
      rw [← Array.foldl_toList]; simp
    rw [etm]
    refine wpIn_mono (sa (l := H.size + 1) hrf.1 hr r1) ?_
    rintro e a2 w2 ⟨env2, H2, r2, hq2, u2⟩
    cases e with
    | normal =>
      have hd2 : a2.defers = [] := by
        rcases u2.defers.2 with h | h
        · cases h
        · exact h
      have hT : (H'.setIfInBounds (H.size + 1) tomb)[H.size + 1]? = some tomb := by simp [hlt]
      obtain ⟨hT2, hw2⟩ := r2.kept.tombs _ hT
      rw [hLw] at hw2
      rw [forceK_eq] at hq2
      have hbr := run_beginRound (P := P) hw2 (by rw [hrec])
      refine ⟨_, hbr, ?_⟩
      have hg3 : Agree H2 (w2.putObj (H.size + 1) (.loop { rec .ready none with state := .busy })) := r2.agree.putTomb hT2 _
      have r3 := r2.again hd2 hg3
      refine wpIn_mono (sb (l := H.size + 1) hrf.2 hq2 r3) ?_
      rintro e a4 w4 ⟨env4, H4, r4, hq4, u4⟩
      obtain ⟨hT4, hw4⟩ := r4.kept.tombs _ hT2
      rw [World.putObj_heap_same (Array.getElem?_eq_some_iff.1 hw2).1] at hw4
      have fin : ∀ jump : Option (Option Nat), (K (.bool jump.isNone) (H4.setIfInBounds (H.size + 1) (o jump))) →
          ∃ v w5, (Instr.endRound (H.size + 1) (jump.map jcode)).run P w4 = .ok v w5 ∧ ∃ v' H5, Ending.returned v = .returned v' ∧ Turns H' w' H5 w5 ∧ K v' H5 := by
        intro jump hk
        have her := run_endRound (P := P) (jump.map jcode) hw4
        have hin : (jump.map jcode).isNone = jump.isNone := by cases jump <;> rfl
        rw [hin] at her
        refine ⟨_, _, her, _, _, rfl, ⟨?_, ?_⟩, hk⟩
        · have := r4.agree.ofTomb hT4 (o jump)
          rw [ho] at this ⊢
          rw [hrec] at this ⊢
          exact this
        · refine ⟨r4.kept.os.trans r2.kept.os, r4.kept.output.trans r2.kept.output, ?_, fun b hb => ?_, fun b => ?_⟩
          · have h1 := r2.kept.size
            have h2 := r4.kept.size
            simp only [Array.size_setIfInBounds] at h1 ⊢
            omega
          · have hne : b ≠ H.size + 1 := fun e => by rw [e, hL] at hb; exact hot _ (Option.some.inj hb)
            have hb1 : (H'.setIfInBounds (H.size + 1) tomb)[b]? = some tomb := by rw [Array.getElem?_setIfInBounds_ne (Ne.symm hne)]; exact hb
            obtain ⟨k1, k2⟩ := r2.kept.tombs b hb1
            obtain ⟨k3, k4⟩ := r4.kept.tombs b k1
            refine ⟨by rw [Array.getElem?_setIfInBounds_ne (Ne.symm hne)]; exact k3, ?_⟩
            rw [World.putObj_heap_other hne, k4, World.putObj_heap_other hne, k2]
          · exact (frOf_putObj hw4 (by rfl) b).trans ((r4.kept.froz b).trans ((frOf_putObj hw2 (by rfl) b).trans (r2.kept.froz b)))
      cases e with
      | normal => exact fin none hq4
      | ret => exact fin (some none) hq4
      | exit id => exact fin (some (some id)) hq4
      | goto l => exact hq4.elim
      | panic ch => exact hq4.elim
      | outgrown => exact hq4.elim
    | _ => exact hq2.elim
  -- the call
  have hcall := h o hot round
  unfold isFn at hisf
  split at hisf
  · rename_i gf first captured
    unfold callV at hcall
    obtain ⟨⟨fd, hfd, hbody, hname⟩, hc⟩ := hcall
    have hbn : fd.body.isNone = false := by cases hb : fd.body <;> simp_all
    refine ⟨H.size + 1, [{ target := .collected w.heap.size, args := #[] }], W1, { target := .fn (.func gf) captured, args := first ++ #[.func (.yield (H.size + 1)) #[] #[]] }, W1, gf,
      first ++ #[.func (.yield (H.size + 1)) #[] #[]] ++ captured, W1, ?_, ?_, ?_, ?_, (fun h => by cases h), ?_⟩
    · rw [← hW1, ho, hrec, ← hsz]; exact run_enterLoop_outer _ _ _ _ _
    · simp only [resolve, hg, Deferred.ofValue]
      simp [go_sem]
    · intro f' _; trivial
    · simp only [invoke, callFunc, run_program, Sem.run_bind, hfd, hname, Result.andThen_ok, Bool.false_eq_true, if_false, hbn, Sem.run_pure]
    · refine callsIn_fw ((hc W1 t1.agree).mono ?_)
      rintro e W3 ⟨v, H2, rfl, t2, hcase⟩
      have hcase : ∃ c : Option (Option Nat), H2[H.size + 1]? = some (o c) ∧ (match c with | none => Q .normal env (H2.setIfInBounds (H.size + 1) tomb) | some x => Q (jexit x) env (H2.setIfInBounds (H.size + 1) tomb)) := by
        rcases hcase with ⟨h1, h2⟩ | ⟨p, hp, h1, h2⟩
        · exact ⟨none, h1, h2⟩
        · refine ⟨some p.1, h1, ?_⟩
          rw [jmps_mem hp] at h2; exact h2
      obtain ⟨c, hLc, hk⟩ := hcase
      have hLw : W3.heap[H.size + 1]? = some (.loop (rec (if c.isNone then .ready else .done) (c.map jcode))) := by
        have := t2.agree.obj hLc (hot _)
        rw [ho] at this; exact this
      obtain ⟨lx, hend⟩ : ∃ lx : Loop, (Instr.endLoop (H.size + 1)).run P W3 = .ok (c.map jcode) (W3.putObj (H.size + 1) (.loop lx)) := by
        have := run_endLoop (P := P) hLw (by rw [hrec]; cases c <;> simp)
        rw [hrec] at this
        exact ⟨_, this⟩
      refine ⟨c.map jcode, _, hend, ?_⟩
      -- what is known behind the call
      have hlt2 : H.size + 1 < H2.size := (Array.getElem?_eq_some_iff.1 hLc).1
      have t3 : Turns H2 W3 (H2.setIfInBounds (H.size + 1) tomb) (W3.putObj (H.size + 1) (.loop lx)) := by
        refine ⟨(t2.agree.toTomb _).putTomb (by simp [hlt2]) _, rfl, rfl, by simp, fun b hb => ?_, fun b => frOf_putObj hLw (by rfl) b⟩
        have hne : b ≠ H.size + 1 := fun e => by rw [e, hLc] at hb; exact hot _ (Option.some.inj hb)
        exact ⟨by rw [Array.getElem?_setIfInBounds_ne (Ne.symm hne)]; exact hb, World.putObj_heap_other hne⟩
      have rT := r.turn (t1.trans (t2.trans t3))
      obtain ⟨d1, d2⟩ := (t2.trans t3).kept.tombs _ hD1
      have rM : Rel H0 w0 env (H2.setIfInBounds (H.size + 1) tomb) { a with defers := [{ target := .collected w.heap.size, args := #[] }] ++ a.defers }
          (W3.putObj (H.size + 1) (.loop lx)) := by
        refine ⟨rT.agree, rT.kept, rT.len, rT.ok, rT.apart, ?_, ?_⟩
        · intro d hd
          rcases List.mem_append.1 hd with hd | hd
          · simp only [List.mem_singleton] at hd
            refine .inl ⟨w.heap.size, hd, ?_, ?_, ?_⟩
            · rw [hsz]; exact r.kept.size
            · rw [hsz]; exact d1
            · rw [← hDw, hsz]; exact d2
          · exact rT.marks d hd
        · refine List.pairwise_cons.2 ⟨fun d hd x hx => ?_, r.marksApart⟩
          cases hx
          intro e
          rcases r.marks d hd with ⟨y, rfl, _, h2, _⟩ | ⟨fv, cap, h2⟩
          · have := (Array.getElem?_eq_some_iff.1 h2).1
            cases e
            omega
          · rw [h2] at e; cases e
      have u : Unch none [] wr env a env { a with defers := [{ target := .collected w.heap.size, args := #[] }] ++ a.defers } := ⟨rfl, fun _ _ => rfl, fun _ _ h _ _ => h, ⟨[{ target := .collected w.heap.size, args := #[] }], rfl, by simp⟩, .inl rfl⟩
      cases c with
      | none => exact ⟨env, _, rM, hk, u⟩
      | some c =>
        cases c with
        | none => exact wpIn_ret ⟨env, _, rM, hk, u⟩
        | some id => exact wpIn_exit ⟨env, _, rM, hk, u⟩
  · exact hisf.elim

theorem awp_sound {pv : List Nat} {ann : Ann} : ∀ (c : Code) {ro : Option Nat} {H0 : Heap} {w0 : World} {wr : List Nat} {Q : Exit → Env → Heap → Prop} {env : Env} {H : Heap} {a : Act} {w : World},
    (ro = none ∨ noRf c = true) → awp P pv ann c wr Q env H → Rel H0 w0 env H a w → c.wpIn (FW ro) 0 P (CPost ro H0 w0 (mods c) wr env a Q) a w
  | .skip, ro, H0, w0, wr, Q, env, H, a, w, hn, h, r => wpIn_skip ⟨env, H, r, h, .refl _ _ _ _⟩
  | .label _, ro, H0, w0, wr, Q, env, H, a, w, hn, h, r => wpIn_label ⟨env, H, r, h, .refl _ _ _ _⟩
  | .region id ops false, ro, H0, w0, wr, Q, env, H, a, w, hn, h, r => region_sound r h
  | .region id ops true, ro, H0, w0, wr, Q, env, H, a, w, hn, h, r => draw_sound r h
  | .seq x y, ro, H0, w0, wr, Q, env, H, a, w, hn, h, r => by
    refine wpIn_seq (wpIn_mono (awp_sound x (hn.imp (fun e => e) fun e => by simp only [noRf, Bool.and_eq_true] at e; exact e.1) h r) ?_)
    rintro e a1 w1 ⟨env1, H1, r1, hq, u1⟩
    have u1' : Unch ro (mods (.seq x y)) wr env a env1 a1 := u1.mono (fun i hi => List.mem_append_left _ hi) (fun _ h => h)
    cases e with
    | normal =>
      refine wpIn_mono (awp_sound y (hn.imp (fun e => e) fun e => by simp only [noRf, Bool.and_eq_true] at e; exact e.2) hq r1) ?_
      rintro e a2 w2 ⟨env2, H2, r2, hq2, u2⟩
      exact ⟨env2, H2, r2, hq2, u1'.trans (u2.mono (fun i hi => List.mem_append_right _ hi) (fun _ h => h))⟩
    | exit id => exact ⟨env1, H1, r1, hq, u1'⟩
    | goto l => exact ⟨env1, H1, r1, hq, u1'⟩
    | ret => exact ⟨env1, H1, r1, hq, u1'⟩
    | panic ch => exact ⟨env1, H1, r1, hq, u1'⟩
    | outgrown => exact ⟨env1, H1, r1, hq, u1'⟩
  | .cond c x y, ro, H0, w0, wr, Q, env, H, a, w, hn, h, r => by
    unfold awp at h
    obtain ⟨v, hv, h⟩ := opd_iff h
    obtain ⟨t, rfl, h⟩ := asB_iff h
    refine wpIn_cond (r.eval hv) ?_
    split at h
    · cases t <;> simp only [ifB] at h
      · exact wpIn_mono (awp_sound y (hn.imp (fun e => e) fun e => by simp only [noRf, Bool.and_eq_true] at e; exact e.2) h r) fun e a1 w1 ⟨env1, H1, r1, hq, u1⟩ => ⟨env1, H1, r1, hq, u1.mono (fun i hi => List.mem_append_right _ hi) (fun _ h => h)⟩
      · exact wpIn_mono (awp_sound x (hn.imp (fun e => e) fun e => by simp only [noRf, Bool.and_eq_true] at e; exact e.1) h r) fun e a1 w1 ⟨env1, H1, r1, hq, u1⟩ => ⟨env1, H1, r1, hq, u1.mono (fun i hi => List.mem_append_left _ hi) (fun _ h => h)⟩
    · rename_i ls hls
      unfold JoinPT at h
      simp only [forceK_eq] at h
      have fin : ∀ (z : Code), (∀ i ∈ mods z, i ∈ mods x ++ mods y) →
          awp P pv ann z (keeps wr ls ++ (mods x ++ mods y)) (fun e env' H' => match e with | .normal => projK env' ls fun s => Q .normal (restore env (mods x ++ mods y) ls s) H' | e => Q e env' H') env H →
          z.wpIn (FW ro) 0 P (CPost ro H0 w0 (mods (.cond c x y)) wr env a Q) a w → True := fun _ _ _ _ => trivial
      have main : ∀ (z : Code) {e : Exit} {a1 : Act} {w1 : World}, (∀ i ∈ mods z, i ∈ mods x ++ mods y) →
          CPost ro H0 w0 (mods z) (keeps wr ls ++ (mods x ++ mods y)) env a (fun e env' H' => match e with | .normal => projK env' ls fun s => Q .normal (restore env (mods x ++ mods y) ls s) H' | e => Q e env' H') e a1 w1 →
          CPost ro H0 w0 (mods (.cond c x y)) wr env a Q e a1 w1 := by
        rintro z e a1 w1 hz ⟨env1, H1, r1, hq, u1⟩
        have u1 := (u1.mono (M' := mods x ++ mods y) hz (fun _ h => h)).drop
        cases e with
        | normal =>
          obtain ⟨env2, r2, hk2, u2⟩ := join_sound (k := Q .normal) r r1 u1 hq
          exact ⟨env2, H1, r2, hk2, u2⟩
        | _ => exact ⟨env1, H1, r1, hq, u1.mono (fun _ h => h) (fun i hi => (mem_keeps hi).1)⟩
      cases t <;> simp only [ifB] at h
      · exact wpIn_mono (awp_sound y (hn.imp (fun e => e) fun e => by simp only [noRf, Bool.and_eq_true] at e; exact e.2) h r) fun e a1 w1 hp => main y (fun i hi => List.mem_append_right _ hi) hp
      · exact wpIn_mono (awp_sound x (hn.imp (fun e => e) fun e => by simp only [noRf, Bool.and_eq_true] at e; exact e.1) h r) fun e a1 w1 hp => main x (fun i hi => List.mem_append_left _ hi) hp
  | .block id b, ro, H0, w0, wr, Q, env, H, a, w, hn, h, r => by
    unfold awp at h
    split at h
    · refine wpIn_block (wpIn_mono (awp_sound b (hn.imp (fun e => e) fun e => by simpa only [noRf] using e) h r) ?_)
      rintro e a1 w1 ⟨env1, H1, r1, hq, u1⟩
      cases e with
      | exit i =>
        simp only [Exit.inBlock]
        simp only at hq
        split
        · rename_i hi; rw [if_pos hi] at hq; exact ⟨env1, H1, r1, hq, u1⟩
        · rename_i hi; rw [if_neg hi] at hq; exact ⟨env1, H1, r1, hq, u1⟩
      | _ => exact ⟨env1, H1, r1, hq, u1⟩
    · rename_i ls hls
      unfold JoinPT at h
      simp only [forceK_eq] at h
      refine wpIn_block (wpIn_mono (awp_sound b (hn.imp (fun e => e) fun e => by simpa only [noRf] using e) h r) ?_)
      rintro e a1 w1 ⟨env1, H1, r1, hq, u1⟩
      have u1 := u1.drop
      have u1' : Unch ro (mods (.block id b)) wr env a env1 a1 := u1.mono (fun _ h => h) (fun i hi => (mem_keeps hi).1)
      cases e with
      | normal =>
        obtain ⟨env2, r2, hk2, u2⟩ := join_sound (k := Q .normal) r r1 u1 hq
        exact ⟨env2, H1, r2, hk2, u2⟩
      | exit i =>
        simp only [Exit.inBlock]
        simp only at hq
        split
        · rename_i hi
          rw [if_pos hi] at hq
          obtain ⟨env2, r2, hk2, u2⟩ := join_sound (k := Q .normal) r r1 u1 hq
          exact ⟨env2, H1, r2, hk2, u2⟩
        · rename_i hi; rw [if_neg hi] at hq; exact ⟨env1, H1, r1, hq, u1'⟩
      | _ => exact ⟨env1, H1, r1, hq, u1'⟩
  | .loop b, ro, H0, w0, wr, Q, env, H, a, w, hn, h, r => by
    unfold awp at h
    split at h
    · exact h.elim
    · rename_i ls hls
      obtain ⟨s0, h, hs0⟩ := projK_iff h
      obtain ⟨I, n0, hI0, hround⟩ := h
      simp only [forceK_eq] at hround
      refine wp_loop_n (fun n a1 w1 => ∃ s H1, I n s H1 ∧ Rel H0 w0 (restore env (mods b) ls s) H1 a1 w1 ∧ Unch ro (mods b) wr env a (restore env (mods b) ls s) a1) n0
        ⟨s0, H, hI0, r.restore (ro := ro) r (.refl _ (keeps wr ls) _ _) (fun i hi => (mem_keeps hi).2) hs0, (Unch.refl (ro := ro) (mods b) (keeps wr ls) env a).restore hs0⟩ ?_
      rintro n a1 w1 ⟨s, H1, hI, r1, u1⟩
      refine wpIn_mono (awp_sound b (hn.imp (fun e => e) fun e => by simpa only [noRf] using e) (hround n s H1 hI) r1) ?_
      rintro e a2 w2 ⟨env2, H2, r2, hq, u2⟩
      have u2 := u2.drop
      have u2' : Unch ro (mods b) wr env a env2 a2 := u1.trans (u2.mono (fun _ h => h) (fun i hi => (mem_keeps hi).1))
      cases e with
      | normal =>
        obtain ⟨s', ⟨m, hμ, hI'⟩, hs'⟩ := projK_iff hq
        -- from the loop's beginning
        have u3 : Unch ro (mods b) (keeps wr ls) env a env2 a2 := by
          refine ⟨u2'.size, u2'.tmps, fun i cs hc hm hw => ?_, u2'.defers⟩
          by_cases hwr : i ∈ wr
          · have hnl : 2 * i + 1 ∉ ls := fun hl => hw (List.mem_filter.2 ⟨hwr, by simpa using hl⟩)
            refine u2.priv i cs ?_ hm hw
            rw [restore_get, hc]
            simp only [Option.map_some, Option.some.injEq]
            unfold restoreAt
            cases hf : findIx ls (2 * i + 1) with
            | some j => exact absurd (List.mem_of_getElem? (findIx_some hf)) hnl
            | none =>
              simp only
              cases hf2 : findIx ls (2 * i) with
              | some j =>
                have := hs0.val hf2
                rw [hc] at this; cases this
              | none => simp only; rw [if_neg (by simpa using hm)]
          · exact u2'.priv i cs hc hm hwr
        exact ⟨m, hμ, s', H2, hI', r.restore r2 u3 (fun i hi => (mem_keeps hi).2) hs', u3.restore hs'⟩
      | _ => exact ⟨env2, H2, r2, hq, u2'⟩
  | .exit id, ro, H0, w0, wr, Q, env, H, a, w, hn, h, r => wpIn_exit ⟨env, H, r, h, .refl _ _ _ _⟩
  | .ret, ro, H0, w0, wr, Q, env, H, a, w, hn, h, r => wpIn_ret ⟨env, H, r, h, .refl _ _ _ _⟩
  | .rangeFunc g ps assign body, ro, H0, w0, wr, Q, env, H, a, w, hn, h, r => by
    have : ro = none := hn.elim id (fun h => by cases h)
    subst this
    exact range_sound (fun hn h r => awp_sound assign (.inr hn) h r) (fun hn h r => awp_sound body (.inr hn) h r) h r
  | .scope _, ro, H0, w0, wr, Q, env, H, a, w, hn, h, r => h.elim
  | .goto l, ro, H0, w0, wr, Q, env, H, a, w, hn, h, r => wpIn_goto ⟨env, H, r, h, .refl _ _ _ _⟩
  | .refuse _, ro, H0, w0, wr, Q, env, H, a, w, hn, h, r => h.elim

end
end Go.Ab
