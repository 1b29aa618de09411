/- The abstract reading of the model's code: slots, the heap that is seen, and what ties them to a frame and a world. -/
import Derived.Calls
import Derived.Orders
import Derived.Tactics
import Derived.Laws.World
import Derived.Laws.Sem
import Derived.Laws.Cells
import Derived.KernelRfl
namespace Go.Ab
set_option linter.unusedVariables false
set_option linter.unusedSimpArgs false

/-- What is known of a temporary. -/
inductive Slot where
  | unk
  | val (v : Value)
  | priv (cs : List Value)
  | ref (s : Nat) (off : Nat)

abbrev Env := List Slot
abbrev Heap := Array Obj

/-- A block that is not looked at. -/
def tomb : Obj := .pending #[] 0

structure Agree (H : Heap) (w : World) : Prop where
  size : w.heap.size = H.size
  same : ∀ b : Nat, H[b]? ≠ some tomb → w.heap[b]? = H[b]?

/-- Which cells of a block are frozen. -/
def frOf (o : Option Obj) : Nat × Nat := match o with | some (.cells _ _ fr) => fr | _ => (0, 0)

/-- What a piece of code leaves alone: all but the heap, and the blocks that are not looked at. -/
structure Kept (H0 : Heap) (w0 : World) (H : Heap) (w : World) : Prop where
  os : w.os = w0.os
  output : w.output = w0.output
  size : H0.size ≤ H.size
  tombs : ∀ b : Nat, H0[b]? = some tomb → H[b]? = some tomb ∧ w.heap[b]? = w0.heap[b]?
  froz : ∀ b : Nat, frOf w.heap[b]? = frOf w0.heap[b]?

theorem Kept.refl (H : Heap) (w : World) : Kept H w H w := ⟨rfl, rfl, Nat.le_refl _, fun _ h => ⟨h, rfl⟩, fun _ => rfl⟩
theorem Kept.trans {H0 H1 H2 : Heap} {w0 w1 w2 : World} (h : Kept H0 w0 H1 w1) (h' : Kept H1 w1 H2 w2) : Kept H0 w0 H2 w2 :=
  ⟨h'.os.trans h.os, h'.output.trans h.output, Nat.le_trans h.size h'.size,
    fun b hb => ⟨(h'.tombs b (h.tombs b hb).1).1, (h'.tombs b (h.tombs b hb).1).2.trans (h.tombs b hb).2⟩, fun b => (h'.froz b).trans (h.froz b)⟩

def SlotOk (H0 H : Heap) (env : Env) (tmps : Array Value) (w : World) (i : Nat) : Slot → Prop
  | .unk => True
  | .val v => tmps[i]? = some v
  | .priv cs => ∃ b e, H0.size ≤ b ∧ tmps[i]? = some (.pointer (some ⟨b, 0, none⟩)) ∧ H[b]? = some tomb ∧ w.heap[b]? = some (.cells cs.toArray e (0, 0))
  | .ref s off => ∃ b cs, env[s]? = some (.priv cs) ∧ tmps[s]? = some (.pointer (some ⟨b, 0, none⟩)) ∧ tmps[i]? = some (.pointer (some ⟨b, off, none⟩))

/-- The marks that loops over functions leave among the deferred calls: their blocks are not looked at. -/
structure MarksOk (H0 H : Heap) (tmps : Array Value) (env : Env) (w : World) (ds : List Deferred) : Prop where
  all : ∀ d ∈ ds, ∃ r, d = { target := .collected r, args := #[] } ∧ H0.size ≤ r ∧ H[r]? = some tomb ∧ w.heap[r]? = some (.deferred (some []))
  nodup : ds.Pairwise (fun x y => x.target ≠ y.target)

structure Rel (H0 : Heap) (w0 : World) (env : Env) (H : Heap) (a : Act) (w : World) : Prop where
  agree : Agree H w
  kept : Kept H0 w0 H w
  len : a.tmps.size = env.length
  ok : ∀ i s, env[i]? = some s → SlotOk H0 H env a.tmps w i s
  apart : ∀ (i j : Nat) cs cs' p, env[i]? = some (.priv cs) → env[j]? = some (.priv cs') → a.tmps[i]? = some p → a.tmps[j]? = some p → i = j
  marks : ∀ d ∈ a.defers, (∃ r, d = { target := .collected r, args := #[] } ∧ H0.size ≤ r ∧ H[r]? = some tomb ∧ w.heap[r]? = some (.deferred (some []))) ∨ ∃ fv cap, d.target = .fn fv cap
  marksApart : a.defers.Pairwise (fun x y => ∀ r, x.target = .collected r → y.target ≠ .collected r)

/-! ### Reading operands -/

abbrev asB (v : Value) (k : Bool → Prop) : Prop := match v with | .bool b => k b | _ => False
abbrev asI (v : Value) (k : Int → Prop) : Prop := match v with | .int _ n => k n | _ => False
abbrev ifB (b : Bool) (A B : Prop) : Prop := match b with | true => A | false => B

def Env.value (env : Env) : Operand → Option Value
  | .tmp t => match env[t]? with | some (.val v) => some v | _ => none
  | .const v => some v
  | .global g => some (.pointer (some ⟨g, 0, none⟩))
  | .func f => some (.func (.func f) #[] #[])

/-- An operand's value. -/
abbrev opd (env : Env) (x : Operand) (k : Value → Prop) : Prop :=
  match x with
  | .tmp t => (match env[t]? with | some (.val v) => k v | _ => False)
  | .const v => k v
  | .global g => k (.pointer (some ⟨g, 0, none⟩))
  | .func f => k (.func (.func f) #[] #[])

theorem opd_iff {env : Env} {x : Operand} {k : Value → Prop} (h : opd env x k) : ∃ v, env.value x = some v ∧ k v := by
  unfold opd at h
  unfold Env.value
  cases x with
  | tmp t =>
    simp only at h ⊢
    split at h
    · rename_i v hv; exact ⟨v, rfl, h⟩
    · exact h.elim
  | const v => exact ⟨v, rfl, h⟩
  | global g => exact ⟨_, rfl, h⟩
  | func f => exact ⟨_, rfl, h⟩

theorem Rel.eval {H0 : Heap} {w0 : World} {env : Env} {H : Heap} {a : Act} {w : World} (r : Rel H0 w0 env H a w) {x : Operand} {v : Value}
    (h : env.value x = some v) : a.eval x = v := by
  unfold Env.value at h
  cases x with
  | tmp t =>
    simp only at h
    split at h
    · rename_i u hu
      have := r.ok t _ hu
      simp only [SlotOk] at this
      simp only [Act.eval, Array.getD_eq_getD_getElem?, this]
      simpa using h
    · cases h
  | const u => simpa [Act.eval] using h
  | global g => simpa [Act.eval] using h
  | func f => simpa [Act.eval] using h

/-! ### Putting a value into a slot -/

def Slot.isPriv : Slot → Bool
  | .priv _ => true
  | _ => false

/-- An environment is written out before one goes on. -/
abbrev forceS (x : Slot) (k : Slot → Prop) : Prop := match x with | .unk => k .unk | .val v => k (.val v) | .priv cs => k (.priv cs) | .ref s o => k (.ref s o)
abbrev forceK : Env → (Env → Prop) → Prop
  | [], k => k []
  | x :: r, k => forceS x fun x' => forceK r fun r' => k (x' :: r')
theorem forceS_eq (x : Slot) (k : Slot → Prop) : forceS x k = k x := by cases x <;> rfl
theorem forceK_eq : ∀ (e : Env) (k : Env → Prop), forceK e k = k e
  | [], k => rfl
  | x :: r, k => by unfold forceK; rw [forceS_eq, forceK_eq r]

/-- The slot that an operation writes, where it is none of the function's own boxes. -/
abbrev putS (env : Env) (d : Option Tmp) (s : Slot) (k : Env → Prop) : Prop :=
  match d with
  | none => k env
  | some d => (match env[d]? with
    | some (.priv _) => False
    | _ => forceK (env.set d s) k)

theorem putS_iff {env : Env} {d : Option Tmp} {s : Slot} {k : Env → Prop} (h : putS env d s k) :
    ∃ env', k env' ∧ ((d = none ∧ env' = env) ∨ ∃ t, d = some t ∧ env' = env.set t s ∧ ∀ cs, env[t]? ≠ some (.priv cs)) := by
  unfold putS at h
  cases d with
  | none => exact ⟨env, h, .inl ⟨rfl, rfl⟩⟩
  | some t =>
    simp only at h
    split at h
    · exact h.elim
    · rename_i hn
      rw [forceK_eq] at h
      exact ⟨_, h, .inr ⟨t, rfl, rfl, fun cs hc => hn cs hc⟩⟩

theorem Rel.putVal {H0 : Heap} {w0 : World} {env : Env} {H : Heap} {a : Act} {w : World} (r : Rel H0 w0 env H a w) {t : Tmp} (v : Value)
    (hn : ∀ cs, env[t]? ≠ some (.priv cs)) : Rel H0 w0 (env.set t (.val v)) H (a.put (some t) v) w := by
  refine ⟨r.agree, r.kept, by simp [Act.put, r.len], ?_, ?_, r.marks, r.marksApart⟩
  · intro i s hs
    by_cases hi : t = i
    · subst hi
      rw [List.getElem?_set] at hs
      simp only [if_true] at hs
      split at hs
      · rename_i hlt
        cases hs
        simp only [SlotOk, Act.put]
        rw [Array.getElem?_setIfInBounds]
        simp [r.len, hlt]
      · cases hs
    · rw [List.getElem?_set_ne hi] at hs
      have := r.ok i s hs
      cases s with
      | unk => trivial
      | val u => simpa [SlotOk, Act.put, Array.getElem?_setIfInBounds_ne hi] using this
      | priv cs =>
        obtain ⟨b, e, h1, h2, h3, h4⟩ := this
        exact ⟨b, e, h1, by simpa [Act.put, Array.getElem?_setIfInBounds_ne hi] using h2, h3, h4⟩
      | ref q off =>
        obtain ⟨b, cs, h1, h2, h3⟩ := this
        have hq : t ≠ q := fun e => hn cs (e ▸ h1)
        exact ⟨b, cs, by rw [List.getElem?_set_ne hq]; exact h1, by simpa [Act.put, Array.getElem?_setIfInBounds_ne hq] using h2,
          by simpa [Act.put, Array.getElem?_setIfInBounds_ne hi] using h3⟩
  · intro i j cs cs' p hi hj hpi hpj
    have hti : t ≠ i := by
      intro e; subst e
      rw [List.getElem?_set] at hi
      simp only [if_true] at hi
      split at hi <;> cases hi
    have htj : t ≠ j := by
      intro e; subst e
      rw [List.getElem?_set] at hj
      simp only [if_true] at hj
      split at hj <;> cases hj
    rw [List.getElem?_set_ne hti] at hi
    rw [List.getElem?_set_ne htj] at hj
    exact r.apart i j cs cs' p hi hj (by simpa [Act.put, Array.getElem?_setIfInBounds_ne hti] using hpi)
      (by simpa [Act.put, Array.getElem?_setIfInBounds_ne htj] using hpj)

theorem Rel.putD {H0 : Heap} {w0 : World} {env : Env} {H : Heap} {a : Act} {w : World} (r : Rel H0 w0 env H a w) {d : Option Tmp} {v : Value} {k : Env → Prop}
    (h : putS env d (.val v) k) : ∃ env', k env' ∧ Rel H0 w0 env' H (a.put d v) w := by
  obtain ⟨env', hk, h | ⟨t, rfl, rfl, hn⟩⟩ := putS_iff h
  · obtain ⟨rfl, rfl⟩ := h; exact ⟨_, hk, r⟩
  · exact ⟨_, hk, r.putVal v hn⟩

theorem Rel.putRef {H0 : Heap} {w0 : World} {env : Env} {H : Heap} {a : Act} {w : World} (r : Rel H0 w0 env H a w) {t s : Tmp} {off b : Nat} {cs : List Value}
    (hn : ∀ cs, env[t]? ≠ some (.priv cs)) (hs : env[s]? = some (.priv cs)) (hb : a.tmps[s]? = some (.pointer (some ⟨b, 0, none⟩))) :
    Rel H0 w0 (env.set t (.ref s off)) H (a.put (some t) (.pointer (some ⟨b, off, none⟩))) w := by
  have hts : t ≠ s := fun e => hn cs (e ▸ hs)
  have base := r.putVal (.pointer (some ⟨b, off, none⟩)) hn
  refine ⟨base.agree, base.kept, by simpa using base.len, ?_, ?_, base.marks, base.marksApart⟩
  · intro i x hx
    by_cases hi : t = i
    · subst hi
      have hlt : t < env.length := by
        rcases Nat.lt_or_ge t env.length with h | h
        · exact h
        · rw [List.getElem?_set] at hx; simp only [if_true] at hx; rw [if_neg (by omega)] at hx; cases hx
      rw [List.getElem?_set_self hlt] at hx
      cases hx
      refine ⟨b, cs, by rw [List.getElem?_set_ne hts]; exact hs, by simpa [Act.put, Array.getElem?_setIfInBounds_ne hts] using hb, ?_⟩
      simp only [Act.put]
      rw [Array.getElem?_setIfInBounds]
      simp [r.len, hlt]
    · rw [List.getElem?_set_ne hi] at hx
      have := base.ok i x (by rw [List.getElem?_set_ne hi]; exact hx)
      cases x with
      | unk => trivial
      | val u => exact this
      | priv cs => exact this
      | ref q o =>
        obtain ⟨b', cs', h1, h2, h3⟩ := this
        have hq : t ≠ q := by
          intro e; subst e
          rw [List.getElem?_set] at h1
          simp only [if_true] at h1
          split at h1 <;> cases h1
        exact ⟨b', cs', by rw [List.getElem?_set_ne hq] at h1 ⊢; exact h1, h2, h3⟩
  · intro i j c c' p hi hj
    have key : ∀ (i : Nat) c, (env.set t (.ref s off))[i]? = some (.priv c) → (env.set t (.val (.pointer (some ⟨b, off, none⟩))))[i]? = some (.priv c) := by
      intro i c h
      have hti : t ≠ i := by
        intro e; subst e
        rw [List.getElem?_set] at h
        simp only [if_true] at h
        split at h <;> cases h
      rw [List.getElem?_set_ne hti] at h ⊢
      exact h
    exact base.apart i j c c' p (key i c hi) (key j c' hj)

/-! ### Changing the heap that is seen -/

/-- The heap grows, and its seen blocks turn: nothing that is not looked at does. -/
structure Turns (H : Heap) (w : World) (H' : Heap) (w' : World) : Prop where
  agree : Agree H' w'
  kept : Kept H w H' w'

theorem Rel.turn {H0 : Heap} {w0 : World} {env : Env} {H H' : Heap} {a : Act} {w w' : World} (r : Rel H0 w0 env H a w) (t : Turns H w H' w') :
    Rel H0 w0 env H' a w' := by
  refine ⟨t.agree, r.kept.trans t.kept, r.len, ?_, r.apart, ?_, r.marksApart⟩
  · intro i s hs
    have := r.ok i s hs
    cases s with
    | unk => trivial
    | val v => exact this
    | priv cs =>
      obtain ⟨b, e, h1, h2, h3, h4⟩ := this
      obtain ⟨k1, k2⟩ := t.kept.tombs b h3
      exact ⟨b, e, h1, h2, k1, k2.trans h4⟩
    | ref q off => exact this
  · intro d hd
    refine (r.marks d hd).imp ?_ id
    rintro ⟨x, h1, h2, h3, h4⟩
    obtain ⟨k1, k2⟩ := t.kept.tombs x h3
    exact ⟨x, h1, h2, k1, k2.trans h4⟩

theorem Turns.refl {H : Heap} {w : World} (h : Agree H w) : Turns H w H w := ⟨h, .refl H w⟩

theorem Turns.trans {H0 H1 H2 : Heap} {w0 w1 w2 : World} (h : Turns H0 w0 H1 w1) (h' : Turns H1 w1 H2 w2) : Turns H0 w0 H2 w2 :=
  ⟨h'.agree, h.kept.trans h'.kept⟩

theorem Turns.drew {H : Heap} {w : World} (h : Agree H w) : Turns H w H w.drew :=
  ⟨⟨h.size, h.same⟩, ⟨rfl, rfl, Nat.le_refl _, fun _ hb => ⟨hb, rfl⟩, fun _ => rfl⟩⟩

theorem frOf_push {w : World} (o : Obj) (ho : frOf (some o) = (0, 0)) (b : Nat) : frOf (w.alloc o).heap[b]? = frOf w.heap[b]? := by
  simp only [World.alloc, Array.getElem?_push]
  split
  · rename_i h; rw [ho, h]; simp [frOf]
  · rfl

theorem Turns.push {H : Heap} {w : World} (h : Agree H w) (o : Obj) (ho : frOf (some o) = (0, 0) := by rfl) : Turns H w (H.push o) (w.alloc o) := by
  refine ⟨⟨by simp [h.size], ?_⟩, ⟨rfl, rfl, by simp, ?_, frOf_push o ho⟩⟩
  · intro b hb
    simp only [World.alloc, Array.getElem?_push, h.size] at hb ⊢
    split
    · rfl
    · rename_i hne
      rw [if_neg hne] at hb
      exact h.same b hb
  · intro b hb
    have hlt : b < H.size := (Array.getElem?_eq_some_iff.1 hb).1
    refine ⟨by rw [Array.getElem?_push_lt hlt]; rw [Array.getElem?_eq_getElem hlt] at hb; exact hb, ?_⟩
    have hlt' : b < w.heap.size := by rw [h.size]; exact hlt
    simp only [World.alloc]
    rw [Array.getElem?_push_lt hlt', Array.getElem?_eq_getElem hlt']

/-- A new block that is not looked at. -/
theorem Turns.pushTomb {H : Heap} {w : World} (h : Agree H w) (o : Obj) (ho : frOf (some o) = (0, 0) := by rfl) : Turns H w (H.push tomb) (w.alloc o) := by
  refine ⟨⟨by simp [h.size], ?_⟩, ⟨rfl, rfl, by simp, ?_, frOf_push o ho⟩⟩
  · intro b hb
    by_cases hbs : b = H.size
    · subst hbs; simp at hb
    · rw [Array.getElem?_push, if_neg hbs] at hb ⊢
      simp only [World.alloc]
      rw [Array.getElem?_push, h.size, if_neg hbs]
      exact h.same b hb
  · intro b hb
    have hlt : b < H.size := (Array.getElem?_eq_some_iff.1 hb).1
    refine ⟨by rw [Array.getElem?_push_lt hlt]; rw [Array.getElem?_eq_getElem hlt] at hb; exact hb, ?_⟩
    have hlt' : b < w.heap.size := by rw [h.size]; exact hlt
    simp only [World.alloc]
    rw [Array.getElem?_push_lt hlt', Array.getElem?_eq_getElem hlt']

end Go.Ab
