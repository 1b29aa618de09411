/- What single operations do, as predicate transformers over values and the heap that is seen; each is sound against the model's own run. -/
import Derived.Test.YtlmpjhbfgakgdaaDoorAbCore
import Derived.Laws.Entries
import Derived.Laws.CopyRow
import Derived.Laws.Append
namespace Go.Ab
set_option linter.unusedVariables false
set_option linter.unusedSimpArgs false

/-! ### Cells -/

/-- One cell's value. -/
def okc : Value → Bool
  | .agg _ | .tuple _ => false
  | _ => true

def scal (v : Value) (k : Prop) : Prop := ifB (okc v) k False

def seg (cs : List Value) (o n : Nat) : List Value := (cs.drop o).take n
def setSeg (cs : List Value) (o : Nat) (vs : List Value) : List Value := cs.take o ++ vs ++ cs.drop (o + vs.length)

/-- The value of a variable's cells. -/
def mkV (agg : Bool) (cs : List Value) : Value := match agg with | true => .agg cs.toArray | false => cs.headD undef

/-- A value's cells, of a type with so many. -/
abbrev cellsV (agg : Bool) (n : Nat) (v : Value) (k : List Value → Prop) : Prop :=
  match agg with
  | true => (match v with | .agg c => ifB (c.size == n && c.toList.all okc) (k c.toList) False | _ => False)
  | false => ifB (okc v) (k [v]) False

def cellsAt (H : Heap) (b o n : Nat) : Option (List Value) :=
  match H[b]? with
  | some (.cells c _ _) => if o + n ≤ c.size then some (seg c.toList o n) else none
  | _ => none

def setCells (H : Heap) (b o : Nat) (vs : List Value) : Heap :=
  H.modify b fun | .cells c e fr => .cells (setSeg c.toList o vs).toArray e fr | x => x

/-- May so many cells be written there? -/
def mayWrite (H : Heap) (b o n : Nat) : Prop :=
  match H[b]? with
  | some (.cells c _ fr) => fr = (0, 0) ∧ o + n ≤ c.size
  | _ => False

def loadP (agg : Bool) (n : Nat) (p : Value) (H : Heap) (k : Value → Prop) : Prop :=
  match p with
  | .pointer (some ⟨b, o, none⟩) => (match cellsAt H b o n with | some cs => k (mkV agg cs) | none => False)
  | _ => False

def storeP (agg : Bool) (n : Nat) (p v : Value) (H : Heap) (k : Heap → Prop) : Prop :=
  match p with
  | .pointer (some ⟨b, o, none⟩) => cellsV agg n v fun vs => mayWrite H b o n ∧ k (setCells H b o vs)
  | _ => False

theorem seg_length {cs : List Value} {o n : Nat} (h : o + n ≤ cs.length) : (seg cs o n).length = n := by
  simp only [seg, List.length_take, List.length_drop]; omega

theorem seg_get {cs : List Value} {o n j : Nat} (hj : j < n) : (seg cs o n)[j]? = cs[o + j]? := by
  simp only [seg, List.getElem?_take, List.getElem?_drop, if_pos hj]

section
variable {P : Program} {w : World} {H : Heap}

theorem Agree.cells (h : Agree H w) {b : Nat} {c : Array Value} {e : TypeId} {fr : Nat × Nat} (hb : H[b]? = some (.cells c e fr)) : w.heap[b]? = some (.cells c e fr) := by
  rw [h.same b (by rw [hb]; intro h; cases h), hb]

theorem Agree.obj (h : Agree H w) {b : Nat} {o : Obj} (hb : H[b]? = some o) (ho : o ≠ tomb) : w.heap[b]? = some o := by
  rw [h.same b (by rw [hb]; intro h; cases h; exact ho rfl), hb]

theorem add_none (b o i : Nat) : (Addr.mk b o none).add i = ⟨b, o + i, none⟩ := by
  unfold Addr.add; split
  · rename_i h; subst h; rfl
  · rfl

theorem run_loadCells_block {b o n : Nat} {c : Array Value} {e : TypeId} {fr : Nat × Nat} (hb : w.heap[b]? = some (.cells c e fr)) (hn : o + n ≤ c.size) :
    (loadCells ⟨b, o, none⟩ n).run P w = .ok (seg c.toList o n).toArray w := by
  have h := run_loadCells_list (P := P) (w := w) ⟨b, o, none⟩ (seg c.toList o n) (fun j v hj => by
    have hlt : j < n := by
      have := (List.getElem?_eq_some_iff.1 hj).1
      rw [seg_length (by simpa using hn)] at this; exact this
    rw [seg_get hlt] at hj
    rw [add_none]
    simp only [World.cell?, hb, Option.isSome_none, Bool.false_eq_true, if_false]
    simpa using hj)
  rw [seg_length (by simpa using hn)] at h
  exact h

/-- The size of a type's values, and whether they are aggregates. -/
def szOf (P : Program) (t : TypeId) : Option Nat := (P.info? t).map (·.size)
def aggOf (P : Program) (t : TypeId) : Option Bool := (P.underlying t).map fun | .struct _ | .array _ _ => true | _ => false

theorem run_sizeOf' {t : TypeId} {n : Nat} (h : szOf P t = some n) : (sizeOf t).run P w = .ok n w := by
  unfold szOf at h
  cases hi : P.info? t with
  | none => rw [hi] at h; cases h
  | some i => rw [hi] at h; simp at h; simp [sizeOf, typeInfo, hi, h]

theorem run_isAgg' {t : TypeId} {b : Bool} (h : aggOf P t = some b) : (isAgg t).run P w = .ok b w := by
  unfold aggOf at h
  cases hi : P.underlying t with
  | none => rw [hi] at h; cases h
  | some d =>
    rw [hi] at h
    simp only [Option.map_some, Option.some.injEq] at h
    cases d <;> simp only at h <;> subst h <;> simp [isAgg, underlying, hi]

theorem run_load_cell {b o : Nat} {c : Array Value} {e : TypeId} {fr : Nat × Nat} (hb : w.heap[b]? = some (.cells c e fr)) (ho : o + 1 ≤ c.size) :
    (load ⟨b, o, none⟩).run P w = .ok ((seg c.toList o 1).headD undef) w := by
  have hlt : o < c.size := by omega
  have : w.cell? ⟨b, o, none⟩ = some c[o] := by simp [World.cell?, hb, hlt]
  rw [run_load, this]
  have h2 : seg c.toList o 1 = [c[o]] := by
    apply List.ext_getElem?
    intro j
    cases j with
    | zero => rw [seg_get (by omega)]; simp [hlt]
    | succ j => simp only [seg, List.getElem?_take]; simp
  rw [h2]; rfl

theorem run_loadVar_block {t : TypeId} {agg : Bool} {n b o : Nat} {c : Array Value} {e : TypeId} {fr : Nat × Nat} (ha : aggOf P t = some agg) (hs : szOf P t = some n)
    (h1 : agg = false → n = 1) (hb : w.heap[b]? = some (.cells c e fr)) (hn : o + n ≤ c.size) :
    (loadVar t ⟨b, o, none⟩).run P w = .ok (mkV agg (seg c.toList o n)) w := by
  cases agg with
  | true => simp [loadVar, run_isAgg' ha, run_sizeOf' hs, run_loadCells_block hb hn, mkV]
  | false =>
    obtain rfl := h1 rfl
    simp only [loadVar, Sem.run_bind, run_isAgg' ha]
    simpa [mkV] using run_load_cell (P := P) hb hn

theorem loadP_sound {t : TypeId} {agg : Bool} {n : Nat} {p : Value} {k : Value → Prop} (ha : aggOf P t = some agg) (hs : szOf P t = some n) (h1 : agg = false → n = 1)
    (hg : Agree H w) (h : loadP agg n p H k) : ∃ v, (Instr.loadAt t p).run P w = .ok v w ∧ k v := by
  unfold loadP at h
  split at h
  · rename_i b o
    split at h
    · rename_i cs hcs
      unfold cellsAt at hcs
      split at hcs
      · rename_i c e fr hb
        split at hcs
        · rename_i hn
          cases hcs
          exact ⟨_, by simp [Instr.loadAt, Instr.sureAddr, run_loadVar_block ha hs h1 (hg.cells hb) hn], h⟩
        · cases hcs
      · cases hcs
    · exact h.elim
  · exact h.elim


theorem okc_eq (v : Value) : v.oneCell' = okc v := by cases v <;> rfl

theorem cellsV_iff {agg : Bool} {n : Nat} {v : Value} {k : List Value → Prop} (h : cellsV agg n v k) (h1 : agg = false → n = 1) :
    v.cells.size = n ∧ (∀ x ∈ v.cells.toList, x.oneCell' = true) ∧ k v.cells.toList := by
  unfold cellsV at h
  cases agg with
  | true =>
    simp only at h
    split at h
    · rename_i c
      unfold ifB at h
      split at h
      · rename_i hc
        simp only [Bool.and_eq_true, beq_iff_eq, List.all_eq_true] at hc
        exact ⟨hc.1, fun x hx => by rw [okc_eq]; exact hc.2 x hx, h⟩
      · exact h.elim
    · exact h.elim
  | false =>
    obtain rfl := h1 rfl
    simp only at h
    unfold ifB at h
    split at h
    · rename_i hv
      have hc : v.cells = #[v] := by cases v <;> first | rfl | (simp [okc] at hv)
      rw [hc]
      exact ⟨rfl, fun x hx => by rw [okc_eq]; simp at hx; subst hx; exact hv, h⟩
    · exact h.elim

theorem Turns.setCells (h : Agree H w) {b o : Nat} {c : Array Value} {e : TypeId} {fr : Nat × Nat} (vs : List Value) (hb : H[b]? = some (.cells c e fr)) :
    Turns H w (setCells H b o vs) (w.setRow b (setSeg c.toList o vs).toArray) := by
  have hw := h.cells hb
  refine ⟨⟨by simp [World.setRow, Ab.setCells, h.size], ?_⟩, ⟨rfl, rfl, by simp [Ab.setCells], ?_, fun x => ?_⟩⟩
  · intro x hx
    by_cases hxb : x = b
    · subst hxb
      rw [setRow_heap w x c _ e fr hw]
      simp [Ab.setCells, Array.getElem?_modify, hb]
    · rw [setRow_other w b x _ hxb]
      simp only [Ab.setCells, Array.getElem?_modify, if_neg (Ne.symm hxb)] at hx ⊢
      exact h.same x hx
  · intro x hx
    have hxb : x ≠ b := by intro e; subst e; rw [hb] at hx; cases hx
    exact ⟨by simp only [Ab.setCells, Array.getElem?_modify, if_neg (Ne.symm hxb)]; exact hx, setRow_other w b x _ hxb⟩
  · by_cases hxb : x = b
    · subst hxb; rw [setRow_heap w x c _ e fr hw, hw]; rfl
    · rw [setRow_other w b x _ hxb]

theorem run_storeCells_block {b o : Nat} {c : Array Value} {e : TypeId} (vs : List Value) (hw : w.heap[b]? = some (.cells c e (0, 0))) (ho : o + vs.length ≤ c.size)
    (h1 : ∀ x ∈ vs, x.oneCell' = true) : (storeCells ⟨b, o, none⟩ vs).run P w = .ok () (w.setRow b (setSeg c.toList o vs).toArray) := by
  have := run_storeCells_at P b o e vs 0 c w hw (by simpa using ho) h1
  simpa [setSeg] using this

theorem run_storeVar_block {t : TypeId} {n b o : Nat} {c : Array Value} {e : TypeId} {v : Value} (hs : szOf P t = some n) (hn : v.cells.size = n)
    (hw : w.heap[b]? = some (.cells c e (0, 0))) (ho : o + n ≤ c.size) (h1 : ∀ x ∈ v.cells.toList, x.oneCell' = true) :
    (storeVar t ⟨b, o, none⟩ v).run P w = .ok () (w.setRow b (setSeg c.toList o v.cells.toList).toArray) := by
  have := run_storeCells_block (P := P) v.cells.toList hw (by simpa [hn] using ho) h1
  simp [storeVar, run_sizeOf' hs, hn, this]

theorem storeP_sound {t : TypeId} {agg : Bool} {n : Nat} {p v : Value} {k : Heap → Prop} (hs : szOf P t = some n) (h1 : agg = false → n = 1)
    (hg : Agree H w) (h : storeP agg n p v H k) : ∃ H' w', (Instr.storeAt t p v).run P w = .ok () w' ∧ Turns H w H' w' ∧ k H' := by
  unfold storeP at h
  split at h
  · rename_i b o
    obtain ⟨hn, hok, hm, hk⟩ := cellsV_iff h h1
    unfold mayWrite at hm
    split at hm
    · rename_i c e fr hb
      obtain ⟨rfl, ho⟩ := hm
      exact ⟨_, _, by simp [Instr.storeAt, Instr.sureAddr, run_storeVar_block hs hn (hg.cells hb) ho hok], .setCells hg _ hb, hk⟩
    · exact hm.elim
  · exact h.elim

/-! ### Addresses -/

def fldP (off : Nat) (p : Value) (k : Value → Prop) : Prop :=
  match p with
  | .pointer (some ⟨b, o, none⟩) => k (.pointer (some ⟨b, o + off, none⟩))
  | _ => False

theorem fldP_sound {st : TypeId} {fs : Array Field} {f : Nat} {fd : Field} {n : Nat} {p : Value} {k : Value → Prop} (hu : P.underlying st = some (.struct fs))
    (hf : fs[f]? = some fd) (hs : szOf P fd.type = some n) (hn : n ≠ 0) (h : fldP fd.offset p k) : ∃ v, (Instr.fieldAt st p f).run P w = .ok v w ∧ k v := by
  unfold fldP at h
  split at h
  · rename_i b o
    exact ⟨_, by simp [Instr.fieldAt, run_underlying hu, hf, Instr.sureAddr, fieldPlace, run_sizeOf' hs, hn, add_none], h⟩
  · exact h.elim

def idxS (n : Nat) (s i : Value) (k : Value → Prop) : Prop :=
  match s, i with
  | .slice (some ⟨b, o, none⟩) len _, .int _ j => (0 ≤ j ∧ j < (len : Int)) ∧ k (.pointer (some ⟨b, o + j.toNat * n, none⟩))
  | _, _ => False

def idxA (len n : Nat) (p i : Value) (k : Value → Prop) : Prop :=
  match p, i with
  | .pointer (some ⟨b, o, none⟩), .int _ j => (0 ≤ j ∧ j < (len : Int)) ∧ k (.pointer (some ⟨b, o + j.toNat * n, none⟩))
  | _, _ => False

/-- An index within a box of the function's own. -/
def idxR (len : Nat) (i : Value) (k : Nat → Prop) : Prop :=
  match i with
  | .int _ j => (0 ≤ j ∧ j < (len : Int)) ∧ k j.toNat
  | _ => False

theorem idxS_sound {t e : TypeId} {n : Nat} {s i : Value} {k : Value → Prop} (hu : P.underlying t = some (.slice e)) (hs : szOf P e = some n)
    (h : idxS n s i k) : ∃ v, (Instr.indexAt t s i).run P w = .ok v w ∧ k v := by
  unfold idxS at h
  split at h
  · rename_i b o len cap kd j
    obtain ⟨hj, hk⟩ := h
    exact ⟨_, by simp [Instr.indexAt, asIntOf, run_underlying hu, run_sizeOf' hs, hj, add_none], hk⟩
  · exact h.elim

theorem idxA_run {t e : TypeId} {len n b o : Nat} {kd : IntKind} {j : Int} (hu : P.underlying t = some (.array len e)) (hs : szOf P e = some n)
    (hj : 0 ≤ j ∧ j < (len : Int)) :
    (Instr.indexAt t (.pointer (some ⟨b, o, none⟩)) (.int kd j)).run P w = .ok (.pointer (some ⟨b, o + j.toNat * n, none⟩)) w := by
  simp [Instr.indexAt, asIntOf, run_underlying hu, Instr.sureAddr, run_sizeOf' hs, hj, add_none]

theorem idxA_sound {t e : TypeId} {len n : Nat} {p i : Value} {k : Value → Prop} (hu : P.underlying t = some (.array len e)) (hs : szOf P e = some n)
    (h : idxA len n p i k) : ∃ v, (Instr.indexAt t p i).run P w = .ok v w ∧ k v := by
  unfold idxA at h
  split at h
  · obtain ⟨hj, hk⟩ := h
    exact ⟨_, idxA_run hu hs hj, hk⟩
  · exact h.elim

/-! ### Parts of values -/

def fldV (agg : Bool) (o n : Nat) (x : Value) (k : Value → Prop) : Prop :=
  match x with
  | .agg c => ifB (decide (o + n ≤ c.size)) (k (mkV agg (seg c.toList o n))) False
  | _ => False

theorem run_part {t : TypeId} {agg : Bool} {n o : Nat} {c : Array Value} (ha : aggOf P t = some agg) (hs : szOf P t = some n) (h1 : agg = false → n = 1) (hn : o + n ≤ c.size) :
    (part t c o).run P w = .ok (mkV agg (seg c.toList o n)) w := by
  cases agg with
  | true =>
    have : (seg c.toList o n).toArray = c.extract o (o + n) := by
      apply Array.ext'
      simp [seg, Array.toList_extract, List.extract_eq_take_drop]
    simp [part, run_isAgg' ha, run_sizeOf' hs, mkV, this]
  | false =>
    obtain rfl := h1 rfl
    have hlt : o < c.size := by omega
    have h2 : seg c.toList o 1 = [c[o]] := by
      apply List.ext_getElem?
      intro j
      cases j with
      | zero => rw [seg_get (by omega)]; simp [hlt]
      | succ j => simp only [seg, List.getElem?_take]; simp
    simp [part, run_isAgg' ha, hlt, mkV, h2]

theorem fldV_sound {st : TypeId} {fs : Array Field} {f : Nat} {fd : Field} {agg : Bool} {n : Nat} {x : Value} {k : Value → Prop} (hu : P.underlying st = some (.struct fs))
    (hf : fs[f]? = some fd) (ha : aggOf P fd.type = some agg) (hs : szOf P fd.type = some n) (h1 : agg = false → n = 1) (h : fldV agg fd.offset n x k) :
    ∃ v, (Instr.field st x f).run P w = .ok v w ∧ k v := by
  unfold fldV ifB at h
  split at h
  · split at h
    · rename_i hd
      exact ⟨_, by simp [Instr.field, run_underlying hu, hf, asAgg, run_part ha hs h1 (of_decide_eq_true hd)], h⟩
    · exact h.elim
  · exact h.elim

/-- An element of an array's value; a string's byte. -/
def idxV (agg : Bool) (len n : Nat) (x i : Value) (k : Value → Prop) : Prop :=
  match x, i with
  | .agg c, .int _ j => (0 ≤ j ∧ j < (len : Int) ∧ j.toNat * n + n ≤ c.size) ∧ k (mkV agg (seg c.toList (j.toNat * n) n))
  | _, _ => False

theorem idxV_sound {t e : TypeId} {agg : Bool} {len n : Nat} {x i : Value} {k : Value → Prop} (hu : P.underlying t = some (.array len e)) (ha : aggOf P e = some agg)
    (hs : szOf P e = some n) (h1 : agg = false → n = 1) (h : idxV agg len n x i k) : ∃ v, (Instr.index t x i).run P w = .ok v w ∧ k v := by
  unfold idxV at h
  split at h
  · rename_i c kd j
    obtain ⟨⟨h0, hj, hc⟩, hk⟩ := h
    exact ⟨_, by simp [Instr.index, asIntOf, run_underlying hu, h0, hj, run_sizeOf' hs, run_part ha hs h1 hc], hk⟩
  · exact h.elim

def extractV (i : Nat) (x : Value) (k : Value → Prop) : Prop :=
  match x with
  | .tuple vs => (match vs[i]? with | some v => k v | none => False)
  | _ => False

theorem extractV_sound {i : Nat} {x : Value} {k : Value → Prop} (h : extractV i x k) : ∃ v, (Instr.extract x i).run P w = .ok v w ∧ k v := by
  unfold extractV at h
  split at h
  · split at h
    · rename_i hv
      exact ⟨_, by simp [Instr.extract, hv], h⟩
    · exact h.elim
  · exact h.elim

/-! ### len, slicing -/

def lenV (x : Value) (H : Heap) (k : Value → Prop) : Prop :=
  match x with
  | .slice _ n _ => k (.int .i64 (n : Int))
  | .string s => k (.int .i64 (s.size : Int))
  | .map none => k (.int .i64 0)
  | .map (some r) => (match H[r]? with | some (.map es _) => k (.int .i64 (es.size : Int)) | _ => False)
  | _ => False

def lenSl (x : Value) (H : Heap) (k : Value → Prop) : Prop := match x with | .slice .. => lenV x H k | _ => False
def lenStr (x : Value) (H : Heap) (k : Value → Prop) : Prop := match x with | .string _ => lenV x H k | _ => False
def lenMap (x : Value) (H : Heap) (k : Value → Prop) : Prop := match x with | .map _ => lenV x H k | _ => False
/-- A pointer, or a function, that is some. -/
def nilV (x : Value) (k : Value → Prop) : Prop := match x with | .pointer (some p) => k (.pointer (some p)) | .func (.func f) a b => k (.func (.func f) a b) | _ => False
theorem nilV_det {x : Value} {k : Value → Prop} (h : nilV x k) : k x ∧ ((∃ p, x = .pointer (some p)) ∨ ∃ f a b, x = .func (.func f) a b) := by
  unfold nilV at h
  split at h
  · exact ⟨h, .inl ⟨_, rfl⟩⟩
  · exact ⟨h, .inr ⟨_, _, _, rfl⟩⟩
  · exact h.elim
def capSl (x : Value) (k : Value → Prop) : Prop := match x with | .slice _ _ c => k (.int .i64 (c : Int)) | _ => False

/-- The types whose values have a length by 'lenV'. -/
def lenTy : TypeDesc → Value → Bool
  | .slice _, .slice .. => true
  | .string, .string _ => true
  | .map .., .map _ => true
  | _, _ => false

theorem lenV_sound {t ty : TypeId} {x : Value} {d : TypeDesc} {k : Value → Prop} (hu : P.underlying t = some d) (hd : lenTy d x = true) (hg : Agree H w) (h : lenV x H k) :
    ∃ v, (Builtin.len_ #[t] ty #[x]).run P w = .ok v w ∧ k v := by
  unfold lenV at h
  split at h
  · cases d <;> simp [lenTy] at hd
    exact ⟨_, by simp [Builtin.len_, run_underlying hu, goInt], h⟩
  · cases d <;> simp [lenTy] at hd
    exact ⟨_, by simp [Builtin.len_, run_underlying hu, goInt], h⟩
  · cases d <;> simp [lenTy] at hd
    exact ⟨_, by simp [Builtin.len_, run_underlying hu, goInt], h⟩
  · split at h
    · rename_i r es cl hb
      have hw := hg.obj hb (by intro e; cases e)
      cases d <;> simp [lenTy] at hd
      exact ⟨_, by simp [Builtin.len_, run_underlying hu, goInt, getObj, Sem.run, hw], h⟩
    · exact h.elim
  · exact h.elim

def optI (o : Option Value) (d : Int) (k : Int → Prop) : Prop := match o with | none => k d | some v => asI v k

def slAdd (a : Option Addr) (l m : Int) (n : Nat) : Option Addr :=
  if m = l then a else a.map fun x => ⟨x.block, x.off + l.toNat * n, none⟩

def slS (n : Nat) (s : Value) (lo hi mx : Option Value) (k : Value → Prop) : Prop :=
  match s with
  | .slice a len cap => optI lo 0 fun l => optI hi len fun h => optI mx cap fun m =>
      (0 ≤ l ∧ l ≤ h ∧ h ≤ m ∧ m ≤ (cap : Int) ∧ (∀ x, a = some x → x.spot = none)) ∧ k (.slice (slAdd a l m n) (h - l).toNat (m - l).toNat)
  | _ => False

/-- A piece of an array by its address. -/
def slA (len n : Nat) (p : Value) (lo hi mx : Option Value) (k : Value → Prop) : Prop :=
  match p with
  | .pointer (some ⟨b, o, none⟩) => optI lo 0 fun l => optI hi len fun h => optI mx len fun m =>
      (0 ≤ l ∧ l ≤ h ∧ h ≤ m ∧ m ≤ (len : Int)) ∧ k (.slice (slAdd (some ⟨b, o, none⟩) l m n) (h - l).toNat (m - l).toNat)
  | _ => False

def slStr (s : Value) (lo hi : Option Value) (k : Value → Prop) : Prop :=
  match s with
  | .string s => optI lo 0 fun l => optI hi s.size fun h => (0 ≤ l ∧ l ≤ h ∧ h ≤ (s.size : Int)) ∧ k (.string (s.extract l.toNat h.toNat))
  | _ => False

theorem optI_iff {o : Option Value} {d : Int} {k : Int → Prop} (h : optI o d k) : ∃ n, ((o = none ∧ n = d) ∨ ∃ kd, o = some (.int kd n)) ∧ k n := by
  unfold optI asI at h
  split at h
  · exact ⟨_, .inl ⟨rfl, rfl⟩, h⟩
  · split at h
    · exact ⟨_, .inr ⟨_, rfl⟩, h⟩
    · exact h.elim

theorem run_sliceBounds_ok {isSlice : Bool} {len cap : Nat} {lo hi mx : Option Value} {l h m : Int} (hlo : (lo = none ∧ l = 0) ∨ ∃ kd, lo = some (.int kd l))
    (hhi : (hi = none ∧ h = len) ∨ ∃ kd, hi = some (.int kd h)) (hmx : (mx = none ∧ m = cap) ∨ ∃ kd, mx = some (.int kd m) ∧ hi.isSome = true)
    (h0 : 0 ≤ l) (h1 : l ≤ h) (h2 : h ≤ m) (h3 : m ≤ (cap : Int)) :
    (Instr.sliceBounds isSlice len cap lo hi mx).run P w = .ok (l.toNat, h.toNat, m.toNat) w := by
  have hl : ∀ (y : Nat) code, l ≤ (y : Int) → ∀ kd, (Instr.sliceBound (.int kd l) y code).run P w = .ok l.toNat w := fun y code hy kd => by
    simp [Instr.sliceBound, asIntOf, h0, hy]
  have hh : ∀ (y : Nat) code, h ≤ (y : Int) → ∀ kd, (Instr.sliceBound (.int kd h) y code).run P w = .ok h.toNat w := fun y code hy kd => by
    have : 0 ≤ h := by omega
    simp [Instr.sliceBound, asIntOf, this, hy]
  have hm : ∀ (y : Nat) code, m ≤ (y : Int) → ∀ kd, (Instr.sliceBound (.int kd m) y code).run P w = .ok m.toNat w := fun y code hy kd => by
    have : 0 ≤ m := by omega
    simp [Instr.sliceBound, asIntOf, this, hy]
  rcases hmx with ⟨rfl, rfl⟩ | ⟨kd, rfl, hs⟩
  · rcases hhi with ⟨rfl, rfl⟩ | ⟨kd2, rfl⟩
    · rcases hlo with ⟨rfl, rfl⟩ | ⟨kd3, rfl⟩
      · simp [Instr.sliceBounds]
      · simp [Instr.sliceBounds, hl _ _ h1]
    · rcases hlo with ⟨rfl, rfl⟩ | ⟨kd3, rfl⟩
      · simp [Instr.sliceBounds, hh _ _ h2]
      · simp [Instr.sliceBounds, hh _ _ h2, hl h.toNat _ (by omega)]
  · rcases hhi with ⟨rfl, rfl⟩ | ⟨kd2, rfl⟩
    · cases hs
    · rcases hlo with ⟨rfl, rfl⟩ | ⟨kd3, rfl⟩
      · simp [Instr.sliceBounds, hm _ _ h3, hh m.toNat _ (by omega)]
      · simp [Instr.sliceBounds, hm _ _ h3, hh m.toNat _ (by omega), hl h.toNat _ (by omega)]

theorem toNat_eq_iff {m l : Int} (hl : 0 ≤ l) (h : l ≤ m) : (m.toNat = l.toNat) = (m = l) := by
  apply propext; constructor <;> intro h <;> omega

theorem slS_sound {t e : TypeId} {n : Nat} {s : Value} {lo hi mx : Option Value} {k : Value → Prop} (hu : P.underlying t = some (.slice e)) (hs : szOf P e = some n)
    (hmx : mx.isSome = true → hi.isSome = true) (h : slS n s lo hi mx k) : ∃ v, (Instr.sliceAt t s lo hi mx).run P w = .ok v w ∧ k v := by
  unfold slS at h
  split at h
  · rename_i a len cap
    have key : ∀ l h m : Int, ((lo = none ∧ l = 0) ∨ ∃ kd, lo = some (.int kd l)) → ((hi = none ∧ h = len) ∨ ∃ kd, hi = some (.int kd h)) →
        ((mx = none ∧ m = cap) ∨ ∃ kd, mx = some (.int kd m) ∧ hi.isSome = true) → (0 ≤ l ∧ l ≤ h ∧ h ≤ m ∧ m ≤ (cap : Int) ∧ (∀ x, a = some x → x.spot = none)) →
        (Instr.sliceAt t (.slice a len cap) lo hi mx).run P w = .ok (.slice (slAdd a l m n) (h - l).toNat (m - l).toNat) w := by
      intro l h m hlo hhi hmx' ⟨h0, h1, h2, h3, hsp⟩
      have hb := run_sliceBounds_ok (P := P) (w := w) (isSlice := true) hlo hhi hmx' h0 h1 h2 h3
      have e1 : h.toNat - l.toNat = (h - l).toNat := by omega
      have e2 : m.toNat - l.toNat = (m - l).toNat := by omega
      have e3 : (if m.toNat = l.toNat then a else a.map (·.add (l.toNat * n))) = slAdd a l m n := by
        unfold slAdd
        simp only [toNat_eq_iff h0 (show l ≤ m by omega)]
        split
        · rfl
        · cases a with
          | none => rfl
          | some x =>
            have := hsp x rfl
            obtain ⟨b, o, sp⟩ := x
            simp only at this
            subst this
            simp [add_none]
      simp [Instr.sliceAt, run_underlying hu, Instr.slice, hb, run_sizeOf' hs, e1, e2, e3]
    obtain ⟨l, hl, h⟩ := optI_iff h
    obtain ⟨hh, hhh, h⟩ := optI_iff h
    obtain ⟨m, hm, h⟩ := optI_iff h
    exact ⟨_, key l hh m hl hhh (hm.imp id fun ⟨kd, e⟩ => ⟨kd, e, hmx (by rw [e]; rfl)⟩) h.1, h.2⟩
  · exact h.elim

theorem slA_sound {t e : TypeId} {len n : Nat} {p : Value} {lo hi mx : Option Value} {k : Value → Prop} (hu : P.underlying t = some (.array len e)) (hs : szOf P e = some n)
    (hmx : mx.isSome = true → hi.isSome = true) (h : slA len n p lo hi mx k) : ∃ v, (Instr.sliceAt t p lo hi mx).run P w = .ok v w ∧ k v := by
  unfold slA at h
  split at h
  · rename_i b o
    obtain ⟨l, hl, h⟩ := optI_iff h
    obtain ⟨hh, hhh, h⟩ := optI_iff h
    obtain ⟨m, hm, h⟩ := optI_iff h
    obtain ⟨⟨h0, h1, h2, h3⟩, hk⟩ := h
    have hb := run_sliceBounds_ok (P := P) (w := w) (isSlice := false) hl hhh (hm.imp id fun ⟨kd, e⟩ => ⟨kd, e, hmx (by rw [e]; rfl)⟩) h0 h1 h2 h3
    have e1 : hh.toNat - l.toNat = (hh - l).toNat := by omega
    have e2 : m.toNat - l.toNat = (m - l).toNat := by omega
    have e3 : (some (if m.toNat = l.toNat then (⟨b, o, none⟩ : Addr) else (⟨b, o, none⟩ : Addr).add (l.toNat * n))) = slAdd (some ⟨b, o, none⟩) l m n := by
      unfold slAdd
      simp only [toNat_eq_iff h0 (show l ≤ m by omega)]
      split
      · rfl
      · simp [add_none]
    exact ⟨_, by simp [Instr.sliceAt, run_underlying hu, Instr.sureAddr, hb, run_sizeOf' hs, e1, e2, e3], hk⟩
  · exact h.elim

theorem slStr_sound {t : TypeId} {s : Value} {lo hi : Option Value} {k : Value → Prop} (hu : P.underlying t = some .string) (h : slStr s lo hi k) :
    ∃ v, (Instr.sliceAt t s lo hi none).run P w = .ok v w ∧ k v := by
  unfold slStr at h
  split at h
  · rename_i s
    obtain ⟨l, hl, h⟩ := optI_iff h
    obtain ⟨hh, hhh, h⟩ := optI_iff h
    obtain ⟨⟨h0, h1, h2⟩, hk⟩ := h
    have hb := run_sliceBounds_ok (P := P) (w := w) (isSlice := false) (mx := none) (m := s.size) hl hhh (.inl ⟨rfl, rfl⟩) h0 h1 h2 (Int.le_refl _)
    exact ⟨_, by simp [Instr.sliceAt, run_underlying hu, Instr.slice, hb], hk⟩
  · exact h.elim

end

end Go.Ab
