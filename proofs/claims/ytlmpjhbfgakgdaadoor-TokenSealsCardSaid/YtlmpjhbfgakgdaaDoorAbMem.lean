/- Operations that make or write memory, as predicate transformers over the heap that is seen. -/
import Derived.Test.YtlmpjhbfgakgdaaDoorAbOps
import Derived.Laws.MakeOwn
namespace Go.Ab
set_option linter.unusedVariables false
set_option linter.unusedSimpArgs false

def zeroL (P : Program) (t : TypeId) : List Value := match (P.info? t).bind (·.zero) with | some v => v.cells.toList | none => []
def hasZero (P : Program) (t : TypeId) : Bool := ((P.info? t).bind (·.zero)).isSome

/-- A new block. -/
def newC (e : TypeId) (cs : List Value) (H : Heap) (k : Nat → Heap → Prop) : Prop := k H.size (H.push (.cells cs.toArray e (0, 0)))

/-- A new block of the function's own. -/
def newT (H : Heap) (k : Heap → Prop) : Prop := k (H.push tomb)

section
variable {P : Program} {w : World} {H : Heap}

theorem zero_of {t : TypeId} (h : hasZero P t = true) : ∃ i z, P.info? t = some i ∧ i.zero = some z ∧ z.cells.toList = zeroL P t := by
  unfold hasZero at h
  cases hi : P.info? t with
  | none => simp [hi] at h
  | some i =>
    simp [hi] at h
    cases hz : i.zero with
    | none => simp [hz] at h
    | some z => exact ⟨i, z, rfl, hz, by simp [zeroL, hi, hz]⟩

theorem run_zeroValue {t : TypeId} {i : TypeInfo} {z : Value} (hi : P.info? t = some i) (hz : i.zero = some z) : (zeroValue t).run P w = .ok z w := by
  simp [zeroValue, typeInfo, hi, hz]

theorem newC_alloc {t : TypeId} (hz : hasZero P t = true) : ∃ p, (Instr.alloc t true (.tuple #[])).run P w = .ok p (w.alloc (.cells (zeroL P t).toArray t (0, 0))) ∧ p = .pointer (some ⟨w.heap.size, 0, none⟩) := by
  obtain ⟨i, z, hi, hzz, hl⟩ := zero_of hz
  refine ⟨_, ?_, rfl⟩
  have : z.cells = (zeroL P t).toArray := by rw [← hl]
  simp [Instr.alloc, run_zeroValue hi hzz, newVar, newRow, this]

theorem run_box {t : TypeId} {v : Value} : (Instr.box t v).run P w = .ok (.pointer (some ⟨w.heap.size, 0, none⟩)) (w.alloc (.cells v.cells t (0, 0))) := by
  simp [Instr.box, newVar, newRow]

theorem newC_sound {e : TypeId} {cs : List Value} {k : Nat → Heap → Prop} (hg : Agree H w) (h : newC e cs H k) :
    ∃ H', Turns H w H' (w.alloc (.cells cs.toArray e (0, 0))) ∧ k w.heap.size H' :=
  ⟨_, .push hg _, by unfold newC at h; rw [hg.size]; exact h⟩

/-! ### Building values -/

theorem fold_setSeg : ∀ (vs : List Value) (off i : Nat) (cells : Array Value), off + i + vs.length ≤ cells.size →
    ((vs.zipIdx i).foldl (fun cs (x : Value × Nat) => cs.setIfInBounds (off + x.2) x.1) cells).toList = setSeg cells.toList (off + i) vs
  | [], off, i, cells, h => by simp [setSeg]
  | v :: vs, off, i, cells, h => by
    simp only [List.zipIdx_cons, List.foldl_cons]
    rw [fold_setSeg vs off (i + 1) _ (by simp at h ⊢; omega)]
    simp only [setSeg, Array.toList_setIfInBounds]
    have := list_seg_step cells.toList (off + i) v vs (by simp at h ⊢; omega)
    rw [show off + (i + 1) = off + i + 1 from by omega]
    simpa [Nat.add_assoc] using this

/-- The cells of something built of parts: each part at its place. -/
abbrev fillV (place : Nat → Option (Nat × Nat × Bool)) (cells : List Value) : List (Nat × Value) → (List Value → Prop) → Prop
  | [], k => k cells
  | (i, v) :: rest, k =>
    match place i with
    | none => False
    | some (off, size, agg) => cellsV agg size v fun vs => ifB (decide (off + size ≤ cells.length)) (fillV place (setSeg cells off vs) rest k) False

theorem fill_sound {place : Nat → Option (Nat × Nat × Bool)} {pl : Nat → Option (Nat × Nat)} (hp : ∀ i o n a, place i = some (o, n, a) → pl i = some (o, n) ∧ (a = false → n = 1)) :
    ∀ (l : List (Nat × Value)) (cells : Array Value) {k : List Value → Prop}, fillV place cells.toList l k → ∃ c, Instr.fill pl cells l = some c ∧ k c.toList
  | [], cells, k, h => ⟨cells, rfl, h⟩
  | (i, v) :: rest, cells, k, h => by
    unfold fillV at h
    split at h
    · exact h.elim
    · rename_i off size agg hpl
      obtain ⟨h1, h2⟩ := hp _ _ _ _ hpl
      obtain ⟨hn, _, h⟩ := cellsV_iff h h2
      unfold ifB at h
      split at h
      · rename_i hd
        have hd := of_decide_eq_true hd
        simp only [Array.length_toList] at hd
        have e : (v.cells.zipIdx.foldl (fun cs (x : Value × Nat) => cs.setIfInBounds (off + x.2) x.1) cells) = (setSeg cells.toList off v.cells.toList).toArray := by
          apply Array.ext'
          rw [← Array.foldl_toList]
          have := fold_setSeg v.cells.toList off 0 cells (by simp [hn]; omega)
          simpa [Array.toList_zipIdx] using this
        obtain ⟨c, hc, hk⟩ := fill_sound hp rest (setSeg cells.toList off v.cells.toList).toArray h
        refine ⟨c, ?_, hk⟩
        have g1 : (decide (v.cells.size ≠ size) || decide (off + v.cells.size > cells.size)) = false := by simp [hn]; omega
        simp only [Instr.fill, h1]
        rw [if_neg (by simp [hn]; omega), e]
        exact hc
      · exact h.elim

/-- The places of a type's parts: a struct's fields, an array's elements. -/
def placeOf (P : Program) (t : TypeId) (i : Nat) : Option (Nat × Nat × Bool) :=
  match P.underlying t with
  | some (.struct fs) => (match fs[i]? with
    | some f => (match szOf P f.type, aggOf P f.type with | some n, some a => if a = false ∧ n ≠ 1 then none else some (f.offset, n, a) | _, _ => none)
    | none => none)
  | some (.array _ e) => (match szOf P e, aggOf P e with | some n, some a => if a = false ∧ n ≠ 1 then none else some (i * n, n, a) | _, _ => none)
  | _ => none

/-- Can every field be placed? -/
def fieldsOk (P : Program) (t : TypeId) : Bool :=
  match P.underlying t with
  | some (.struct fs) => fs.all fun f => (szOf P f.type).isSome
  | some (.array _ e) => (szOf P e).isSome
  | _ => false

theorem run_mapM_fields : ∀ (fs : List Field), (∀ f ∈ fs, (szOf P f.type).isSome = true) →
    (fs.mapM (fun f => (do pure (f.offset, ← sizeOf f.type) : Sem (Nat × Nat)))).run P w = .ok (fs.map fun f => (f.offset, (szOf P f.type).getD 0)) w
  | [], _ => by simp
  | f :: fs, h => by
    obtain ⟨n, hn⟩ := Option.isSome_iff_exists.1 (h f (by simp))
    have ih := run_mapM_fields fs (fun g hg => h g (by simp [hg]))
    simp only [List.mapM_cons, Sem.run_bind, run_sizeOf' hn, Result.andThen_ok, Sem.run_pure, List.map_cons, hn, Option.getD_some]
    rw [ih]; rfl

abbrev buildV (P : Program) (t : TypeId) (parts : List (Nat × Value)) (k : Value → Prop) : Prop :=
  fillV (placeOf P t) (zeroL P t) parts fun cs => k (.agg cs.toArray)

theorem buildV_sound {t : TypeId} {parts : Array (Nat × Value)} {k : Value → Prop} (hz : hasZero P t = true) (hf : fieldsOk P t = true) (h : buildV P t parts.toList k) :
    ∃ v, (Instr.build t parts).run P w = .ok v w ∧ k v := by
  obtain ⟨i, z, hi, hzz, hl⟩ := zero_of hz
  unfold buildV at h
  rw [← hl] at h
  unfold fieldsOk at hf
  cases hu : P.underlying t with
  | none => simp [hu] at hf
  | some d =>
    cases d <;> simp [hu] at hf
    case struct fs =>
      have hm := run_mapM_fields (P := P) (w := w) fs.toList (fun f hf' => by
        obtain ⟨j, hj⟩ := List.getElem?_of_mem hf'
        obtain ⟨hlt, hj⟩ := List.getElem?_eq_some_iff.1 hj
        have := hf j (by simpa using hlt)
        simpa [← hj] using this)
      have hm' : (fs.mapM (fun f => (do pure (f.offset, ← sizeOf f.type) : Sem (Nat × Nat)))).run P w = .ok (fs.toList.map fun f => (f.offset, (szOf P f.type).getD 0)).toArray w := by
        rw [Array.mapM_eq_mapM_toList]
        simp only [Sem.run_map, hm, Result.andThen_ok]
      obtain ⟨c, hc, hk⟩ := fill_sound (pl := ((fs.toList.map fun f => (f.offset, (szOf P f.type).getD 0)).toArray[·]?)) (fun i o n a hp => by
        unfold placeOf at hp
        rw [hu] at hp
        simp only at hp
        split at hp
        · rename_i f hf'
          split at hp
          · rename_i m ag hs ha
            split at hp
            · cases hp
            · rename_i hcon
              cases hp
              refine ⟨?_, fun ha => ?_⟩
              · have : fs.toList[i]? = some f := by simpa using hf'
                simp [hf', hs]
              · exact Classical.byContradiction fun hne => hcon ⟨ha, hne⟩
          · cases hp
        · cases hp) parts.toList z.cells h
      refine ⟨.agg c, ?_, by simpa using hk⟩
      simp only [Instr.build, Sem.run_bind, run_zeroValue hi hzz, run_underlying hu, Result.andThen_ok]
      rw [hm']
      simp only [Result.andThen_ok, hc, Sem.run_pure]
    case array len e =>
      obtain ⟨n, hn⟩ := Option.isSome_iff_exists.1 hf
      obtain ⟨c, hc, hk⟩ := fill_sound (pl := fun i => some (i * n, n)) (fun i o m a hp => by
        unfold placeOf at hp
        rw [hu] at hp
        simp only [hn] at hp
        split at hp
        · rename_i ag hs ha
          split at hp
          · cases hp
          · rename_i hcon
            cases hp
            cases hs
            exact ⟨rfl, fun ha => Classical.byContradiction fun hne => hcon ⟨ha, hne⟩⟩
        · cases hp) parts.toList z.cells h
      refine ⟨.agg c, ?_, by simpa using hk⟩
      simp [Instr.build, run_zeroValue hi hzz, run_underlying hu, run_sizeOf' hn, hc]

/-! ### Slices made -/

/-- So many zero cells. -/
def zcells (z : List Value) (n : Nat) : List Value := (List.range n).map fun i => z.getD (i % z.length) default

theorem madeCells_eq (z : Array Value) (n : Nat) (hn : n = 0 ∨ 0 < z.size) : (Array.range n).map (z[· % z.size]!) = (zcells z.toList n).toArray := by
  apply Array.ext'
  simp only [zcells, Array.toList_map, Array.toList_range, Array.length_toList]
  apply List.map_congr_left
  intro i hi
  have hlt : i < n := by simpa using hi
  have : i % z.size < z.size := Nat.mod_lt _ (by omega)
  simp [this]

/-- 'make([]T, l, c)'. -/
def mkS (e : TypeId) (n bytes : Nat) (z : List Value) (lv cv : Value) (H : Heap) (k : Value → Heap → Prop) : Prop :=
  asI lv fun l => asI cv fun c => (0 ≤ l ∧ l ≤ c ∧ (bytes : Int) * c ≤ 281474976710656 ∧ c ≤ 9223372036854775807) ∧
    newC e (zcells z (c.toNat * n)) H fun b H' => k (.slice (some ⟨b, 0, none⟩) l.toNat c.toNat) H'

theorem asI_iff {v : Value} {k : Int → Prop} (h : asI v k) : ∃ kd n, v = .int kd n ∧ k n := by
  unfold asI at h; split at h
  · exact ⟨_, _, rfl, h⟩
  · exact h.elim

theorem asB_iff {v : Value} {k : Bool → Prop} (h : asB v k) : ∃ b, v = .bool b ∧ k b := by
  unfold asB at h; split at h
  · exact ⟨_, rfl, h⟩
  · exact h.elim

theorem mkS_sound {t e : TypeId} {i : TypeInfo} {z : Value} {lv cv : Value} {k : Value → Heap → Prop} (ht : P.underlying t = some (.slice e)) (hi : P.info? e = some i)
    (hz : i.zero = some z) (hsz : i.size = 0 ∨ 0 < z.cells.size) (hg : Agree H w) (h : mkS e i.size i.bytes z.cells.toList lv cv H k) :
    ∃ v H' w', (Instr.makeSlice t lv cv).run P w = .ok v w' ∧ Turns H w H' w' ∧ k v H' := by
  unfold mkS at h
  obtain ⟨kl, l, rfl, g⟩ := asI_iff h
  obtain ⟨kc, c, rfl, g'⟩ := asI_iff g
  obtain ⟨⟨h0, h1, h2, h3⟩, hk⟩ := g'
  have hr := run_make (P := P) w t e i z ht hi hz kl kc l c h0 h1 h2 h3
  have hm : madeCells z.cells (c.toNat * i.size) = (zcells z.cells.toList (c.toNat * i.size)).toArray := by
    unfold madeCells
    exact madeCells_eq z.cells _ (by rcases hsz with h | h; exact .inl (by simp [h]); exact .inr h)
  rw [hm] at hr
  obtain ⟨H', ht', hk'⟩ := newC_sound hg hk
  exact ⟨_, H', _, hr, ht', hk'⟩

/-- A slice written out. -/
def bldS (e : TypeId) (n : Nat) (agg : Bool) (z : List Value) (len : Nat) (parts : List (Nat × Value)) (H : Heap) (k : Value → Heap → Prop) : Prop :=
  fillV (fun i => some (i * n, n, agg)) (zcells z (len * n)) parts fun cs => newC e cs H fun b H' => k (.slice (some ⟨b, 0, none⟩) len len) H'

theorem bldS_sound {t e : TypeId} {i : TypeInfo} {z : Value} {agg : Bool} {len : Nat} {parts : Array (Nat × Value)} {k : Value → Heap → Prop} (ht : P.underlying t = some (.slice e))
    (hi : P.info? e = some i) (hz : i.zero = some z) (hsz : i.size = 0 ∨ 0 < z.cells.size) (h1 : agg = false → i.size = 1) (hlen : len * i.size ≤ 2 ^ 24) (hg : Agree H w)
    (h : bldS e i.size agg z.cells.toList len parts.toList H k) :
    ∃ v H' w', (Instr.buildSlice t len parts).run P w = .ok v w' ∧ Turns H w H' w' ∧ k v H' := by
  unfold bldS at h
  have hs : szOf P e = some i.size := by simp [szOf, hi]
  have hm := madeCells_eq z.cells (len * i.size) (by rcases hsz with h | h; exact .inl (by simp [h]); exact .inr h)
  obtain ⟨c, hc, hk⟩ := fill_sound (pl := fun j => some (j * i.size, i.size)) (fun j o m a hp => by cases hp; exact ⟨rfl, h1⟩) parts.toList (zcells z.cells.toList (len * i.size)).toArray h
  obtain ⟨H', ht', hk'⟩ := newC_sound hg hk
  refine ⟨_, H', _, ?_, ht', hk'⟩
  have hng : ¬ 2 ^ 24 < len * i.size := by omega
  have hng' : ¬ 16777216 < len * i.size := by omega
  by_cases hn : len * i.size = 0
  · have e0 : (zcells z.cells.toList (len * i.size)).toArray = #[] := by simp [zcells, hn]
    rw [e0] at hc
    rcases Nat.mul_eq_zero.1 hn with hl | hl
    · simp [Instr.buildSlice, run_underlying ht, run_sizeOf' hs, hl, newRow, hc, Array.range_zero']
    · simp only [hl, Nat.mul_zero] at hc
      simp [Instr.buildSlice, run_underlying ht, run_sizeOf' hs, hl, newRow, hc, Array.range_zero']
  · rw [← hm] at hc
    simp only [Instr.buildSlice, Sem.run_bind, run_underlying ht, Result.andThen_ok, run_sizeOf' hs]
    rw [if_neg hng]
    simp [hn, run_zeroValue hi hz, newRow, hc]

end
end Go.Ab
