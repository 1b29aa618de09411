/- From the reading of an argument to what its cells stand for. -/
import Derived.Test.YtlmpjhbfgakgdaaDoorAbNest
import Derived.Test.YtlmpjhbfgakgdaaDoorAbRow
import Derived.SizedLaws
import Derived.Deep.Slices
namespace Go.Ab
open Go.ChangeShapes Go.WideShapes Go.ChangeAt Go.RowKit
set_option linter.unusedVariables false
set_option linter.unusedSimpArgs false

section
variable {H : Type} {enc : TypeId × Value → H} {P : Program} {W : World} {α β : Type}

/-- What is read at a type stands for data, with something that is known of it. -/
def Opens (enc : TypeId × Value → H) (P : Program) (W : World) (t : TypeId) (R : Rep α) (K : α → Prop) : Prop :=
  ∀ (fuel : Nat) (cs : List Value) (x : DataW H × List MemPlace), DataW.trod enc P W 0 (fun _ => true) true fuel t cs = some x → (∀ n ∈ x.1.weights P t, n ≤ reachBytes) →
    ∃ d, R.rel W.heap (fun y => y < W.heap.size) cs d ∧ K d

theorem wf_wrap {q : IntKind} {n : Int} (h : (Lit.int q n).wf = true) : q.wrap n = n := by
  simp only [Lit.wf, Bool.and_eq_true, decide_eq_true_eq] at h
  cases q <;> simp [IntKind.wrap, IntKind.bits, IntKind.signed, IntKind.min, IntKind.max] at h ⊢ <;> omega

theorem opens_int {t : TypeId} {q : IntKind} (ht : P.underlying t = some (.int q)) : Opens enc P W t (rI q) (fun _ => True) := by
  intro fuel cs x h _
  cases fuel with
  | zero => cases h
  | succ fuel =>
    unfold DataW.trod at h
    rw [ht] at h
    split at h <;> simp_all
    obtain ⟨⟨rfl, hw⟩, _⟩ := h
    exact ⟨_, ⟨rfl, wf_wrap (by simpa using hw)⟩⟩

theorem opens_u8 {t : TypeId} (ht : P.underlying t = some (.int .u8)) : Opens enc P W t rU8 (fun _ => True) := by
  intro fuel cs x h hw
  obtain ⟨n, ⟨rfl, hn⟩, _⟩ := opens_int ht fuel cs x h hw
  have := u8_wrap hn
  refine ⟨UInt8.ofNat n.toNat, ⟨?_, trivial⟩, trivial⟩
  simp only [UInt8.toNat_ofNat']
  congr 2
  omega

theorem opens_bool {t : TypeId} (ht : P.underlying t = some .bool) : Opens enc P W t rB (fun _ => True) := by
  intro fuel cs x h _
  cases fuel with
  | zero => cases h
  | succ fuel =>
    unfold DataW.trod at h
    rw [ht] at h
    split at h
    · exact ⟨_, ⟨rfl, trivial⟩, trivial⟩
    all_goals simp_all

theorem mem_weightsAll {e : TypeId} : ∀ {ds : List (DataW H)} {i : Nat} {d : DataW H}, ds[i]? = some d → ∀ n ∈ d.weights P e, n ∈ DataW.weightsAll P e ds
  | d0 :: ds, 0, d, hd, n, hn => by
    simp only [List.getElem?_cons_zero, Option.some.injEq] at hd
    subst hd
    simp only [DataW.weightsAll, List.mem_append]; exact .inl hn
  | d0 :: ds, i + 1, d, hd, n, hn => by
    simp only [List.getElem?_cons_succ] at hd
    simp only [DataW.weightsAll, List.mem_append]; exact .inr (mem_weightsAll hd n hn)

theorem mapM_get {f : Nat → Option Value} : ∀ {l : List Nat} {cs : List Value}, l.mapM f = some cs → cs.length = l.length ∧ ∀ (i j : Nat), l[i]? = some j → f j = cs[i]?
  | [], cs, h => by simp at h; subst h; simp
  | a :: l, cs, h => by
    simp only [List.mapM_cons, Option.bind_eq_bind, Option.pure_def] at h
    cases ha : f a with
    | none => rw [ha] at h; cases h
    | some v =>
      rw [ha] at h
      simp only [Option.bind_some] at h
      cases hl : l.mapM f with
      | none => rw [hl] at h; cases h
      | some vs =>
        rw [hl] at h
        simp only [Option.bind_some, Option.some.injEq] at h
        subst h
        obtain ⟨h1, h2⟩ := mapM_get hl
        refine ⟨by simp [h1], fun i j hi => ?_⟩
        cases i with
        | zero => simp at hi; subst hi; simp [ha]
        | succ i => simpa using h2 i j (by simpa using hi)

theorem cells_get {a : Addr} {n : Nat} {cs : List Value} (h : W.cells? 0 a n = some cs) : cs.length = n ∧ ∀ i, i < n → W.cell? (a.add i) = cs[i]? := by
  unfold World.cells? at h
  rw [if_pos (Nat.zero_le _)] at h
  obtain ⟨h1, h2⟩ := mapM_get h
  exact ⟨by simpa using h1, fun i hi => h2 i i (by simp [hi])⟩

theorem cell_spot {a : Addr} {v : Value} (h : W.cell? a = some v) : a.spot = none := by
  unfold World.cell? at h
  cases hs : a.spot with
  | none => rfl
  | some s => exfalso; split at h <;> simp_all

theorem add_zero' (a : Addr) : a.add 0 = a := by unfold Addr.add; rw [if_pos rfl]

theorem opens_slice {t e : TypeId} {R : Rep α} {K : α → Prop} (ht : P.underlying t = some (.slice e)) (hc : P.cellsOf e = R.n) (hn : 0 < R.n) (he : Opens enc P W e R K) :
    Opens enc P W t (rSl R) (fun xs => xs.length * P.bytesOf e ≤ reachBytes ∧ ∀ x ∈ xs, K x) := by
  intro fuel cs x h hw
  rcases DataW.trod_slice ht h with ⟨rfl, rfl⟩ | ⟨a, len, cap, elems, rest, n, _, rfl, rfl, hb, hl, hm, hlen, hel, hsp, hns⟩
  · exact ⟨[], ⟨_, rfl, Sl.nil _ _ _ _ _⟩, by simp, by simp⟩
  · -- each element
    have hwl : (elems.length + rest.length) * P.bytesOf e ≤ reachBytes := hw _ (by simp [DataW.weights, ht])
    have hwe : ∀ (i : Nat) d, (elems.map (·.1))[i]? = some d → ∀ n ∈ d.weights P e, n ≤ reachBytes := fun i d hd n hn => hw n (by
      simp only [DataW.weights, ht, List.mem_cons, List.mem_append]
      exact .inr (.inl (mem_weightsAll hd n hn)))
    have each : ∀ i, i < len → ∃ cs d, W.cells? 0 (a.add (i * P.cellsOf e)) (P.cellsOf e) = some cs ∧ R.rel W.heap (fun y => y < W.heap.size) cs d ∧ K d := by
      intro i hi
      have h1 := hel i hi
      have hi' : i < elems.length := by omega
      rw [List.getElem?_eq_getElem hi'] at h1
      obtain ⟨cs, hcs, htr⟩ := Option.bind_eq_some_iff.1 h1
      obtain ⟨d, hr, hk⟩ := he n cs _ htr fun m hm => hwe i elems[i].1 (by simp [hi']) m hm
      exact ⟨cs, d, hcs, hr, hk⟩
    -- chosen at once
    have key : ∀ m, m ≤ len → ∃ (css : List (List Value)) (ds : List α), css.length = m ∧ ds.length = m ∧ (∀ (i : Nat) cs, css[i]? = some cs → W.cells? 0 (a.add (i * P.cellsOf e)) (P.cellsOf e) = some cs) ∧
        (∀ (i : Nat) cs d, css[i]? = some cs → ds[i]? = some d → R.rel W.heap (fun y => y < W.heap.size) cs d) ∧ ∀ d ∈ ds, K d := by
      intro m
      induction m with
      | zero => exact fun _ => ⟨[], [], rfl, rfl, by simp, by simp, by simp⟩
      | succ m ih =>
        intro hm
        obtain ⟨css, ds, h1, h2, h3, h4, h5⟩ := ih (by omega)
        obtain ⟨cs, d, g1, g2, g3⟩ := each m (by omega)
        refine ⟨css ++ [cs], ds ++ [d], by simp [h1], by simp [h2], fun i c hc => ?_, fun i c y hc hy => ?_, fun y hy => ?_⟩
        · rcases Nat.lt_trichotomy i m with hi | hi | hi
          · rw [List.getElem?_append_left (by omega)] at hc; exact h3 i c hc
          · subst hi
            rw [List.getElem?_append_right (by omega), h1, Nat.sub_self] at hc
            simp at hc; subst hc; exact g1
          · rw [List.getElem?_eq_none (by simp; omega)] at hc; cases hc
        · rcases Nat.lt_trichotomy i m with hi | hi | hi
          · rw [List.getElem?_append_left (by omega)] at hc hy; exact h4 i c y hc hy
          · subst hi
            rw [List.getElem?_append_right (by omega), h1, Nat.sub_self] at hc
            rw [List.getElem?_append_right (by omega), h2, Nat.sub_self] at hy
            simp at hc hy; subst hc; subst hy; exact g2
          · rw [List.getElem?_eq_none (by simp; omega)] at hc; cases hc
        · rcases List.mem_append.1 hy with hy | hy
          · exact h5 y hy
          · simp at hy; subst hy; exact g3
    obtain ⟨css, ds, h1, h2, h3, h4, h5⟩ := key len (Nat.le_refl _)
    refine ⟨ds, ⟨_, rfl, some a, cap - len, css, by rw [h2, Nat.add_sub_cancel' hl], by rw [h1, h2], h4, ?_⟩, Nat.le_trans (Nat.mul_le_mul_right _ (by omega)) hwl, h5⟩
    by_cases h0 : len = 0
    · left; exact List.length_eq_zero_iff.1 (by omega)
    · right
      -- the block
      have c0 : css[0]? = some (css[0]'(by omega)) := List.getElem?_eq_getElem _
      have e0 := cells_get (h3 0 _ c0)
      have v0 := e0.2 0 (by rw [hc]; exact hn)
      have v0 : ∃ v, W.cell? a = some v := by
        rw [Nat.zero_mul, add_zero', add_zero', List.getElem?_eq_getElem (by rw [e0.1, hc]; exact hn)] at v0
        exact ⟨_, v0⟩
      obtain ⟨v, v0⟩ := v0
      have hsp := cell_spot v0
      obtain ⟨b, o, sp⟩ := a
      simp only at hsp
      subst hsp
      simp only [add_none] at h3 v0 e0
      have hbk : ∃ c t fr, W.heap[b]? = some (.cells c t fr) := by
        unfold World.cell? at v0
        split at v0
        · rename_i c t fr hb; exact ⟨c, t, fr, hb⟩
        · cases v0
      obtain ⟨c, t', fr, hbk⟩ := hbk
      have hall : ∀ j, j < len * R.n → c[o + j]? = css.flatten[j]? ∧ o + j < c.size := by
        intro j hj
        have hi : j / R.n < len := (Nat.div_lt_iff_lt_mul hn).2 hj
        have ci : css[j / R.n]? = some (css[j / R.n]'(by omega)) := List.getElem?_eq_getElem _
        obtain ⟨l1, l2⟩ := cells_get (h3 _ _ ci)
        have hm := Nat.mod_lt j hn
        have l3 := l2 (j % R.n) (by rw [hc]; exact hm)
        rw [add_none] at l3
        have hseg := flatten_seg (n := R.n) (i := j / R.n) (fun cs hcs => by
          obtain ⟨i, hi⟩ := List.mem_iff_getElem?.1 hcs
          have := (cells_get (h3 i cs hi)).1
          rw [this, hc]) ci
        have l4 := seg_get (cs := css.flatten) (o := j / R.n * R.n) (n := R.n) (j := j % R.n) hm
        rw [hseg, show j / R.n * R.n + j % R.n = j from by rw [Nat.mul_comm]; exact Nat.div_add_mod j R.n] at l4
        rw [← l4]
        have l5 : o + j / R.n * P.cellsOf e + j % R.n = o + j := by
          rw [hc, Nat.add_assoc]; congr 1; rw [Nat.mul_comm]; exact Nat.div_add_mod j R.n
        rw [l5] at l3
        unfold World.cell? at l3
        rw [hbk] at l3
        simp only at l3
        have l6 : c[o + j]? = (css[j / R.n]'(by omega))[j % R.n]? := by simpa using l3
        refine ⟨l6, ?_⟩
        rw [List.getElem?_eq_getElem (show j % R.n < (css[j / R.n]'(by omega)).length by rw [l1, hc]; exact hm)] at l6
        exact (Array.getElem?_eq_some_iff.1 l6).1
      have hfl := flatten_len (css := css) (n := R.n) fun cs hcs => by
        obtain ⟨i, hi⟩ := List.mem_iff_getElem?.1 hcs
        have := (cells_get (h3 i cs hi)).1
        rw [this, hc]
      rw [h1] at hfl
      have hpos : 0 < len * R.n := Nat.mul_pos (by omega) hn
      refine ⟨b, o, rfl, (Array.getElem?_eq_some_iff.1 hbk).1, ?_⟩
      unfold cellsAt
      rw [hbk]
      simp only
      rw [h2, if_pos (by have := (hall (len * R.n - 1) (by omega)).2; omega)]
      congr 1
      apply List.ext_getElem?
      intro j
      by_cases hj : j < len * R.n
      · rw [seg_get hj, Array.getElem?_toList]; exact (hall j hj).1
      · rw [List.getElem?_eq_none (by simp only [seg, List.length_take]; omega), List.getElem?_eq_none (by omega)]

/-! ### Structs -/

def rUnit : Rep Unit where
  n := 0
  rel := fun _ _ cs _ => cs = []
  len := by rintro _ _ _ _ rfl; rfl
  okc := by rintro _ _ _ _ rfl; rfl
  fr := fun h _ => h

/-- Fields from a place on. -/
def OpensF (enc : TypeId × Value → H) (P : Program) (W : World) (fs : List Field) (off : Nat) (R : Rep α) (K : α → Prop) : Prop :=
  ∀ (n : Nat) (cs : List Value) (xs : List (DataW H × List MemPlace)), xs.length = fs.length → off + R.n ≤ cs.length →
    (∀ (i : Nat) f, fs[i]? = some f → DataW.trod enc P W 0 (fun _ => true) true n f.type ((cs.drop f.offset).take (P.cellsOf f.type)) = xs[i]?) →
    (∀ m ∈ DataW.weightsEach P (fs.map (·.type)) (xs.map (·.1)), m ≤ reachBytes) → ∃ d, R.rel W.heap (fun y => y < W.heap.size) (seg cs off R.n) d ∧ K d

theorem opensF_nil (off : Nat) : OpensF enc P W [] off rUnit (fun _ => True) := fun n cs xs _ _ _ _ => ⟨(), by simp [rUnit, seg], trivial⟩

theorem opensF_cons {f : Field} {fs : List Field} {off : Nat} {R : Rep α} {S : Rep β} {K : α → Prop} {L : β → Prop} (ho : f.offset = off) (hc : P.cellsOf f.type = R.n) (h1 : Opens enc P W f.type R K) (h2 : OpensF enc P W fs (off + R.n) S L) :
    OpensF enc P W (f :: fs) off (rP R S) (fun x => K x.1 ∧ L x.2) := by
  intro n cs xs hl hle hx hw
  cases xs with
  | nil => simp at hl
  | cons x xs =>
    have hle' : off + (R.n + S.n) ≤ cs.length := hle
    have e1 := hx 0 f rfl
    simp only [List.getElem?_cons_zero, ho, hc] at e1
    obtain ⟨d, hr, hk⟩ := h1 n _ _ e1 fun m hm => hw m (by simp only [List.map_cons, DataW.weightsEach, List.mem_append]; exact .inl hm)
    obtain ⟨d2, hr2, hk2⟩ := h2 n cs xs (by simpa using hl) (by omega) (fun i g hg => by have := hx (i + 1) g (by simpa using hg); simpa using this) fun m hm => hw m (by
      simp only [List.map_cons, DataW.weightsEach, List.mem_append]; exact .inr hm)
    refine ⟨(d, d2), ⟨_, _, ?_, hr, hr2⟩, hk, hk2⟩
    show seg cs off (R.n + S.n) = (cs.drop off).take R.n ++ seg cs (off + R.n) S.n
    simp only [seg]
    rw [List.take_add, List.drop_drop]

theorem opens_struct {t : TypeId} {fs : Array Field} {R : Rep α} {K : α → Prop} (ht : P.underlying t = some (.struct fs)) (hc : P.cellsOf t = R.n) (hf : OpensF enc P W fs.toList 0 R K) : Opens enc P W t R K := by
  intro fuel cs x h hw
  obtain ⟨xs, n, _, rfl, hl, hlen, hx⟩ := DataW.trod_struct ht h
  obtain ⟨d, hr, hk⟩ := hf n cs xs (by simpa using hlen) (by omega) (fun i f hi => by
    have := hx i f (by simpa using hi); exact this) fun m hm => hw m (by simp only [DataW.weights, ht]; exact hm)
  refine ⟨d, ?_, hk⟩
  have : seg cs 0 R.n = cs := by simp [seg, ← hc, ← hl]
  rw [this] at hr; exact hr

theorem Opens.by {t : TypeId} {R : Rep α} {K : α → Prop} {S : Rep β} {L : β → Prop} (h : Opens enc P W t R K) (hs : ∀ cs x, R.rel W.heap (fun y => y < W.heap.size) cs x → K x → ∃ y, S.rel W.heap (fun y => y < W.heap.size) cs y ∧ L y) : Opens enc P W t S L := by
  intro fuel cs x hx hw
  obtain ⟨d, hr, hk⟩ := h fuel cs x hx hw
  exact hs cs d hr hk

/-- An argument. -/
theorem Opens.arg {t : TypeId} {R : Rep α} {K : α → Prop} (h : Opens enc P W t R K) {v : Value} {d : DataW H} {ps : List MemPlace} (ht : DataW.Trod enc P W 0 (fun _ => true) true t v d ps) (hw : ∀ n ∈ d.weights P t, n ≤ reachBytes) :
    ∃ x, R.rel W.heap (fun y => y < W.heap.size) v.cells.toList x ∧ K x := by
  obtain ⟨fuel, hf⟩ := ht
  exact h fuel _ _ hf hw

end
end Go.Ab
