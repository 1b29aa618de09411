/- What is written over: numbers are turned, their kinds and all slices stay. -/
import Derived.Test.YtlmpjhbfgakgdaaDoorAbTwin
namespace Go.Ab
set_option linter.unusedVariables false
set_option linter.unusedSimpArgs false
variable {α β σ τ : Type} {R : Rep α} {H H' H'' : Heap} {A B : Nat → Prop} {n : Nat}

def SameK (x y : Value) : Prop := x = y ∨ ∃ q a b, x = .int q a ∧ y = .int q b ∧ q.wrap b = b
theorem SameK.rfl {x : Value} : SameK x x := .inl (Eq.refl _)
theorem SameK.trans {x y z : Value} (h : SameK x y) (h' : SameK y z) : SameK x z := by
  rcases h' with rfl | ⟨q, a, b, rfl, rfl, hw⟩
  · exact h
  · rcases h with rfl | ⟨q', a', b', rfl, e, hw'⟩
    · exact .inr ⟨q, a, b, Eq.refl _, Eq.refl _, hw⟩
    · cases e
      exact .inr ⟨q, a', b, Eq.refl _, Eq.refl _, hw⟩

structure Kd (A : Nat → Prop) (H H' : Heap) : Prop where
  size : H'.size = H.size
  other : ∀ y, ¬ A y → H'[y]? = H[y]?
  here : ∀ y c e, A y → H[y]? = some (.cells c e (0, 0)) → ∃ c', H'[y]? = some (.cells c' e (0, 0)) ∧ c'.size = c.size ∧ ∀ (i : Nat) x, c[i]? = some x → ∃ x', c'[i]? = some x' ∧ SameK x x'
  rest : ∀ y, A y → (∀ c e, H[y]? ≠ some (.cells c e (0, 0))) → H'[y]? = H[y]?

/-- Its blocks may be written. -/
def Wbl (A : Nat → Prop) (H : Heap) : Prop := ∀ (y : Nat) (c : Array Value) (e : TypeId) (fr : Nat × Nat), A y → H[y]? = some (.cells c e fr) → fr = (0, 0)

theorem Kd.refl (A : Nat → Prop) (H : Heap) : Kd A H H := ⟨rfl, fun _ _ => rfl, fun y c e _ h => ⟨c, h, rfl, fun i x hx => ⟨x, hx, .rfl⟩⟩, fun _ _ _ => rfl⟩
theorem Kd.trans (h : Kd A H H') (h' : Kd A H' H'') : Kd A H H'' :=
  ⟨h'.size.trans h.size, fun y hy => (h'.other y hy).trans (h.other y hy), fun y c e hA hc => by
    obtain ⟨c1, k1, k2, k3⟩ := h.here y c e hA hc
    obtain ⟨c2, k4, k5, k6⟩ := h'.here y c1 e hA k1
    exact ⟨c2, k4, k5.trans k2, fun i x hx => by
      obtain ⟨x1, hx1, s1⟩ := k3 i x hx
      obtain ⟨x2, hx2, s2⟩ := k6 i x1 hx1
      exact ⟨x2, hx2, s1.trans s2⟩⟩, fun y hA hn => (h'.rest y hA (fun c e => by rw [h.rest y hA hn]; exact hn c e)).trans (h.rest y hA hn)⟩
theorem Kd.fr (h : Kd A H H') : Fr (fun y => ¬ A y) H H' := ⟨by rw [h.size]; exact Nat.le_refl _, fun y _ hy => h.other y hy⟩

theorem Wbl.fr (h : Wbl A H) (hf : Fr B H H') (hB : ∀ y, A y → y < H.size ∧ B y) : Wbl A H' := fun y c e fr hA hc => h y c e fr hA (by rw [← hf.same y (hB y hA).1 (hB y hA).2]; exact hc)
theorem Wbl.mono (h : Wbl A H) (hB : ∀ y, B y → A y) : Wbl B H := fun y c e fr hb hc => h y c e fr (hB y hb) hc

/-- Blocks that a call makes may be written. -/
theorem callV_new {P : Program} {fv : Value} {args : List Value} {Q : Value → Heap → Prop} (h : callV P fv args H fun v H' => Wbl (fun y => H.size ≤ y) H' → Q v H') : callV P fv args H Q := by
  have key : ∀ (w w' : World) (H' : Heap), Agree H w → Turns H w H' w' → Wbl (fun y => H.size ≤ y) H' := by
    intro w w' H' hw ht y c e fr hy hc
    have h1 := ht.kept.froz y
    rw [ht.agree.same y (by rw [hc]; intro h; cases h), hc] at h1
    rw [Array.getElem?_eq_none (by rw [hw.size]; exact hy)] at h1
    exact h1
  unfold callV at *
  split at h
  · exact ⟨h.1, fun w hw => (h.2 w hw).mono fun e w' ⟨v, H', he, ht, hv⟩ => ⟨v, H', he, ht, hv (key w w' H' hw ht)⟩⟩
  · intro w hw
    obtain ⟨fn, tmps, assign, body, h1, h2⟩ := h w hw
    exact ⟨fn, tmps, assign, body, h1, h2.mono fun e w' ⟨v, H', he, ht, hv⟩ => ⟨v, H', he, ht, hv (key w w' H' hw ht)⟩⟩
  · exact h.elim

theorem kd_cells {b o m : Nat} {cs : List Value} (h : cellsAt H b o m = some cs) (hA : A b) (hW : Wbl A H) (hk : Kd A H H') : ∃ cs', cellsAt H' b o m = some cs' ∧ All2 SameK cs cs' := by
  unfold cellsAt at h
  split at h
  · rename_i c e fr hb
    split at h
    · rename_i hn
      cases h
      obtain rfl := hW b c e fr hA hb
      obtain ⟨c', k1, k2, k3⟩ := hk.here b c e hA hb
      refine ⟨seg c'.toList o m, by unfold cellsAt; rw [k1]; simp only; rw [if_pos (by omega)], ?_, fun i x y hx hy => ?_⟩
      · rw [seg_length (by simp; omega), seg_length (by simp; omega)]
      · have him : i < m := by
          have := (List.getElem?_eq_some_iff.1 hx).1
          rwa [seg_length (by simp; omega)] at this
        rw [seg_get him] at hx hy
        rw [Array.getElem?_toList] at hx hy
        obtain ⟨x', h1, h2⟩ := k3 _ x hx
        rw [h1] at hy
        cases hy
        exact h2
    · cases h
  · cases h

/-- What stays of data whose numbers are turned. -/
def Loose (R : Rep α) (sh : α → σ) : Prop := ∀ {H H' : Heap} {A : Nat → Prop} {cs cs' : List Value} {x : α}, R.rel H A cs x → Wbl A H → Kd A H H' → All2 SameK cs cs' → ∃ x', R.rel H' A cs' x' ∧ sh x' = sh x

theorem loose_I (q : IntKind) : Loose (rI q) (fun _ => ()) := by
  intro H H' A cs cs' x ⟨hc, hw⟩ _ _ hs
  subst hc
  obtain ⟨hl, hs⟩ := hs
  match cs', hl with
  | [y], _ =>
    rcases hs 0 _ y rfl rfl with e | ⟨q', a, b, e1, e2, e3⟩
    · subst e; exact ⟨x, ⟨rfl, hw⟩, rfl⟩
    · cases e1
      subst e2
      exact ⟨b, ⟨rfl, e3⟩, rfl⟩
theorem loose_U8 : Loose rU8 (fun _ => ()) := by
  intro H H' A cs cs' x ⟨hc, _⟩ _ _ hs
  subst hc
  obtain ⟨hl, hs⟩ := hs
  match cs', hl with
  | [y], _ =>
    rcases hs 0 _ y rfl rfl with e | ⟨q', a, b, e1, e2, e3⟩
    · subst e; exact ⟨x, ⟨rfl, trivial⟩, rfl⟩
    · cases e1
      subst e2
      have := u8_wrap e3
      refine ⟨UInt8.ofNat b.toNat, ⟨?_, trivial⟩, rfl⟩
      have e : ((UInt8.ofNat b.toNat).toNat : Int) = b := by simp; omega
      simp only [e]

theorem lift_list {P : Nat → α → Prop} : ∀ m, (∀ i, i < m → ∃ x, P i x) → ∃ l : List α, l.length = m ∧ ∀ (i : Nat) x, l[i]? = some x → P i x
  | 0, _ => ⟨[], rfl, fun i x h => by simp at h⟩
  | m + 1, h => by
    obtain ⟨l, h1, h2⟩ := lift_list m fun i hi => h i (by omega)
    obtain ⟨x, hx⟩ := h m (by omega)
    refine ⟨l ++ [x], by simp [h1], fun i y hy => ?_⟩
    rw [List.getElem?_append] at hy
    split at hy
    · exact h2 i y hy
    · have hi := (List.getElem?_eq_some_iff.1 hy).1
      simp at hi
      have : i = m := by omega
      subst this
      rw [h1, Nat.sub_self] at hy
      cases hy
      exact hx

theorem Sl.kd {sh : α → σ} {v : Value} {xs : List α} (L : Loose R sh) (h : Sl R H A v xs) (hW : Wbl A H) (hk : Kd A H H') : ∃ xs', Sl R H' A v xs' ∧ xs'.map sh = xs.map sh := by
  obtain ⟨a, sp, css, rfl, h2, h3, h4⟩ := h
  rcases h4 with rfl | ⟨b, o, rfl, hb, hc⟩
  · exact ⟨[], ⟨a, sp, [], rfl, rfl, fun i cs x hc => by simp at hc, .inl rfl⟩, rfl⟩
  obtain ⟨cs', hc', hs⟩ := kd_cells hc hb hW hk
  have hls := rep_lens h2 h3
  have hfl := flat_len hls
  obtain ⟨css', q1, q2, q3⟩ := chunk R.n xs.length cs' (by rw [← hs.1, hfl, h2])
  have hel : ∀ i, i < xs.length → ∃ cs c', css[i]? = some cs ∧ css'[i]? = some c' ∧ All2 SameK cs c' := by
    intro i hi
    have e1 : css[i]? = some (css[i]'(by omega)) := List.getElem?_eq_getElem _
    have e2 : css'[i]? = some (css'[i]'(by omega)) := List.getElem?_eq_getElem _
    refine ⟨_, _, e1, e2, ?_, fun j x y hx hy => ?_⟩
    · rw [hls _ (List.getElem_mem _), q2 _ (List.getElem_mem _)]
    · have hj : j < R.n := by have := (List.getElem?_eq_some_iff.1 hx).1; rwa [hls _ (List.getElem_mem _)] at this
      have f1 := flatten_seg hls e1
      have f2 := flatten_seg q2 e2
      rw [← f1, seg_get hj] at hx
      rw [← f2, seg_get hj, q3] at hy
      exact hs.2 _ x y hx hy
  obtain ⟨xs', p1, p2⟩ := lift_list (P := fun i x' => ∃ c' x, css'[i]? = some c' ∧ xs[i]? = some x ∧ R.rel H' A c' x' ∧ sh x' = sh x) xs.length fun i hi => by
    obtain ⟨cs, c', e1, e2, hk'⟩ := hel i hi
    have hx : xs[i]? = some xs[i] := List.getElem?_eq_getElem hi
    obtain ⟨x', hr, hsh⟩ := L (h3 i cs _ e1 hx) hW hk hk'
    exact ⟨x', c', _, e2, hx, hr, hsh⟩
  refine ⟨xs', ⟨_, sp, css', by rw [p1], by rw [q1, p1], fun i cs x hc hx => ?_, .inr ⟨b, o, rfl, hb, by rw [p1, q3]; exact hc'⟩⟩, ?_⟩
  · obtain ⟨c', y, e1, e2, e3, e4⟩ := p2 i x hx
    rw [hc] at e1
    cases e1
    exact e3
  · apply List.ext_getElem?
    intro i
    rw [List.getElem?_map, List.getElem?_map]
    by_cases hi : i < xs.length
    · have h1 : xs'[i]? = some (xs'[i]'(by omega)) := List.getElem?_eq_getElem _
      obtain ⟨c', y, e1, e2, e3, e4⟩ := p2 i _ h1
      rw [h1, e2]
      simp [e4]
    · rw [List.getElem?_eq_none (by omega), List.getElem?_eq_none (by omega)]

theorem loose_Sl {sh : α → σ} (L : Loose R sh) : Loose (rSl R) (fun xs => xs.map sh) := by
  intro H H' A cs cs' x ⟨v, hc, hv⟩ hW hk hs
  subst hc
  obtain ⟨hl, hs⟩ := hs
  match cs', hl with
  | [y], _ =>
    rcases hs 0 _ y rfl rfl with e | ⟨q', a, b, e1, e2, e3⟩
    · subst e
      obtain ⟨x', h1, h2⟩ := hv.kd L hW hk
      exact ⟨x', ⟨v, rfl, h1⟩, h2⟩
    · subst e1
      obtain ⟨_, _, _, h, _⟩ := hv
      cases h

/-- A number is turned. -/
theorem AtC.storeK {p : Value} {q : IntKind} {x a : Int} {k : Heap → Prop} (h : AtC H A p [.int q x]) (hW : Wbl A H) (ha : q.wrap a = a) (hk : ∀ H', Kd A H H' → k H') : storeP false 1 p (.int q a) H k := by
  obtain ⟨b, o, rfl, hA, hc⟩ := h
  unfold cellsAt at hc
  split at hc
  · rename_i c e fr hb
    split at hc
    · rename_i hn
      obtain rfl := hW b c e fr hA hb
      have hco : c[o]? = some (.int q x) := by
        injection hc with hc
        have := congrArg (·[0]?) hc
        simp only [List.length_singleton] at this hn
        rw [seg_get (by omega)] at this
        simpa using this
      unfold storeP
      simp only [cellsV, okc, ifB_true]
      refine ⟨by unfold mayWrite; rw [hb]; exact ⟨rfl, by simpa using hn⟩, hk _ ⟨by simp [setCells], fun y hy => ?_, fun y c' e' hy hc' => ?_, fun y hy hn' => ?_⟩⟩
      · unfold setCells
        rw [Array.getElem?_modify, if_neg (fun h : b = y => hy (by rw [← h]; exact hA))]
      · unfold setCells
        rw [Array.getElem?_modify]
        by_cases hyb : b = y
        · subst hyb
          rw [if_pos rfl, hb]
          rw [hb] at hc'
          cases hc'
          have hlen : o < c.size := by simp only [List.length_singleton] at hn; omega
          refine ⟨_, rfl, ?_, fun i z hz => ?_⟩
          · simp [setSeg]; omega
          · have hi := (Array.getElem?_eq_some_iff.1 hz).1
            by_cases hio : i = o
            · subst hio
              rw [hco] at hz
              cases hz
              refine ⟨.int q a, ?_, .inr ⟨q, x, a, rfl, rfl, ha⟩⟩
              simp only [setSeg, List.getElem?_toArray, List.append_assoc]
              rw [List.getElem?_append_right (by rw [List.length_take]; omega), List.length_take, show i - min i c.toList.length = 0 by simp only [Array.length_toList]; omega]
              rfl
            · refine ⟨z, ?_, .rfl⟩
              rw [← hz]
              simp only [setSeg, List.getElem?_toArray, List.append_assoc]
              rw [List.getElem?_append]
              simp only [List.length_take, Array.length_toList]
              split
              · rename_i h1
                rw [List.getElem?_take, if_pos (by omega), Array.getElem?_toList]
              · rename_i h1
                rw [List.getElem?_append_right (by simp; omega), List.getElem?_drop, Array.getElem?_toList]
                congr 1
                simp
                omega
        · rw [if_neg hyb]
          exact ⟨c', hc', rfl, fun i z hz => ⟨z, hz, .rfl⟩⟩
      · unfold setCells
        rw [Array.getElem?_modify, if_neg (fun h : b = y => by subst h; exact hn' _ _ hb)]
    · cases hc
  · cases hc

theorem Wbl.kd (hW : Wbl A H) (hk : Kd A H H') : Wbl A H' := by
  intro y c e fr hA hc
  by_cases h : ∃ c0 e0, H[y]? = some (.cells c0 e0 (0, 0))
  · obtain ⟨c0, e0, h0⟩ := h
    obtain ⟨c', h1, _⟩ := hk.here y c0 e0 hA h0
    rw [h1] at hc
    cases hc
    rfl
  · rw [hk.rest y hA fun c0 e0 h0 => h ⟨c0, e0, h0⟩] at hc
    exact hW y c e fr hA hc

end Go.Ab
