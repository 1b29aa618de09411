/- Slices that are written out, of many. -/
import Derived.Test.YtlmpjhbfgakgdaaDoorAbNest
namespace Go.Ab
set_option linter.unusedVariables false
set_option linter.unusedSimpArgs false
variable {α : Type} {R : Rep α} {H : Heap} {A : Nat → Prop} {agg : Bool} {n : Nat}

inductive VReps (R : Rep α) (H : Heap) (A : Nat → Prop) (agg : Bool) : List Value → List α → Prop
  | nil : VReps R H A agg [] []
  | cons {v : Value} {x : α} {vs : List Value} {xs : List α} : VRep R H A agg v x → VReps R H A agg vs xs → VReps R H A agg (v :: vs) (x :: xs)

theorem VReps.len {vs : List Value} {xs : List α} (h : VReps R H A agg vs xs) : vs.length = xs.length := by
  induction h with
  | nil => rfl
  | cons _ _ ih => simp [ih]

def pairsFrom : Nat → List Value → List (Nat × Value)
  | _, [] => []
  | i, v :: vs => (i, v) :: pairsFrom (i + 1) vs

theorem flat_len {done : List (List Value)} (h : ∀ c ∈ done, c.length = n) : done.flatten.length = done.length * n := by
  induction done with
  | nil => simp
  | cons c d ih =>
    simp only [List.flatten_cons, List.length_append, List.length_cons]
    rw [ih fun c hc => h c (List.mem_cons_of_mem _ hc), h c List.mem_cons_self, Nat.add_mul]; omega

theorem fill_all (hn : R.n = n) (ha : agg = false → n = 1) {vs : List Value} {xs : List α} (h : VReps R H A agg vs xs) : ∀ (done : List (List Value)) (tail : List Value) (k : List Value → Prop), (∀ c ∈ done, c.length = n) → tail.length = vs.length * n →
    (∀ css : List (List Value), css.length = xs.length → (∀ (i : Nat) c x, css[i]? = some c → xs[i]? = some x → R.rel H A c x) → k (done.flatten ++ css.flatten)) →
    fillV (fun i => some (i * n, n, agg)) (done.flatten ++ tail) (pairsFrom done.length vs) k := by
  induction h with
  | nil =>
    intro done tail k hd ht hk
    have : tail = [] := List.length_eq_zero_iff.1 (by simpa using ht)
    subst this
    exact hk [] rfl fun i c x hc => by simp at hc
  | @cons v x vs xs hv _ ih =>
    intro done tail k hd ht hk
    unfold pairsFrom fillV
    refine hv.cellsV hn ha fun cs hr => ?_
    have hl := R.len hr
    rw [hn] at hl
    have hf := flat_len hd
    simp only [List.length_cons] at ht
    have ht' : tail.length = vs.length * n + n := by rw [ht, Nat.add_mul]; omega
    rw [show decide (done.length * n + n ≤ (done.flatten ++ tail).length) = true from by
      rw [decide_eq_true_eq, List.length_append, hf]; omega]
    have e : setSeg (done.flatten ++ tail) (done.length * n) cs = (done ++ [cs]).flatten ++ tail.drop n := by
      unfold setSeg
      rw [← hf, List.take_left, hl, List.flatten_append, List.drop_append]
      simp
    simp only [ifB_true, e]
    have hd' : ∀ c ∈ done ++ [cs], c.length = n := fun c hc => by
      rcases List.mem_append.1 hc with h | h
      · exact hd c h
      · rw [List.mem_singleton] at h; rw [h, hl]
    have := ih (done ++ [cs]) (tail.drop n) k hd' (by rw [List.length_drop]; omega) fun css hcl hcr => ?_
    · simpa using this
    · have := hk (cs :: css) (by simp [hcl]) fun i c y hc hy => ?_
      · simpa [List.flatten_append] using this
      · cases i with
        | zero => simp at hc hy; subst hc; subst hy; exact hr
        | succ i => exact hcr i c y (by simpa using hc) (by simpa using hy)

/-- A slice is written out. -/
theorem bld_all {e m : Nat} {z : List Value} {vs : List Value} {xs : List α} {k : Value → Heap → Prop} (h : VReps R H A agg vs xs) (hn : R.n = n) (ha : agg = false → n = 1) (hm : vs.length = m)
    (hk : ∀ u H', Ow R H' (H.size + 1) (fun y => A y ∧ y < H.size) u xs → G H H' → H'.size = H.size + 1 → k u H') : bldS e n agg z m (pairsFrom 0 vs) H k := by
  subst hm
  unfold bldS newC
  have := fill_all hn ha h [] (zcells z (vs.length * n)) (fun cs => k (.slice (some ⟨H.size, 0, none⟩) vs.length vs.length) (H.push (.cells cs.toArray e (0, 0)))) (fun c hc => by cases hc) (by simp [zcells]) fun css hl hr => ?_
  · simpa using this
  · have hvl := h.len
    have hcs : ∀ c ∈ css, c.length = n := by rw [← hn]; exact rep_lens hl hr
    have hf := flat_len hcs
    refine hk _ _ ⟨css, hl, fun i c x hc hx => R.fr (hr i c x hc hx) fun b hA hlt => ⟨⟨hA, hlt⟩, (G.push H _).same b hlt trivial⟩, .inr ⟨H.size, vs.length, [], e, rfl, by rw [hvl], by omega, by simp, ?_⟩⟩ (G.push _ _) (by simp)
    simp only [List.append_nil]
    rw [hf, hl, hvl, hn]

theorem vrep_S {β : Type} {S : Rep β} {u : Value} {x : List β} (h : Sl S H A u x) : VRep (rSl S) H A false u x := ⟨[u], rfl, u, rfl, h⟩
theorem vrep_I {q : IntKind} {x : Int} (h : q.wrap x = x) : VRep (rI q) H A false (.int q x) x := ⟨[.int q x], rfl, rfl, h⟩
theorem VReps.mono' {A' : Nat → Prop} {vs : List Value} {xs : List α} (h : VReps R H A agg vs xs) (hb : ∀ b, A b → b < H.size → A' b) : VReps R H A' agg vs xs := by
  induction h with
  | nil => exact .nil
  | cons h1 _ ih => exact .cons (h1.mono hb) ih

/-- Numbers that are written out. -/
theorem bld_I {e : Nat} {z : List Value} {q : IntKind} {k : Value → Heap → Prop} {m : Nat} (xs : List Int) (hw : ∀ x ∈ xs, q.wrap x = x) (hm : xs.length = m) (hk : ∀ u H', Ow (rI q) H' (H.size + 1) (fun _ => False) u xs → G H H' → H'.size = H.size + 1 → k u H') :
    bldS e 1 false z m (pairsFrom 0 (xs.map fun x => .int q x)) H k := by
  have : VReps (rI q) H (fun _ => False) false (xs.map fun x => .int q x) xs := by
    clear hm hk
    induction xs with
    | nil => exact .nil
    | cons x xs ih => exact .cons (vrep_I (hw x List.mem_cons_self)) (ih fun y hy => hw y (List.mem_cons_of_mem _ hy))
  exact bld_all this rfl (fun _ => rfl) (by simpa using hm) fun u H' h g s => hk u H' (h.mono fun y hy _ => hy.1) g s

theorem flat_drop {css : List (List Value)} (h : ∀ c ∈ css, c.length = n) : ∀ k, (css.drop k).flatten = css.flatten.drop (k * n) := by
  induction css with
  | nil => intro k; simp
  | cons c d ih =>
    intro k
    cases k with
    | zero => simp
    | succ k =>
      simp only [List.drop_succ_cons, List.flatten_cons]
      have hc := h c List.mem_cons_self
      rw [ih (fun c hc => h c (List.mem_cons_of_mem _ hc)) k]
      have e : (c ++ d.flatten).drop ((k + 1) * n) = d.flatten.drop (k * n) := by
        have e2 : (k + 1) * n = c.length + k * n := by rw [hc, Nat.add_mul]; omega
        rw [e2, List.drop_append, List.drop_eq_nil_of_le (as := c) (by omega), List.nil_append]
        congr 1; omega
      exact e.symm
theorem flat_take {css : List (List Value)} (h : ∀ c ∈ css, c.length = n) : ∀ k, (css.take k).flatten = css.flatten.take (k * n) := by
  induction css with
  | nil => intro k; simp
  | cons c d ih =>
    intro k
    cases k with
    | zero => simp
    | succ k =>
      simp only [List.take_succ_cons, List.flatten_cons]
      have hc := h c List.mem_cons_self
      rw [ih (fun c hc => h c (List.mem_cons_of_mem _ hc)) k]
      have e : (c ++ d.flatten).take ((k + 1) * n) = c ++ d.flatten.take (k * n) := by
        have e2 : (k + 1) * n = c.length + k * n := by rw [hc, Nat.add_mul]; omega
        rw [e2, List.take_append, List.take_of_length_le (l := c) (by omega)]
        congr 2; omega
      exact e.symm

/-- A piece of a slice. -/
theorem Sl.cut {v : Value} {xs : List α} {lo hi : Nat} {olo ohi : Option Value} {k : Value → Prop} (h : Sl R H A v xs) (hn : R.n = n) (h0 : 0 < xs.length) (h1 : lo ≤ hi) (h2 : hi ≤ xs.length)
    (hlo : ∀ K : Int → Prop, K lo → optI olo 0 K) (hhi : ∀ K : Int → Prop, K hi → optI ohi xs.length K) (hk : ∀ u, Sl R H A u ((xs.drop lo).take (hi - lo)) → k u) : slS n v olo ohi none k := by
  obtain ⟨a, sp, css, rfl, g2, g3, g4⟩ := h
  rcases g4 with rfl | ⟨b, o, rfl, hA, hc⟩
  · simp at h0
  · unfold slS
    refine hlo _ (hhi _ ?_)
    unfold optI
    refine ⟨⟨by omega, by omega, by omega, by omega, fun x hx => by cases hx; rfl⟩, hk _ ?_⟩
    have hlen : ((xs.drop lo).take (hi - lo)).length = hi - lo := by rw [List.length_take, List.length_drop]; omega
    have e1 : ((hi : Int) - (lo : Int)).toNat = hi - lo := by omega
    have hcl := rep_lens g2 g3
    refine ⟨slAdd (some ⟨b, o, none⟩) (lo : Int) ((xs.length + sp : Nat) : Int) n, xs.length + sp - hi, (css.drop lo).take (hi - lo), ?_, by rw [hlen, List.length_take, List.length_drop]; omega, fun i cs x hc hx => ?_, ?_⟩
    · rw [e1, hlen]
      congr 1
      omega
    · rw [List.getElem?_take] at hc hx
      split at hc
      · rename_i hi'
        rw [if_pos hi'] at hx
        rw [List.getElem?_drop] at hc hx
        exact g3 _ cs x hc hx
      · cases hc
    · by_cases he : hi = lo
      · left
        exact List.length_eq_zero_iff.1 (by rw [hlen]; omega)
      · right
        refine ⟨b, o + lo * n, ?_, hA, ?_⟩
        · unfold slAdd
          rw [if_neg (by omega)]
          simp
        · rw [hlen, hn]
          rw [hn] at hc
          rw [cellsAt_sub hc (by rw [← Nat.add_mul]; exact Nat.mul_le_mul_right _ (by omega))]
          unfold seg
          rw [hn] at hcl
          rw [flat_take (n := n) (fun c hc => hcl c (List.mem_of_mem_drop hc)), flat_drop hcl]

theorem optI_none {d : Int} : ∀ K : Int → Prop, K d → optI none d K := fun _ h => h
theorem optI_some {kd : IntKind} {d x : Int} : ∀ K : Int → Prop, K x → optI (some (.int kd x)) d K := fun _ h => h

/-! ### Building lists -/

/-- A list that is being built since H0: of elements that were built since, too. -/
structure Bd (R : Rep α) (H0 H : Heap) (v : Value) (xs : List α) : Prop where
  g : G H0 H
  ow : ∃ b, Ow R H b (fun y => H0.size ≤ y ∧ y + 1 ≠ b) v xs ∧ (b = 0 ∨ H0.size < b)

section
variable {H0 H1 H' : Heap} {v : Value} {xs : List α}
theorem Bd.nil (R : Rep α) (g : G H0 H) : Bd R H0 H (.slice none 0 0) [] := ⟨g, 0, Ow.nil _ _ _, .inl rfl⟩
theorem Bd.up (h : Bd R H0 H v xs) (g : G H H') : Bd R H0 H' v xs := ⟨h.g.trans g, h.ow.elim fun b hb => ⟨b, hb.1.g g, hb.2⟩⟩
theorem Bd.sl (h : Bd R H0 H v xs) : Sl R H (fun y => H0.size ≤ y) v xs := by
  obtain ⟨g, b, ho, hb⟩ := h
  exact ho.sl (fun y hy _ => hy.1) fun k hk => by omega
theorem Bd.okcv (h : Bd R H0 H v xs) : okc v = true := by obtain ⟨g, b, ho, hb⟩ := h; exact ho.okcv
theorem Bd.app {A' : Nat → Prop} {e bytes : Nat} {z : List Value} {t : Value} {ys : List α} {k : Value → Heap → Prop} (h : Bd R H0 H v xs) (g : G H H1) (hx : Src R H1 A' t ys) (hn : R.n = n) (hn0 : 0 < n) (hz : z.length = n)
    (hA : ∀ y, A' y → y < H1.size → H.size ≤ y) (hbig : (xs.length + ys.length) * bytes ≤ 140737488355328) (hbig2 : xs.length + ys.length ≤ 9223372036854775807)
    (hk : ∀ w H2, Bd R H0 H2 w (xs ++ ys) → k w H2) : appS e n bytes z v t H1 k := by
  obtain ⟨g0, b, ho, hb⟩ := h
  have hl := ho.lt
  have hs := g.size
  have hs0 := g0.size
  refine (ho.g g).app hx hn hn0 hz (fun y hy hlt => hy.elim (fun h => h.2) fun h => by have := hA y h hlt; omega) hbig hbig2 fun w H2 b' ho' f hb' _ => hk w H2 ⟨(g0.trans g).then f fun y hy => by omega, b', ho'.mono fun y hy _ => ?_, by omega⟩
  obtain ⟨hy, hlt⟩ := hy
  rcases hy with hy | hy
  · refine ⟨hy.1, ?_⟩
    rcases hb' with e | e
    · rw [e]; exact hy.2
    · omega
  · have := hA y hy hlt
    exact ⟨by omega, by omega⟩
theorem Bd.push {A' : Nat → Prop} {e e' bytes : Nat} {z z' : List Value} {u : Value} {x : α} {k : Value → Heap → Prop} (h : Bd R H0 H v xs) (g : G H H1) (hv : VRep R H1 A' agg u x) (hn : R.n = n) (hn0 : 0 < n) (ha : agg = false → n = 1)
    (hz : z.length = n) (hz' : z'.length = n) (hA : ∀ y, A' y → y < H1.size → H.size ≤ y) (hbig : (xs.length + 1) * bytes ≤ 140737488355328) (hbig2 : xs.length + 1 ≤ 9223372036854775807)
    (hk : ∀ w H2, Bd R H0 H2 w (xs ++ [x]) → k w H2) : bldS e n agg z 1 [(0, u)] H1 fun t H => appS e' n bytes z' v t H k :=
  bld_one hv hn ha hz fun t H2 ht g2 s2 => h.app (g.trans g2) ht.src hn hn0 hz' (fun y hy hlt => hA y hy.1 hy.2) hbig hbig2 hk
end

theorem AtC.re {H0 H1 H2 : Heap} {p : Value} {cs : List Value} (h : AtC H1 A p cs) (g1 : G H0 H1) (g2 : G H0 H2) (hA : ∀ y, A y → y < H0.size) : AtC H2 A p cs := by
  obtain ⟨b, o, rfl, hb, hc⟩ := h
  have hlt := hA b hb
  exact ⟨b, o, rfl, hb, by rw [cellsAt_eq ((g2.same b hlt trivial).trans (g1.same b hlt trivial).symm)]; exact hc⟩

end Go.Ab
