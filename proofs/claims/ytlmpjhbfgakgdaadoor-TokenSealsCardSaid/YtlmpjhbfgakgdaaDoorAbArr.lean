/- Words, and arrays of them, in boxes and in blocks. -/
import Derived.Test.YtlmpjhbfgakgdaaDoorAbKind
import Derived.Test.YtlmpjhbfgakgdaaDoorAbBits
namespace Go.Ab
set_option linter.unusedVariables false
set_option linter.unusedSimpArgs false

/-- A word's value. -/
def wv (x : BitVec 32) : Value := .int .u32 (x.toNat : Int)
def bw (c : UInt8) : BitVec 32 := BitVec.ofNat 32 c.toNat
theorem ok_wv (x : BitVec 32) : okc (wv x) = true := rfl
theorem wv_lit (n : Nat) (h : n < 4294967296) : (.int .u32 (n : Int) : Value) = wv (BitVec.ofNat 32 n) := by
  unfold wv; rw [BitVec.toNat_ofNat, Nat.mod_eq_of_lt (by simpa using h)]
theorem wv_lt (x : BitVec 32) : x.toNat < lim .u32 := x.isLt

section
variable {x y : BitVec 32} {k : Value → Prop} {q : IntKind}
theorem b_add : binV (.int .u32) .add (wv x) (wv y) k = k (wv (x + y)) := by
  show k (.int .u32 (IntKind.u32.wrap ((x.toNat : Int) + (y.toNat : Int)))) = _
  rw [show (x.toNat : Int) + (y.toNat : Int) = ((x.toNat + y.toNat : Nat) : Int) by norm_cast, wrap_mod rfl]
  unfold wv; rw [BitVec.toNat_add]; rfl
theorem b_and : binV (.int .u32) .and (wv x) (wv y) k = k (wv (x &&& y)) := by
  unfold wv; rw [w_and (wv_lt x) (wv_lt y), BitVec.toNat_and]
theorem b_or : binV (.int .u32) .or (wv x) (wv y) k = k (wv (x ||| y)) := by
  unfold wv; rw [w_or (wv_lt x) (wv_lt y), BitVec.toNat_or]
theorem b_xor : binV (.int .u32) .xor (wv x) (wv y) k = k (wv (x ^^^ y)) := by
  unfold wv; rw [w_xor (wv_lt x) (wv_lt y), BitVec.toNat_xor]
theorem b_shr {n : Nat} {z : Int} (hz : z = (n : Int)) (h : n < 32) : binV (.int .u32) .shr (wv x) (.int q z) k = k (wv (x >>> n)) := by
  subst hz; unfold wv; rw [w_shrN (q := .u32) h, BitVec.toNat_ushiftRight, Nat.shiftRight_eq_div_pow]
theorem b_shl {n : Nat} {z : Int} (hz : z = (n : Int)) (h : n ≤ 32) : binV (.int .u32) .shl (wv x) (.int q z) k = k (wv (x <<< n)) := by
  subst hz; unfold wv; rw [w_shlM (q := .u32) rfl h, BitVec.toNat_shiftLeft, Nat.shiftLeft_eq]; rfl
theorem b_cv {c : UInt8} : cvI .u32 (.int .u8 (c.toNat : Int)) k = k (wv (bw c)) := by
  have := c.toNat_lt
  rw [cv_nat (q := .u32) (by show _ < 2 ^ 32; omega), wv_lit c.toNat (by omega)]; rfl
end

/-- A list, of which the first t are of f, and the rest of g. -/
def mix {α : Type} (n t : Nat) (f g : Nat → α) : List α := (List.range n).map fun i => if i < t then f i else g i
section
variable {α : Type} {n t i : Nat} {f g : Nat → α}
theorem mix_len : (mix n t f g).length = n := by simp [mix]
theorem mix_zero : mix n 0 f g = (List.range n).map g := by simp [mix]
theorem mix_full : mix n n f g = (List.range n).map f := by
  unfold mix; exact List.map_congr_left fun i hi => if_pos (List.mem_range.1 hi)
theorem mix_get (h : i < n) : (mix n t f g)[i]? = some (if i < t then f i else g i) := by simp [mix, h]
theorem mix_lo (h : i < t) (h2 : i < n) : (mix n t f g)[i]? = some (f i) := by rw [mix_get h2, if_pos h]
theorem mix_hi (h : t ≤ i) (h2 : i < n) : (mix n t f g)[i]? = some (g i) := by rw [mix_get h2, if_neg (by omega)]
theorem mix_set {v : α} (h : t < n) (hv : v = f t) : (mix n t f g).set t v = mix n (t + 1) f g := by
  apply List.ext_getElem?
  intro j
  by_cases hj : j < n
  · rw [mix_get hj]
    by_cases e : j = t
    · subst e; rw [List.getElem?_set_self (by rw [mix_len]; exact hj), if_pos (by omega), hv]
    · rw [List.getElem?_set_ne (by omega), mix_get hj]
      congr 1
      by_cases h3 : j < t
      · rw [if_pos h3, if_pos (by omega)]
      · rw [if_neg h3, if_neg (by omega)]
  · rw [List.getElem?_eq_none (by rw [List.length_set, mix_len]; omega), List.getElem?_eq_none (by rw [mix_len]; omega)]
theorem as_range {l : List α} {d : α} (h : l.length = n) : l = (List.range n).map fun i => l.getD i d := by
  apply List.ext_getElem?
  intro j
  by_cases hj : j < n
  · simp [hj, List.getElem?_eq_getElem (h ▸ hj : j < l.length)]
  · rw [List.getElem?_eq_none (by omega), List.getElem?_eq_none (by simp; omega)]
end

theorem mix_rep {α : Type} {n : Nat} {f : Nat → α} {x : α} : List.replicate n x = mix n 0 f (fun _ => x) := by
  rw [mix_zero]; apply List.ext_getElem?; intro j
  by_cases hj : j < n
  · simp [hj]
  · rw [List.getElem?_eq_none (by simp; omega), List.getElem?_eq_none (by simp; omega)]
theorem set_self {α : Type} {l : List α} {i : Nat} {v : α} (h : l[i]? = some v) : l.set i v = l := by
  apply List.ext_getElem?; intro j
  by_cases e : i = j
  · subst e; rw [List.getElem?_set_self (List.getElem?_eq_some_iff.1 h).1, h]
  · rw [List.getElem?_set_ne e]
theorem w_i64 {x : Int} {c : Nat} (h : x = (c : Int)) (hc : c < 9223372036854775808) : IntKind.i64.wrap x = ((c : Nat) : Int) := by subst h; exact wrap_nat (q := .i64) hc
theorem i_add {a b : Int} {c : Nat} {k : Value → Prop} (h : a + b = (c : Int)) (hc : c < 9223372036854775808) : binV (.int .i64) .add (.int .i64 a) (.int .i64 b) k = k (.int .i64 (c : Int)) := by
  rw [bin_add, w_i64 h hc]
theorem i_sub {a b : Int} {c : Nat} {k : Value → Prop} (h : a - b = (c : Int)) (hc : c < 9223372036854775808) : binV (.int .i64) .sub (.int .i64 a) (.int .i64 b) k = k (.int .i64 (c : Int)) := by
  rw [bin_sub, w_i64 h hc]
theorem i_mul {a b : Int} {c : Nat} {k : Value → Prop} (h : a * b = (c : Int)) (hc : c < 9223372036854775808) : binV (.int .i64) .mul (.int .i64 a) (.int .i64 b) k = k (.int .i64 (c : Int)) := by
  rw [bin_mul, w_i64 h hc]

/-! ### Boxes -/
theorem seg_val {l : List Value} {i : Nat} {v : Value} (h : l[i]? = some v) : mkV false (seg l (0 + i * 1) 1) = v := by
  have hi := (List.getElem?_eq_some_iff.1 h).1
  unfold seg mkV
  simp only [Nat.zero_add, Nat.mul_one, List.headD_eq_head?_getD, List.head?_take, List.head?_drop]
  simp [h]
theorem setSeg_val {l : List Value} {i : Nat} {v : Value} (h : i < l.length) : setSeg l (0 + i * 1) [v] = l.set i v := by
  unfold setSeg
  simp only [Nat.zero_add, Nat.mul_one, List.length_cons, List.length_nil]
  rw [List.set_eq_take_append_cons_drop, if_pos h, List.append_assoc]; rfl
theorem setSeg_all {z c : List Value} (h : z.length = c.length) : setSeg z 0 c = c := by
  unfold setSeg; simp [List.drop_eq_nil_of_le (Nat.le_of_eq h)]
theorem seg_all {c : List Value} {n : Nat} (h : c.length = n) : seg c 0 n = c := by unfold seg; simp [← h]
theorem seg_allA {c : List Value} {n : Nat} (h : c.length = n) : (seg c 0 n).toArray = c.toArray := by rw [seg_all h]
theorem cellsV_all {c : List Value} {n : Nat} {k : List Value → Prop} (hl : c.length = n) (ho : c.all okc = true) (h : k c) : cellsV true n (.agg c.toArray) k := by
  show ifB (c.toArray.size == n && c.toArray.toList.all okc) (k c.toArray.toList) False
  rw [show (c.toArray.size == n) = true by simp [hl], List.toList_toArray, ho]
  exact h
theorem cellsU_all {c : List Value} {n : Nat} {k : List Value → Prop} (hl : c.length = n) (h : k c) : cellsU true n (.agg c.toArray) k := by
  show ifB (c.toArray.size == n) (k c.toArray.toList) False
  rw [show (c.toArray.size == n) = true by simp [hl], List.toList_toArray]
  exact h
theorem idxR_of {n j : Nat} {q : IntKind} {k : Nat → Prop} (h : j < n) (hk : k j) : idxR n (.int q (j : Int)) k := ⟨⟨by omega, by omega⟩, hk⟩
theorem idxA_of {len n b o j : Nat} {q : IntKind} {k : Value → Prop} (h : j < len) (hk : k (.pointer (some ⟨b, o + j * n, none⟩))) :
    idxA len n (.pointer (some ⟨b, o, none⟩)) (.int q (j : Int)) k := ⟨⟨by omega, by omega⟩, hk⟩
theorem ifL_of {p : Prop} [Decidable p] {A B : Prop} (h : p) (hA : A) : ifB (decide p) A B := by rw [decide_eq_true h]; exact hA
theorem ifT_of {b : Bool} {A B : Prop} (h : b = true) (hA : A) : ifB b A B := by subst h; exact hA
theorem okc_map {α : Type} {f : α → Value} (l : List α) (h : ∀ x, okc (f x) = true) : (l.map f).all okc = true := by simp [h]
theorem seg_map {α : Type} {f : α → Value} {l : List α} {i : Nat} {x : α} (h : l[i]? = some x) : mkV false (seg (l.map f) (0 + i * 1) 1) = f x := seg_val (by rw [List.getElem?_map, h]; rfl)
theorem set_map {α : Type} {f : α → Value} {l : List α} {i : Nat} {x : α} (h : i < l.length) : setSeg (l.map f) (0 + i * 1) [f x] = (l.set i x).map f := by
  rw [setSeg_val (by rw [List.length_map]; exact h), List.map_set]
theorem ok_words (l : List (BitVec 32)) : (l.map wv).all okc = true := okc_map l ok_wv

theorem slA_of {len n b o lo hi : Nat} {olo ohi : Option Value} {k : Value → Prop} (hlo : ∀ K : Int → Prop, K lo → optI olo 0 K) (hhi : ∀ K : Int → Prop, K hi → optI ohi len K)
    (h1 : lo ≤ hi) (h2 : hi ≤ len) (h3 : lo < len) (hk : k (.slice (some ⟨b, o + lo * n, none⟩) (hi - lo) (len - lo))) : slA len n (.pointer (some ⟨b, o, none⟩)) olo ohi none k := by
  unfold slA
  refine hlo _ (hhi _ ?_)
  refine optI_none _ ⟨⟨by omega, by omega, by omega, by omega⟩, ?_⟩
  unfold slAdd
  rw [if_neg (by omega)]
  rw [show ((hi : Int) - (lo : Int)).toNat = hi - lo by omega, show ((len : Int) - (lo : Int)).toNat = len - lo by omega]
  exact hk

def b8 (b : UInt8) : Value := .int .u8 (b.toNat : Int)
theorem ok_b8 (b : UInt8) : okc (b8 b) = true := rfl
theorem ok_bytes (l : List UInt8) : (l.map b8).all okc = true := okc_map l ok_b8

/-! ### Blocks -/
def Blk (H : Heap) (b : Nat) (cs : List Value) : Prop := ∃ e, H[b]? = some (.cells cs.toArray e (0, 0))
section
variable {H H' : Heap} {b o : Nat} {cs : List Value}
theorem Blk.lt (h : Blk H b cs) : b < H.size := by obtain ⟨e, h⟩ := h; exact (Array.getElem?_eq_some_iff.1 h).1
theorem Blk.fr {B : Nat → Prop} (h : Blk H b cs) (hf : Fr B H H') (hB : B b) : Blk H' b cs := by
  have hl := h.lt
  obtain ⟨e, h⟩ := h; exact ⟨e, by rw [hf.same b hl hB]; exact h⟩
theorem Blk.g (h : Blk H b cs) (hf : G H H') : Blk H' b cs := h.fr hf trivial
theorem Blk.new {e : TypeId} {k : Nat → Heap → Prop} (hk : ∀ H', Blk H' H.size cs → G H H' → H'.size = H.size + 1 → k H.size H') : newC e cs H k :=
  hk _ ⟨e, by simp⟩ (G.push _ _) (by simp)
theorem Blk.cells (h : Blk H b cs) {n : Nat} (hn : o + n ≤ cs.length) : cellsAt H b o n = some (seg cs o n) := by
  obtain ⟨e, h⟩ := h
  unfold cellsAt
  rw [h]
  simp [hn]
theorem Blk.load (h : Blk H b cs) {v : Value} {k : Value → Prop} (hv : cs[o]? = some v) (hk : k v) : loadP false 1 (.pointer (some ⟨b, o, none⟩)) H k := by
  have hi := (List.getElem?_eq_some_iff.1 hv).1
  refine load_at (h.cells (n := 1) (by omega)) ?_
  have := seg_val hv
  rw [Nat.zero_add, Nat.mul_one] at this
  rw [this]; exact hk
theorem Blk.loadA (h : Blk H b cs) {n : Nat} {k : Value → Prop} (hn : o + n ≤ cs.length) (hk : k (.agg (seg cs o n).toArray)) : loadP true n (.pointer (some ⟨b, o, none⟩)) H k :=
  load_at (h.cells hn) hk
theorem Blk.at (h : Blk H b cs) {A : Nat → Prop} {n : Nat} (hn : o + n ≤ cs.length) (hA : A b) : AtC H A (.pointer (some ⟨b, o, none⟩)) (seg cs o n) :=
  ⟨b, o, rfl, hA, by rw [seg_length hn]; exact h.cells hn⟩
theorem Blk.set (h : Blk H b cs) {vs : List Value} (hn : o + vs.length ≤ cs.length) :
    mayWrite H b o vs.length ∧ Blk (setCells H b o vs) b (setSeg cs o vs) ∧ Fr (fun y => y ≠ b) H (setCells H b o vs) ∧ (setCells H b o vs).size = H.size := by
  have hl := h.lt
  obtain ⟨e, h⟩ := h
  refine ⟨?_, ⟨e, ?_⟩, ⟨by simp [setCells], fun y hy hne => ?_⟩, by simp [setCells]⟩
  · unfold mayWrite; rw [h]; exact ⟨rfl, by simpa using hn⟩
  · unfold setCells; rw [Array.getElem?_modify, if_pos rfl, h]; simp
  · unfold setCells; rw [Array.getElem?_modify, if_neg (by omega)]
theorem Blk.storeA (h : Blk H b cs) {n : Nat} {vs : List Value} {k : Heap → Prop} (hl : vs.length = n) (ho : vs.all okc = true) (hn : o + n ≤ cs.length)
    (hk : ∀ H', Blk H' b (setSeg cs o vs) → Fr (fun y => y ≠ b) H H' → H'.size = H.size → k H') : storeP true n (.pointer (some ⟨b, o, none⟩)) (.agg vs.toArray) H k := by
  subst hl
  obtain ⟨h1, h2, h3, h4⟩ := h.set hn
  show cellsV true vs.length (.agg vs.toArray) (fun ws => mayWrite H b o vs.length ∧ k (setCells H b o ws))
  exact cellsV_all rfl ho ⟨h1, hk _ h2 h3 h4⟩
theorem Blk.store (h : Blk H b cs) {v : Value} {k : Heap → Prop} (ho : okc v = true) (hn : o < cs.length)
    (hk : ∀ H', Blk H' b (cs.set o v) → Fr (fun y => y ≠ b) H H' → H'.size = H.size → k H') : storeP false 1 (.pointer (some ⟨b, o, none⟩)) v H k := by
  obtain ⟨h1, h2, h3, h4⟩ := h.set (vs := [v]) (o := o) hn
  have e := setSeg_val (v := v) hn
  rw [Nat.zero_add, Nat.mul_one] at e
  show ifB (okc v) (mayWrite H b o 1 ∧ k (setCells H b o [v])) False
  rw [ho]
  rw [e] at h2
  exact ⟨h1, hk _ h2 h3 h4⟩
/-- A copy within a block. -/
theorem Blk.cp (h : Blk H b cs) {o1 o2 n c1 c2 : Nat} {k : Value → Heap → Prop} (hn0 : 0 < n) (ho : cs.all okc = true) (h1 : o1 + n ≤ cs.length) (h2 : o2 + n ≤ cs.length) (hc : n ≤ c2)
    (hk : ∀ H', Blk H' b (setSeg cs o1 (seg cs o2 n)) → Fr (fun y => y ≠ b) H H' → H'.size = H.size → k (.int .i64 (n : Int)) H') :
    cpS 1 (.slice (some ⟨b, o1, none⟩) n c1) (.slice (some ⟨b, o2, none⟩) n c2) H k := by
  have hl := seg_length h2
  obtain ⟨w1, w2, w3, w4⟩ := h.set (vs := seg cs o2 n) (o := o1) (by rw [hl]; exact h1)
  have hk' := hk _ w2 w3 w4
  have hc2 := h.cells h2
  obtain ⟨m, rfl⟩ : ∃ m, n = m + 1 := ⟨n - 1, by omega⟩
  have hoc : (seg cs o2 (m + 1)).all okc = true := by
    unfold seg
    rw [List.all_eq_true] at ho ⊢
    exact fun x hx => ho x (List.mem_of_mem_drop (List.mem_of_mem_take hx))
  simp only [cpS, lenX, Nat.min_self, cutX, srcC, Nat.mul_one, hc2]
  refine ⟨hoc, ?_⟩
  generalize seg cs o2 (m + 1) = xs at *
  match xs, hl with
  | y :: ys, hl =>
    exact ⟨w1, hk'⟩
theorem load_cells {b n o : Nat} {cs : List Value} {v : Value} {k : Value → Prop} (h : cellsAt H b 0 n = some cs) (ho : o < n) (hv : cs[o]? = some v) (hk : k v) : loadP false 1 (.pointer (some ⟨b, 0 + o * 1, none⟩)) H k := by
  have h1 := cellsAt_sub h (p := o) (m := 1) (by omega)
  rw [Nat.mul_one]
  refine load_at h1 ?_
  have := seg_val hv
  rw [Nat.zero_add, Nat.mul_one] at this
  rw [this]; exact hk
end
theorem Bd.wide {α : Type} {R : Rep α} {H0 H1 H2 : Heap} {v : Value} {xs : List α} (h : Bd R H1 H2 v xs) (g : G H0 H1) : Bd R H0 H2 v xs :=
  ⟨g.trans h.g, h.ow.elim fun k hk => ⟨k, hk.1.mono fun y hy _ => ⟨Nat.le_trans g.size hy.1, hy.2⟩, hk.2.imp id fun h => Nat.lt_of_le_of_lt g.size h⟩⟩

theorem Sl.re {α : Type} {R : Rep α} {H0 H1 H2 : Heap} {A : Nat → Prop} {v : Value} {xs : List α} (h : Sl R H1 A v xs) (g1 : G H0 H1) (g2 : G H0 H2) (hA : ∀ y, A y → y < H0.size) : Sl R H2 A v xs :=
  h.fr fun y hy _ => ⟨hy, (g2.same y (hA y hy) trivial).trans (g1.same y (hA y hy) trivial).symm⟩
theorem Blk.loadAll {H : Heap} {b n : Nat} {cs : List Value} {k : Value → Prop} (h : Blk H b cs) (hn : cs.length = n) (hk : k (.agg cs.toArray)) : loadP true n (.pointer (some ⟨b, 0, none⟩)) H k :=
  h.loadA (by omega) (by rw [seg_all hn]; exact hk)
theorem seg_app {l r : List Value} {n : Nat} (h : l.length = n) : seg (l ++ r) 0 n = l := by unfold seg; simp [← h]

theorem zcells_one1 (v : Value) (n : Nat) : zcells [v] n = List.replicate n v := by
  apply List.ext_getElem?
  intro i
  unfold zcells
  rw [List.getElem?_map, List.getElem?_replicate]
  by_cases h : i < n
  · rw [List.getElem?_range h, if_pos h]
    simp [Nat.mod_one]
  · rw [List.getElem?_eq_none (by simp; omega), if_neg h]; rfl

theorem flat8 {H : Heap} {A : Nat → Prop} {css : List (List Value)} {xs : List UInt8} (g2 : css.length = xs.length) (g3 : ∀ (i : Nat) cs x, css[i]? = some cs → xs[i]? = some x → rU8.rel H A cs x) : css = xs.map (fun x => [b8 x]) := by
  apply List.ext_getElem?
  intro i
  by_cases hi : i < xs.length
  · have hx := List.getElem?_eq_getElem hi
    have hc := List.getElem?_eq_getElem (show i < css.length by omega)
    rw [hc, List.getElem?_map, hx]
    exact congrArg some (g3 i _ _ hc hx).1
  · rw [List.getElem?_eq_none (by omega), List.getElem?_eq_none (by simp; omega)]
theorem flat1 (xs : List UInt8) : (xs.map fun x => [b8 x]).flatten = xs.map b8 := by
  induction xs with
  | nil => rfl
  | cons x xs ih => simpa using ih

section
variable {H H1 : Heap} {A : Nat → Prop} {b : Nat} {v : Value} {xs : List UInt8}
theorem ow8_inv (h : Ow rU8 H b A v xs) : (b = 0 ∧ xs = [] ∧ v = .slice none 0 0) ∨ ∃ k cap rest e, b = k + 1 ∧ v = .slice (some ⟨k, 0, none⟩) xs.length cap ∧ xs.length ≤ cap ∧
    H[k]? = some (.cells (xs.map b8 ++ rest).toArray e (0, 0)) ∧ xs.length + rest.length = cap := by
  obtain ⟨css, h2, h3, h4⟩ := h
  rcases h4 with h4 | ⟨k, cap, rest, e, e1, e2, e3, e4, e5⟩
  · exact .inl h4
  · rw [flat8 h2 h3, flat1] at e4 e5
    exact .inr ⟨k, cap, rest, e, e1, e2, e3, e4, by rw [List.length_append, List.length_map, show rU8.n = 1 from rfl] at e5; omega⟩
theorem ow8_of {k cap : Nat} {rest : List Value} {e : TypeId} (h : H[k]? = some (.cells (xs.map b8 ++ rest).toArray e (0, 0))) (hl : xs.length + rest.length = cap) : Ow rU8 H (k + 1) A (.slice (some ⟨k, 0, none⟩) xs.length cap) xs := by
  refine ⟨xs.map fun x => [b8 x], by simp, fun i c x h1 h2 => ?_, .inr ⟨k, cap, rest, e, rfl, rfl, by omega, by rw [flat1]; exact h, by rw [flat1, List.length_append, List.length_map, show rU8.n = 1 from rfl]; omega⟩⟩
  rw [List.getElem?_map, h2] at h1
  cases h1
  exact ⟨rfl, trivial⟩

theorem ow_appZ {e : TypeId} {q : IntKind} {m : Nat} {z : List Value} {k : Value → Heap → Prop} (h : Ow rU8 H b A v xs) (hz : z = [b8 0]) (hm : xs.length + m ≤ 1000000)
    (hk : ∀ w H' b', Ow rU8 H' b' A w (xs ++ List.replicate m 0) → Fr (fun y => y + 1 ≠ b) H H' → (b' = b ∨ b' = H.size + 1) → k w H') : appZ e 1 1 z v (.int q (m : Int)) H k := by
  subst hz
  have hrep : (List.replicate m (0 : UInt8)).map b8 = List.replicate m (b8 0) := List.map_replicate
  rcases ow8_inv h with ⟨rfl, rfl, rfl⟩ | ⟨kb, cap, rest, ty, rfl, rfl, h3, h4, h5⟩
  · simp only [appZ, asI, Int.toNat_natCast, Nat.mul_one, zcells_one1]
    refine ⟨⟨by omega, by omega, by omega, rfl⟩, ?_⟩
    by_cases hm0 : m = 0
    · subst hm0
      rw [if_pos (by omega)]
      exact ⟨rfl, hk _ _ 0 h (Fr.refl _ _) (.inl rfl)⟩
    · rw [if_neg (by omega)]
      simp only [srcC]
      intro nc h1 h2
      refine Blk.new fun H1 hb g1 s1 => ?_
      obtain ⟨ty, hb⟩ := hb
      have := ow8_of (H := H1) (A := A) (k := H.size) (xs := List.replicate m 0) (rest := List.replicate (nc - (0 + m)) (b8 0)) (cap := nc) (e := ty) (by rw [hrep]; exact hb) (by simp; omega)
      rw [List.length_replicate] at this
      rw [Nat.zero_add]
      exact hk _ _ (H.size + 1) this g1.fr (.inr rfl)
  · simp only [appZ, asI, Int.toNat_natCast, Nat.mul_one, zcells_one1]
    refine ⟨⟨by omega, by omega, by omega, rfl⟩, ?_⟩
    by_cases hroom : xs.length + m ≤ cap
    · rw [if_pos hroom]
      refine ⟨rfl, ?_⟩
      by_cases hm0 : m = 0
      · subst hm0
        have := hk _ H (kb + 1) (by rw [List.replicate_zero, List.append_nil]; exact h) (Fr.refl _ _) (.inl rfl)
        exact this
      · have hB : Blk H kb (xs.map b8 ++ rest) := ⟨ty, h4⟩
        obtain ⟨w1, w2, w3, w4⟩ := hB.set (vs := List.replicate m (b8 0)) (o := 0 + xs.length) (by simp; omega)
        have hset : setSeg (xs.map b8 ++ rest) (0 + xs.length) (List.replicate m (b8 0)) = (xs ++ List.replicate m 0).map b8 ++ rest.drop m := by
          unfold setSeg
          rw [List.take_append_of_le_length (by simp), List.take_of_length_le (by simp), List.length_replicate, List.map_append, hrep, List.drop_append, List.drop_eq_nil_of_le (by simp)]
          simp only [List.length_map, List.nil_append, Nat.zero_add]
          rw [show xs.length + m - xs.length = m by omega]
        rw [hset] at w2
        obtain ⟨ty2, w2⟩ := w2
        have := ow8_of (A := A) w2 (cap := cap) (by rw [List.length_append, List.length_replicate, List.length_drop]; omega)
        rw [List.length_append, List.length_replicate] at this
        obtain ⟨m', rfl⟩ : ∃ m', m = m' + 1 := ⟨m - 1, by omega⟩
        rw [List.replicate_succ] at w1 w3 this ⊢
        refine ⟨w1, hk _ _ (kb + 1) (by rw [List.replicate_succ]; exact this) (w3.mono fun y _ hy => by omega) (.inl rfl)⟩
    · rw [if_neg hroom]
      refine own_src (cs := xs.map b8) (rest := rest) (by rw [List.length_map, Nat.mul_one]) h4 (ok_bytes _) ?_
      intro nc h1 h2
      refine Blk.new fun H1 hb g1 s1 => ?_
      obtain ⟨ty', hb⟩ := hb
      rw [← hrep, ← List.map_append] at hb
      have := ow8_of (H := H1) (A := A) (k := H.size) (xs := xs ++ List.replicate m 0) (cap := nc) hb (by simp; omega)
      rw [List.length_append, List.length_replicate] at this
      exact hk _ _ (H.size + 1) this g1.fr (.inr rfl)

theorem Bd.appZ {H0 : Heap} {e : TypeId} {q : IntKind} {m : Nat} {z : List Value} {k : Value → Heap → Prop} (h : Bd rU8 H0 H v xs) (g : G H H1) (hz : z = [b8 0]) (hm : xs.length + m ≤ 1000000)
    (hk : ∀ w H2, Bd rU8 H0 H2 w (xs ++ List.replicate m 0) → k w H2) : Ab.appZ e 1 1 z v (.int q (m : Int)) H1 k := by
  obtain ⟨g0, b, ho, hb⟩ := h
  have hl := ho.lt
  have hs := g.size
  have hs0 := g0.size
  have ho' : Ow rU8 H1 b (fun _ => False) v xs := by
    obtain ⟨css, h2, h3, h4⟩ := ho.g g
    exact ⟨css, h2, fun i c x h5 h6 => h3 i c x h5 h6, h4⟩
  refine ow_appZ ho' hz hm fun w H2 b' hw f hb' => hk w H2 ⟨(g0.trans g).then f fun y hy => by omega, b', hw.mono fun y hy _ => hy.elim, by omega⟩
end

/-- Bytes that are being built since H0, on a block that is none of X. -/
structure BdX (X : Nat → Prop) (H0 H : Heap) (v : Value) (xs : List UInt8) : Prop where
  g : G H0 H
  ow : ∃ b, Ow rU8 H b (fun _ => False) v xs ∧ (b = 0 ∨ H0.size < b) ∧ ∀ y, X y → y + 1 ≠ b
section
variable {X : Nat → Prop} {H H0 H1 : Heap} {v : Value} {xs ys : List UInt8}
theorem BdX.of (h : Bd rU8 H0 H v xs) (g : G H H1) (hX : ∀ y, X y → H.size ≤ y) : BdX X H0 H1 v xs := by
  obtain ⟨g0, b, ho, hb⟩ := h
  have hl := ho.lt
  refine ⟨g0.trans g, b, ?_, hb, fun y hy => by have := hX y hy; omega⟩
  obtain ⟨css, h2, h3, h4⟩ := ho.g g
  exact ⟨css, h2, fun i c x h5 h6 => h3 i c x h5 h6, h4⟩
theorem BdX.bd (h : BdX X H0 H v xs) : Bd rU8 H0 H v xs := by
  obtain ⟨g0, b, ho, hb, hn⟩ := h
  exact ⟨g0, b, ho.mono fun y hy _ => hy.elim, hb⟩
theorem BdX.app {e : TypeId} {z : List Value} {t : Value} {k : Value → Heap → Prop} (h : BdX X H0 H v xs) (g : G H H1) (hx : Src rU8 H1 (fun _ => False) t ys) (hz : z.length = 1) (hX : ∀ y, X y → y < H1.size) (hbig : xs.length + ys.length ≤ 1000000)
    (hk : ∀ w H2, BdX X H0 H2 w (xs ++ ys) → Fr X H1 H2 → k w H2) : appS e 1 1 z v t H1 k := by
  obtain ⟨g0, b, ho, hb, hn⟩ := h
  have hl := ho.lt
  have hs := g.size
  have hs0 := g0.size
  refine (ho.g g).app hx rfl (by decide) hz (fun y hy => by rcases hy with hy | hy <;> exact hy.elim) (by omega) (by omega) fun w H2 b' ho' f hb' _ =>
    hk w H2 ⟨(g0.trans g).then f fun y hy => by omega, b', ho'.mono fun y hy _ => by rcases hy.1 with hy | hy <;> exact hy.elim, by omega, fun y hy => ?_⟩ (f.mono fun y _ hy => hn y hy)
  rcases hb' with e | e
  · rw [e]; exact hn y hy
  · have := hX y hy; omega
end

end Go.Ab
