/- Harms in plain Lean. -/
import Derived.Test.YtelfpkegpffajaaMdDev
namespace Go.Md
open Go.Ab
set_option linter.unusedVariables false
set_option linter.unusedSimpArgs false

def isW (level b : Int) (s : See) : Bool := s.kind == 2 && s.level == level && s.bucket == b
/-- What was written to a bucket. -/
def versL (l : List See) (level b : Int) : List By := (l.filter (isW level b)).map (·.bytes)
def writesN (l : List See) : Nat := l.countP (fun s => s.kind == 2)
/-- What was seen, up to so many writes. -/
def firstW : List See → Nat → List See
  | [], _ => []
  | _ :: _, 0 => []
  | s :: r, n + 1 => s :: firstW r (if s.kind = 2 then n else n + 1)
def hasBk (d : Dv) (level b : Int) : Bool := decide (0 ≤ level ∧ level < d.length ∧ 1 ≤ b ∧ b ≤ (lvlOf d level).length)

structure Hm where
  kind : Int
  level : Int
  a : Int
  b : Int
  at' : Int
  mask : Int

def cHm (h : Hm) : List Value := [.int .u8 h.kind, .int .i64 h.level, .int .i64 h.a, .int .i64 h.b, .int .i64 h.at', .int .u8 h.mask]
def Hm.ok (h : Hm) : Prop := (0 ≤ h.kind ∧ h.kind < 256) ∧ i64 h.level ∧ i64 h.a ∧ i64 h.b ∧ i64 h.at' ∧ (0 ≤ h.mask ∧ h.mask < 256)

def mayH (d : Dv) (l : List See) (h : Hm) : Bool :=
  if h.kind = 5 then decide (0 ≤ h.at' ∧ h.at' ≤ writesN l)
  else if h.kind < 1 ∨ h.kind > 5 ∨ hasBk d h.level h.a = false then false
  else if h.kind = 1 then decide (0 ≤ h.at' ∧ h.at' < (bk d h.level h.a).length ∧ h.mask ≠ 0)
  else if h.kind = 2 then hasBk d h.level h.b
  else if h.kind = 3 then decide (0 ≤ h.at' ∧ h.at' < (versL l h.level h.a).length)
  else decide (0 < (versL l h.level h.a).length)

def flipAt (x : By) (n : Nat) (mask : Int) : By := x.set n (UInt8.ofNat ((x.getD n 0).toNat ^^^ mask.toNat))
/-- What a bucket had before the last. -/
def dropTo (old : List By) (n : Nat) : By := if 1 < old.length then old.getD (old.length - 2) [] else List.replicate n 0

def doneH (c : Cfg) (d : Dv) (l : List See) (h : Hm) : Dv :=
  if h.kind = 5 then behind (blankD c) (firstW l h.at'.toNat)
  else if h.kind = 1 then putB d h.level h.a (flipAt (bk d h.level h.a) h.at'.toNat h.mask)
  else if h.kind = 2 then putB (putB d h.level h.a (bk d h.level h.b)) h.level h.b (bk d h.level h.a)
  else if h.kind = 3 then putB d h.level h.a ((versL l h.level h.a).getD h.at'.toNat [])
  else putB d h.level h.a (dropTo (versL l h.level h.a) (bk d h.level h.a).length)

def doE (c : Cfg) (d : Dv) (l : List See) (h : Hm) : Int := if repE c d l ≠ 0 then repE c d l else if mayH d l h then 0 else 2
def doD (c : Cfg) (d : Dv) (l : List See) (h : Hm) : Dv := if doE c d l h = 0 then doneH c d l h else []

theorem writesN_cons (s : See) (r : List See) : writesN (s :: r) = writesN r + (if s.kind = 2 then 1 else 0) := by
  unfold writesN; rw [List.countP_cons]; simp
theorem firstW_zero (l : List See) : firstW l 0 = [] := by cases l <;> rfl
theorem firstW_sub : ∀ {l : List See} {n : Nat}, ∀ s ∈ firstW l n, s ∈ l
  | [], n, s, h => by cases n <;> simp [firstW] at h
  | x :: r, 0, s, h => by simp [firstW] at h
  | x :: r, n + 1, s, h => by
    unfold firstW at h
    rcases List.mem_cons.1 h with rfl | h
    · simp
    · exact List.mem_cons_of_mem _ (firstW_sub s h)
theorem firstW_len : ∀ {l : List See} {n : Nat}, (firstW l n).length ≤ l.length
  | [], n => by cases n <;> simp [firstW]
  | x :: r, 0 => by simp [firstW]
  | x :: r, n + 1 => by
    unfold firstW
    have := firstW_len (l := r) (n := if x.kind = 2 then n else n + 1)
    simp; exact this

theorem versL_len {l : List See} {level b : Int} : (versL l level b).length ≤ l.length := by
  unfold versL; rw [List.length_map]; exact List.length_filter_le _ _
theorem versL_mem {l : List See} {level b : Int} {x : By} (h : x ∈ versL l level b) : ∃ s ∈ l, s.bytes = x := by
  unfold versL at h
  obtain ⟨s, hs, rfl⟩ := List.mem_map.1 h
  exact ⟨s, (List.mem_filter.1 hs).1, rfl⟩
theorem versL_snoc (l : List See) (s : See) (level b : Int) : versL (l ++ [s]) level b = versL l level b ++ (if isW level b s then [s.bytes] else []) := by
  unfold versL
  rw [List.filter_append, List.map_append]
  congr 1
  rw [List.filter_cons, List.filter_nil]
  split <;> simp

theorem hasBk_iff {d : Dv} {level b : Int} : hasBk d level b = true ↔ (0 ≤ level ∧ level < d.length) ∧ 1 ≤ b ∧ b ≤ (lvlOf d level).length := by
  unfold hasBk; simp only [decide_eq_true_eq]; constructor <;> (rintro h; omega)

/-! ### Leaves, each of a block of its own -/

/-- A slice's block. -/
def blkOf : Value → Option Nat
  | .slice (some a) _ _ => some a.block
  | _ => none

/-- Bytes of the function's own. -/
def LO (H : Heap) (F : Nat → Prop) (u : Value) (x : By) : Prop := ∃ b, Ow rU8 H b (fun _ => False) u x ∧ ∀ k, b = k + 1 → F k

section
variable {H H' : Heap} {A B O F F' : Nat → Prop} {v u : Value} {x : By} {d : Dv} {b : Nat}

theorem Ow.blk (h : Ow rU8 H b A u x) : (∀ k, b = k + 1 ↔ blkOf u = some k) := by
  obtain ⟨css, _, _, ⟨rfl, rfl, rfl⟩ | ⟨k, cap, rest, e, rfl, rfl, _⟩⟩ := h
  · intro k; simp [blkOf]
  · intro k'; simp [blkOf]

theorem LO.lf (h : LO H F u x) : Lf H F u x := by
  obtain ⟨b, ho, hF⟩ := h
  exact (Ow.lf ho).fr fun y hy _ => ⟨hF y hy.symm, rfl⟩
theorem LO.up (h : LO H F u x) (hf : Fr B H H') (hb : ∀ y, F y → y < H.size → B y ∧ F' y) : LO H' F' u x := by
  obtain ⟨b, ho, hF⟩ := h
  have hl := ho.lt
  exact ⟨b, ho.upF hf fun k hk => (hb k (hF k hk) (by omega)).1, fun k hk => (hb k (hF k hk) (by omega)).2⟩

/-- No two lie on one block. -/
def Ap (us : List Value) : Prop := us.Pairwise fun u u' => ∀ q, blkOf u = some q → blkOf u' ≠ some q

theorem Ap.snoc {us : List Value} (h : Ap us) (hu : ∀ w ∈ us, ∀ q, blkOf w = some q → blkOf u ≠ some q) : Ap (us ++ [u]) := by
  unfold Ap
  rw [List.pairwise_append]
  exact ⟨h, by simp, fun w hw w' hw' q e => by simp at hw'; subst hw'; exact hu w hw q e⟩

theorem Ap.get {us : List Value} (h : Ap us) {i j : Nat} {u u' : Value} (hi : us[i]? = some u) (hj : us[j]? = some u') (hne : i ≠ j) : ∀ q, blkOf u = some q → blkOf u' ≠ some q := by
  obtain ⟨hi1, rfl⟩ := List.getElem?_eq_some_iff.1 hi
  obtain ⟨hj1, rfl⟩ := List.getElem?_eq_some_iff.1 hj
  rcases Nat.lt_or_gt_of_ne hne with h1 | h1
  · exact (List.pairwise_iff_getElem.1 h) i j hi1 hj1 h1
  · exact fun q e e' => (List.pairwise_iff_getElem.1 h) j i hj1 hi1 h1 q e' e

/-- The place of an element of a slice of values. -/
def ptrOf : Value → Nat → Value
  | .slice (some a) _ _, j => .pointer (some ⟨a.block, a.off + j, none⟩)
  | _, _ => undef

theorem Ow2R.put' {b bi : Nat} {bs : List Nat} {u : Value} {vs : List Value} {vss : List (List Value)} {i : Nat} {ws ws' : List Value} (h : Ow2R H A b bs v vs vss) (hu : vs[i]? = some u) (hi : vss[i]? = some ws) (hb : bs[i]? = some bi)
    (ho : Ow rV H' bi (fun _ => False) u ws') (hf : Fr (fun y => y + 1 ≠ bi) H H') : Ow2R H' A b bs v vs (vss.set i ws') := by
  have hlt := (List.getElem?_eq_some_iff.1 hi).1
  have hout := h.outer.lt
  refine ⟨h.outer.upF hf fun k hk => show k + 1 ≠ bi from fun e => (h.inB i k (by rw [e]; exact hb)).2 hk, by rw [h.lenV]; simp, by rw [h.lenB]; simp, fun j u' ws2 bj h1 h2 h3 => ?_, h.inA, h.inB, h.apart⟩
  by_cases hij : i = j
  · subst hij
    rw [hu] at h1; cases h1
    rw [hb] at h3; cases h3
    rw [List.getElem?_set] at h2
    simp only [if_true, hlt] at h2
    cases h2; exact ho
  · rw [List.getElem?_set_ne hij] at h2
    exact (h.inner j u' ws2 bj h1 h2 h3).upF hf fun k hk => show k + 1 ≠ bi from fun e => hij (h.apart i j k (by rw [e]; exact hb) (hk ▸ h3))

theorem Ow2R.cell {b : Nat} {bs : List Nat} {vs : List Value} {vss : List (List Value)} {i j : Nat} {ws : List Value} {u : Value} (h : Ow2R H O b bs v vs vss) (hi : vss[i]? = some ws) (hj : ws[j]? = some u) :
    ∃ w bi, vs[i]? = some w ∧ (∀ k, bi = k + 1 → O k) ∧ AtC H O (ptrOf w j) [u] ∧ (∀ (kd : IntKind) (K : Value → Prop), K (ptrOf w j) → idxS 1 w (.int kd (j : Int)) K) ∧ (∀ (kd : IntKind) (k : Value → Prop), (∀ p, AtC H O p [w] → k p) → idxS 1 v (.int kd (i : Int)) k) ∧
      (∃ q cap, w = .slice (some ⟨q, 0, none⟩) ws.length cap) ∧
      ∀ (u' : Value) (k : Heap → Prop), okc u' = true → (∀ H', Ow2R H' O b bs v vs (vss.set i (ws.set j u')) → Fr (fun y => y + 1 ≠ bi) H H' → H'.size = H.size → k H') → storeP false 1 (ptrOf w j) u' H k := by
  have hlt := (List.getElem?_eq_some_iff.1 hi).1
  have hjlt := (List.getElem?_eq_some_iff.1 hj).1
  have hw : vs[i]? = some (vs[i]'(by have := h.lenV; omega)) := List.getElem?_eq_getElem _
  have hb : bs[i]? = some (bs[i]'(by have := h.lenB; omega)) := List.getElem?_eq_getElem _
  generalize vs[i]'(by have := h.lenV; omega) = w at hw
  generalize bs[i]'(by have := h.lenB; omega) = bi at hb
  have ho := h.inner i w ws bi hw hi hb
  have hA : ∀ k, bi = k + 1 → O k := fun k hk => (h.inB i k (hk ▸ hb)).1
  have ho0 := ho
  obtain ⟨css, g1, g2, ⟨_, g3, _⟩ | ⟨q, cap, rest, e, g3, rfl, g5, g6, g7⟩⟩ := ho0
  · rw [g3] at hjlt; simp at hjlt
  · refine ⟨_, bi, hw, hA, ?_, fun kd K hK => ?_, fun kd k hk => (h.outer.slF h.inA).atV hw hk, ⟨q, cap, rfl⟩, fun u' k hok hk => ?_⟩
    · have := (ho.slF (A' := O) hA).atV (kd := .i64) hj (k := fun p => AtC H O p [u]) fun p hp => hp
      have := this.2
      simpa [ptrOf] using this
    · exact ⟨⟨by omega, by omega⟩, by simpa [ptrOf] using hK⟩
    · have := (ho.put (n := 1) (x := u') (j := j) (kd := .i64) (k := k) (vrep_V hok) rfl (fun _ => rfl) hjlt (fun y hy _ => hy.elim) fun H' ho' hf hs => hk H' (Ow2R.put' h hw hi hb ho' hf) hf hs).2
      simpa [ptrOf] using this

/-- A device of the function's own, its tables told. -/
structure DvR (H : Heap) (O F : Nat → Prop) (b : Nat) (bs : List Nat) (v : Value) (vs : List Value) (d : Dv) : Prop where
  ex : ∃ vss, Ow2R H O b bs v vs vss ∧ All2 (fun ws x => All2 (Lf H F) ws x) vss d
  dis : ∀ y, O y → ¬ F y

/-- The same, each bucket of a block of its own. -/
structure DvX (H : Heap) (O F : Nat → Prop) (b : Nat) (bs : List Nat) (v : Value) (vs : List Value) (d : Dv) : Prop where
  ex : ∃ vss, Ow2R H O b bs v vs vss ∧ All2 (fun ws x => All2 (LO H F) ws x) vss d ∧ Ap vss.flatten
  dis : ∀ y, O y → ¬ F y

variable {bs : List Nat} {vs : List Value}

theorem DvX.dv (h : DvX H O F b bs v vs d) : DvR H O F b bs v vs d := by
  obtain ⟨⟨vss, h1, h2, _⟩, h3⟩ := h
  exact ⟨⟨vss, h1, h2.imp fun ws x h => h.imp fun u x h => h.lf⟩, h3⟩
theorem DvX.up (h : DvX H O F b bs v vs d) (hf : Fr B H H') (hb : ∀ y, O y ∨ F y → y < H.size → B y) : DvX H' O F b bs v vs d := by
  obtain ⟨⟨vss, h1, h2, hap⟩, h3⟩ := h
  exact ⟨⟨vss, h1.up hf fun y hy => hb y (.inl hy), h2.imp fun ws x h => h.imp fun u x h => h.up hf fun y hy hlt => ⟨hb y (.inr hy) hlt, hy⟩, hap⟩, h3⟩
theorem DvX.g (h : DvX H O F b bs v vs d) (hf : G H H') : DvX H' O F b bs v vs d := h.up hf fun _ _ _ => trivial
theorem DvR.dv (h : DvR H O F b bs v vs d) : DvO H O F v d := by
  obtain ⟨⟨vss, h1, h2⟩, h3⟩ := h
  exact ⟨⟨vss, ⟨_, _, _, h1⟩, h2⟩, h3⟩
theorem DvR.up (h : DvR H O F b bs v vs d) (hf : Fr B H H') (hb : ∀ y, O y ∨ F y → y < H.size → B y) : DvR H' O F b bs v vs d := by
  obtain ⟨⟨vss, h1, h2⟩, h3⟩ := h
  exact ⟨⟨vss, h1.up hf fun y hy => hb y (.inl hy), h2.imp fun ws x h => h.imp fun u x h => h.up hf fun y hy hlt => ⟨hb y (.inr hy) hlt, hy⟩⟩, h3⟩
theorem DvR.g (h : DvR H O F b bs v vs d) (hf : G H H') : DvR H' O F b bs v vs d := h.up hf fun _ _ _ => trivial
theorem DvR.wider (h : DvR H O F b bs v vs d) (hF : ∀ y, F y → F' y) (hd : ∀ y, O y → ¬ F' y) : DvR H O F' b bs v vs d := by
  obtain ⟨⟨vss, h1, h2⟩, h3⟩ := h
  exact ⟨⟨vss, h1, h2.imp fun ws x h => h.imp fun u x h => h.fr fun y hy _ => ⟨hF y hy, rfl⟩⟩, hd⟩

/-- A place's pointer. -/
def cellP (vs : List Value) (level k : Int) : Value := ptrOf (vs.getD level.toNat undef) (k - 1).toNat

theorem cellP_nn {w : Value} {q n cap j : Nat} (h : w = .slice (some ⟨q, 0, none⟩) n cap) : ∃ a, ptrOf w j = .pointer (some a) := by subst h; exact ⟨_, rfl⟩

/-- A bucket's place. -/
theorem DvR.cell {level k : Int} (h : DvR H O F b bs v vs d) (hb : hasBk d level k = true) :
    (∃ u, AtC H O (cellP vs level k) [u] ∧ Lf H F u (bk d level k)) ∧ (∃ a, cellP vs level k = .pointer (some a)) ∧
    (∀ (kd : IntKind) (K : Value → Prop), (∀ p w, AtC H O p [w] → (∀ (kd : IntKind) (K : Value → Prop), K (cellP vs level k) → idxS 1 w (.int kd (k - 1)) K) → (∀ (H1 : Heap) (K : Value → Prop), K (.int .i64 ((lvlOf d level).length : Int)) → lenSl w H1 K) → K p) → idxS 1 v (.int kd level) K) ∧
    ∀ (u : Value) (x : By) (K : Heap → Prop), Lf H F u x → (∀ H', DvR H' O F b bs v vs (putB d level k x) → Fr (fun y => ¬ O y) H H' → H'.size = H.size → K H') → storeP false 1 (cellP vs level k) u H K := by
  obtain ⟨⟨hl0, hl1⟩, hk1, hk2⟩ := hasBk_iff.1 hb
  obtain ⟨⟨vss, h1, h2⟩, h3⟩ := h
  have hi := lvl_get ⟨hl0, hl1⟩
  have hj := bk_get ⟨hk1, hk2⟩
  obtain ⟨ws, hw, h4⟩ := h2.get hi
  obtain ⟨u, hu, hlf⟩ := h4.get hj
  obtain ⟨w, bi, hvw, hA, hat, hidx, hread, ⟨q, cap, hsl⟩, hput⟩ := Ow2R.cell h1 hw hu
  have hcell : cellP vs level k = ptrOf w (k - 1).toNat := by unfold cellP; rw [List.getD_eq_getElem?_getD, hvw]; rfl
  rw [hcell]
  refine ⟨⟨u, hat, hlf⟩, cellP_nn hsl, fun kd K hK => ?_, fun u' x' K hlf' hK => ?_⟩
  · have := hread kd K fun p hp => hK p w hp (fun kd K h => by have := hidx kd K h; rwa [Int.toNat_of_nonneg (by omega)] at this) fun H1 K h => by
      subst hsl
      rw [show ws.length = (lvlOf d level).length from h4.1]
      exact h
    rwa [Int.toNat_of_nonneg hl0] at this
  · refine hput u' K hlf'.1.okcv fun H' ho hf hs => hK H' ⟨⟨_, ho, ?_⟩, h3⟩ (hf.mono fun y hy hO => ?_) hs
    · have keep : ∀ {u : Value} {x : By}, Lf H F u x → Lf H' F u x := fun h => h.up hf fun y hy _ => ⟨fun e => h3 y (hA y e.symm) hy, hy⟩
      unfold putB
      exact (h2.imp fun ws x h => h.imp fun u x h => keep h).set _ ((h4.imp fun u x h => keep h).set _ (keep hlf'))
    · exact fun e => hO (hA y e.symm)

/-- The way to a bucket's place. -/
theorem DvR.path {level k : Int} (h : DvR H O F b bs v vs d) (hb : hasBk d level k = true) :
    (∀ (kd : IntKind) (K : Value → Prop), (∀ p, AtC H O p [vs.getD level.toNat undef] → K p) → idxS 1 v (.int kd level) K) ∧ (∀ (kd : IntKind) (K : Value → Prop), K (cellP vs level k) → idxS 1 (vs.getD level.toNat undef) (.int kd (k - 1)) K) ∧
      okc (vs.getD level.toNat undef) = true := by
  obtain ⟨⟨hl0, hl1⟩, hk1, hk2⟩ := hasBk_iff.1 hb
  obtain ⟨⟨vss, h1, h2⟩, h3⟩ := h
  have hi := lvl_get ⟨hl0, hl1⟩
  have hj := bk_get ⟨hk1, hk2⟩
  obtain ⟨ws, hw, h4⟩ := h2.get hi
  obtain ⟨u, hu, hlf⟩ := h4.get hj
  obtain ⟨w, bi, hvw, hA, hat, hidx, hread, ⟨q, cap, hsl⟩, hput⟩ := Ow2R.cell h1 hw hu
  have e : vs.getD level.toNat undef = w := by rw [List.getD_eq_getElem?_getD, hvw]; rfl
  unfold cellP
  rw [e]
  refine ⟨fun kd K hK => ?_, fun kd K h => by have := hidx kd K h; rwa [Int.toNat_of_nonneg (by omega)] at this, by rw [hsl]; rfl⟩
  have := hread kd K hK
  rwa [Int.toNat_of_nonneg hl0] at this

/-- A bucket's own bytes, and what comes of all where they are turned. -/
theorem DvX.leaf {level k : Int} (h : DvX H O F b bs v vs d) (hb : hasBk d level k = true) :
    ∃ u bu, AtC H O (cellP vs level k) [u] ∧ Ow rU8 H bu (fun _ => False) u (bk d level k) ∧ (∀ k, bu = k + 1 → F k) ∧
      ∀ H' x', Ow rU8 H' bu (fun _ => False) u x' → Fr (fun y => y + 1 ≠ bu) H H' → DvR H' O F b bs v vs (putB d level k x') := by
  obtain ⟨⟨hl0, hl1⟩, hk1, hk2⟩ := hasBk_iff.1 hb
  obtain ⟨⟨vss, h1, h2, hap⟩, h3⟩ := h
  have hi := lvl_get ⟨hl0, hl1⟩
  have hj := bk_get ⟨hk1, hk2⟩
  obtain ⟨ws, hw, h4⟩ := h2.get hi
  obtain ⟨u, hu, bu, ho, hF⟩ := h4.get hj
  obtain ⟨w, bi, hvw, hA, hat, _, _, _, _⟩ := Ow2R.cell h1 hw hu
  have hcell : cellP vs level k = ptrOf w (k - 1).toNat := by unfold cellP; rw [List.getD_eq_getElem?_getD, hvw]; rfl
  rw [hcell]
  generalize hie : level.toNat = i at *
  generalize hje : (k - 1).toNat = j at *
  refine ⟨u, bu, hat, ho, hF, fun H' x' ho' hf => ⟨⟨vss, h1.up hf fun y hy _ => ?_, ?_⟩, h3⟩⟩
  · exact fun e => h3 y hy (hF y e.symm)
  unfold putB
  rw [hie, hje]
  -- the others
  have hapf := List.pairwise_flatten.1 hap
  have hwlt := (List.getElem?_eq_some_iff.1 hw).1
  refine ⟨by rw [h2.1]; simp, fun i' ws' xs' hw' hx' => ?_⟩
  rw [List.getElem?_set] at hx'
  have stay : ∀ {u' : Value} {x' : By}, LO H F u' x' → (∀ q, blkOf u = some q → blkOf u' ≠ some q) → Lf H' F u' x' := by
    rintro u' x' ⟨b', ho', hF'⟩ hne
    have : Ow rU8 H' b' (fun _ => False) u' x' := ho'.upF hf fun k hk => show k + 1 ≠ bu from fun e => hne k ((Ow.blk ho k).1 e.symm) ((Ow.blk ho' k).1 hk)
    exact (Ow.lf this).fr fun y hy _ => ⟨hF' y hy.symm, rfl⟩
  by_cases e : i = i'
  · subst e
    have hlt := (List.getElem?_eq_some_iff.1 hi).1
    rw [if_pos rfl, if_pos hlt] at hx'
    cases hx'
    rw [hw] at hw'; cases hw'
    have hapw : Ap ws := hapf.1 ws (List.mem_of_getElem? hw)
    refine ⟨by rw [h4.1]; simp, fun j' u' x2 hu' hx2 => ?_⟩
    rw [List.getElem?_set] at hx2
    by_cases e : j = j'
    · subst e
      have hlt := (List.getElem?_eq_some_iff.1 hj).1
      rw [if_pos rfl, if_pos hlt] at hx2
      cases hx2
      rw [hu] at hu'; cases hu'
      exact (Ow.lf ho').fr fun y hy _ => ⟨hF y hy.symm, rfl⟩
    · rw [if_neg e] at hx2
      exact stay (h4.2 j' u' x2 hu' hx2) (hapw.get hu hu' e)
  · rw [if_neg e] at hx'
    have h5 := h2.2 i' ws' xs' hw' hx'
    refine ⟨h5.1, fun j' u' x2 hu' hx2 => stay (h5.2 j' u' x2 hu' hx2) ?_⟩
    have m1 := List.mem_of_getElem? hu
    have m2 := List.mem_of_getElem? hu'
    obtain ⟨g1, rfl⟩ := List.getElem?_eq_some_iff.1 hw
    obtain ⟨g2, rfl⟩ := List.getElem?_eq_some_iff.1 hw'
    rcases Nat.lt_or_gt_of_ne e with hl | hl
    · exact (List.pairwise_iff_getElem.1 hapf.2) i i' g1 g2 hl u m1 u' m2
    · exact fun q e1 e2 => (List.pairwise_iff_getElem.1 hapf.2) i' i g2 g1 hl u' m2 u m1 q e2 e1

end
end Go.Md
