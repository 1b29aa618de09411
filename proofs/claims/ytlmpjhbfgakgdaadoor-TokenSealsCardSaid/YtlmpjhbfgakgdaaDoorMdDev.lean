/- Devices in plain Lean. -/
import Derived.Test.YtlmpjhbfgakgdaaDoorMdConf
import Derived.Test.YtlmpjhbfgakgdaaDoorAbNest
namespace Go.Md
open Go.Ab
set_option linter.unusedVariables false
set_option linter.unusedSimpArgs false

abbrev By := List UInt8
abbrev Dv := List (List By)
abbrev rBy : Rep By := rSl rU8
abbrev rBys : Rep (List By) := rSl rBy

structure See where
  kind : Int
  level : Int
  bucket : Int
  bytes : By
  deriving DecidableEq

def rSee : Rep See where
  n := 4
  rel := fun H A cs s => ∃ v, cs = [.int .u8 s.kind, .int .i64 s.level, .int .i64 s.bucket, v] ∧ Sl rU8 H A v s.bytes
  len := by rintro _ _ _ _ ⟨v, rfl, _⟩; rfl
  okc := by rintro _ _ _ _ ⟨v, rfl, h⟩; simp only [List.all_cons, List.all_nil, h.okcv]; rfl
  fr := by rintro _ _ _ _ _ _ ⟨v, rfl, h⟩ hb; exact ⟨v, rfl, h.fr hb⟩

/-- A device that statements go through. -/
def Small (d : Dv) : Prop := d.length ≤ 6 ∧ ∀ x ∈ d, x.length ≤ 150 ∧ ∀ b ∈ x, b.length ≤ 40000

/-- A device of middling size. -/
def Mid (d : Dv) : Prop := d.length ≤ 1000 ∧ ∀ x ∈ d, x.length ≤ 1000 ∧ ∀ b ∈ x, b.length ≤ 1000000
theorem Small.mid {d : Dv} (h : Small d) : Mid d := ⟨by have := h.1; omega, fun x hx => by have := h.2 x hx; exact ⟨by omega, fun b hb => by have := this.2 b hb; omega⟩⟩

def levelOk (l : Lvl) (x : List By) : Bool := (x.length : Int) == 2 * many l.high - 1 && x.all fun b => (b.length : Int) == 8 + l.width
def mayF : List Lvl → Dv → Bool
  | [], [] => true
  | l :: ls, x :: xs => levelOk l x && mayF ls xs
  | _, _ => false
/-- May a device be? -/
def may (c : Cfg) (d : Dv) : Bool := decide c.may && mayF c.all d

def lvlOf (d : Dv) (level : Int) : List By := d.getD level.toNat []
/-- A bucket's bytes. -/
def bk (d : Dv) (level b : Int) : By := (lvlOf d level).getD (b - 1).toNat []
def badAt (d : Dv) (level : Int) (b : Int) : Bool := b < 1 || b > (lvlOf d level).length
def levE (d : Dv) (level : Int) (l : List Int) : Int := if level < 0 ∨ level ≥ d.length then 2 else if l.any (badAt d level) then 2 else 0
def askE (c : Cfg) (d : Dv) (level : Int) (l : List Int) : Int := if may c d then levE d level l else 8

def bkSize (d : Dv) (level : Int) : Int := (bk d level 1).length
def wrE (c : Cfg) (d : Dv) (level : Int) (l : List Int) (all : List By) : Int :=
  if askE c d level l ≠ 0 then askE c d level l else if all.length ≠ l.length ∨ all.any (fun b => (b.length : Int) != bkSize d level) then 2 else 0
def putB (d : Dv) (level b : Int) (x : By) : Dv := d.set level.toNat ((lvlOf d level).set (b - 1).toNat x)
def putAll (d : Dv) (level : Int) : List Int → List By → Dv
  | b :: l, x :: all => putAll (putB d level b x) level l all
  | _, _ => d
def seesR (d : Dv) (level : Int) (l : List Int) : List See := l.map fun b => ⟨1, level, b, bk d level b⟩
def seesW (level : Int) : List Int → List By → List See
  | b :: l, x :: all => ⟨2, level, b, x⟩ :: seesW level l all
  | _, _ => []

def seeOk (d : Dv) (s : See) : Bool := (s.kind == 1 || s.kind == 2) && levE d s.level [s.bucket] == 0 && (s.bytes.length : Int) == bkSize d s.level
def behind1 (d : Dv) (s : See) : Dv := if s.kind = 2 then putB d s.level s.bucket s.bytes else d
def behind (d : Dv) (l : List See) : Dv := l.foldl behind1 d
def repE (c : Cfg) (d : Dv) (l : List See) : Int := if may c d then (if l.all (seeOk d) then 0 else 2) else 8
def blankD (c : Cfg) : Dv := c.all.map fun l => List.replicate (2 * many l.high - 1).toNat (List.replicate (8 + l.width).toNat 0)

theorem mayF_len : ∀ {ls : List Lvl} {d : Dv}, mayF ls d = true → d.length = ls.length
  | [], [], _ => rfl
  | l :: ls, x :: xs, h => by
    unfold mayF at h
    simp only [Bool.and_eq_true] at h
    simp [mayF_len h.2]
  | [], _ :: _, h => by cases h
  | _ :: _, [], h => by cases h
theorem mayF_iff : ∀ {ls : List Lvl} {d : Dv}, mayF ls d = true ↔ d.length = ls.length ∧ ∀ (i : Nat) l x, ls[i]? = some l → d[i]? = some x → levelOk l x = true
  | [], [] => by simp [mayF]
  | l :: ls, x :: xs => by
    unfold mayF
    simp only [Bool.and_eq_true]
    constructor
    · rintro ⟨h1, h2⟩
      have := (mayF_iff (ls := ls) (d := xs)).1 h2
      refine ⟨by simp [this.1], fun i l' x' hl hx => ?_⟩
      cases i with
      | zero => simp at hl hx; subst hl; subst hx; exact h1
      | succ i => exact this.2 i l' x' (by simpa using hl) (by simpa using hx)
    · rintro ⟨h1, h2⟩
      exact ⟨h2 0 l x rfl rfl, (mayF_iff (ls := ls) (d := xs)).2 ⟨by simpa using h1, fun i l' x' hl hx => h2 (i + 1) l' x' (by simpa using hl) (by simpa using hx)⟩⟩
  | [], _ :: _ => by simp [mayF]
  | _ :: _, [] => by simp [mayF]

theorem may_level {c : Cfg} {d : Dv} (h : may c d = true) {i : Nat} {x : List By} (hx : d[i]? = some x) : ∃ l : Lvl, c.all[i]? = some l ∧ l.ok ∧ (x.length : Int) = 2 * many l.high - 1 ∧ ∀ b ∈ x, (b.length : Int) = 8 + l.width := by
  unfold may at h
  simp only [Bool.and_eq_true, decide_eq_true_eq] at h
  obtain ⟨h1, h2⟩ := mayF_iff.1 h.2
  have hlt := (List.getElem?_eq_some_iff.1 hx).1
  have hl : c.all[i]? = some (c.all[i]'(by omega)) := List.getElem?_eq_getElem _
  have := h2 i _ x hl hx
  unfold levelOk at this
  simp only [Bool.and_eq_true, beq_iff_eq, List.all_eq_true] at this
  exact ⟨_, hl, Cfg.all_ok h.1.1 _ (List.getElem_mem _), this.1, this.2⟩

theorem may_pos {c : Cfg} {d : Dv} (h : may c d = true) {i : Nat} {x : List By} (hx : d[i]? = some x) : 3 ≤ x.length ∧ x.length ≤ 127 ∧ ∀ b ∈ x, b.length ≤ 232 := by
  obtain ⟨l, _, hok, hlen, hb⟩ := may_level h hx
  obtain ⟨_, _, _, _, h1, h2, h3, h4⟩ := hok
  have := many_bound h1 h2
  refine ⟨by omega, by omega, fun b hm => by have := hb b hm; omega⟩

theorem levE_zero {d : Dv} {level : Int} {l : List Int} : levE d level l = 0 ↔ (0 ≤ level ∧ level < d.length) ∧ ∀ b ∈ l, 1 ≤ b ∧ b ≤ (lvlOf d level).length := by
  unfold levE
  constructor
  · intro h
    split at h
    · omega
    · split at h
      · omega
      · rename_i h1 h2
        refine ⟨by omega, fun b hb => ?_⟩
        simp only [List.any_eq_true, not_exists, not_and] at h2
        have := h2 b hb
        unfold badAt at this
        simp at this
        exact this
  · rintro ⟨h1, h2⟩
    rw [if_neg (by omega), if_neg]
    simp only [List.any_eq_true, not_exists, not_and]
    intro b hb
    have := h2 b hb
    unfold badAt
    simp
    omega

theorem lvl_get {d : Dv} {level : Int} (h : 0 ≤ level ∧ level < d.length) : d[level.toNat]? = some (lvlOf d level) := by
  unfold lvlOf
  rw [List.getD_eq_getElem?_getD, List.getElem?_eq_getElem (by omega)]; rfl
theorem bk_get {d : Dv} {level b : Int} (h : 1 ≤ b ∧ b ≤ (lvlOf d level).length) : (lvlOf d level)[(b - 1).toNat]? = some (bk d level b) := by
  unfold bk
  rw [List.getD_eq_getElem?_getD, List.getElem?_eq_getElem (by omega)]; rfl

/-! ### Devices of the function's own -/

/-- Bytes that may be read, and written. -/
def Lf (H : Heap) (F : Nat → Prop) (u : Value) (x : By) : Prop := Sl rU8 H F u x ∧ WB H F u x.length

section
variable {H H' : Heap} {A B O F F' : Nat → Prop} {v u : Value} {x : By} {d : Dv}

theorem Lf.fr (h : Lf H F u x) (hf : ∀ y, F y → y < H.size → F' y ∧ H'[y]? = H[y]?) : Lf H' F' u x := ⟨h.1.fr hf, h.2.fr hf⟩
theorem Lf.up (h : Lf H F u x) (hf : Fr B H H') (hb : ∀ y, F y → y < H.size → B y ∧ F' y) : Lf H' F' u x := h.fr fun y hF hlt => ⟨(hb y hF hlt).2, hf.same y hlt (hb y hF hlt).1⟩
theorem Ow.lf {b : Nat} (h : Ow rU8 H b (fun _ => False) u x) : Lf H (fun y => y + 1 = b) u x := ⟨h.slF fun k hk => hk.symm, h.wb fun k hk => hk.symm⟩

structure DvO (H : Heap) (O F : Nat → Prop) (v : Value) (d : Dv) : Prop where
  ex : ∃ vss, Ow2 H O v vss ∧ All2 (fun ws x => All2 (Lf H F) ws x) vss d
  dis : ∀ y, O y → ¬ F y

theorem DvO.up (h : DvO H O F v d) (hf : Fr B H H') (hb : ∀ y, O y ∨ F y → y < H.size → B y) : DvO H' O F v d := by
  obtain ⟨⟨vss, h1, h2⟩, h3⟩ := h
  exact ⟨⟨vss, h1.up hf fun y hy => hb y (.inl hy), h2.imp fun ws x h => h.imp fun u x h => h.up hf fun y hy hlt => ⟨hb y (.inr hy) hlt, hy⟩⟩, h3⟩
theorem DvO.g (h : DvO H O F v d) (hf : G H H') : DvO H' O F v d := h.up hf fun _ _ _ => trivial
theorem DvO.wider (h : DvO H O F v d) (hF : ∀ y, F y → F' y) (hd : ∀ y, O y → ¬ F' y) : DvO H O F' v d := by
  obtain ⟨⟨vss, h1, h2⟩, h3⟩ := h
  exact ⟨⟨vss, h1, h2.imp fun ws x h => h.imp fun u x h => h.fr fun y hy _ => ⟨hF y hy, rfl⟩⟩, hd⟩
theorem DvO.okcv (h : DvO H O F v d) : okc v = true := by obtain ⟨⟨vss, h1, h2⟩, h3⟩ := h; exact h1.okcv

theorem DvO.sl (h : DvO H O F v d) (hA : ∀ y, O y ∨ F y → A y) : Sl rBys H A v d := by
  obtain ⟨⟨vss, h1, h2⟩, h3⟩ := h
  obtain ⟨vs, h4, h5⟩ := h1.sl
  have : All2 (fun u x => Sl rBy H A u x) vs d := by
    refine ⟨h5.1.trans h2.1, fun i u x hu hx => ?_⟩
    obtain ⟨ws, hw, h6⟩ := h2.get hx
    have h7 := h5.2 i u ws hu hw
    exact (h7.join (B := F) (h6.imp fun u x h => h.1)).mono fun b hb _ => hA b hb
  exact (h4.join this).mono fun b hb _ => hb.elim (fun h => hA b (.inl h)) id

/-- A level's slice; a bucket of it is put, now or later. -/
theorem DvO.get (h : DvO H O F v d) {i : Nat} {xs : List By} (hi : d[i]? = some xs) :
    ∃ w, (∀ (kd : IntKind) (k : Value → Prop), (∀ p, AtC H O p [w] → k p) → idxS 1 v (.int kd (i : Int)) k) ∧ Sl rBy H (fun y => O y ∨ F y) w xs ∧
      (∃ cap, 0 < xs.length → ∃ b, w = .slice (some ⟨b, 0, none⟩) xs.length cap ∧ xs.length ≤ cap) ∧
      ∀ (H1 : Heap) (F1 : Nat → Prop), Fr (fun y => O y ∨ F y) H H1 → (∀ y, F y → F1 y) → (∀ y, O y → ¬ F1 y) → ∀ (u : Value) (x : By) (j : Nat) (kd : IntKind) (k : Heap → Prop), Lf H1 F1 u x → j < xs.length →
        (∀ H', DvO H' O F1 v (d.set i (xs.set j x)) → Fr (fun y => ¬ O y) H1 H' → H'.size = H1.size → k H') → idxS 1 w (.int kd (j : Int)) fun p => storeP false 1 p u H1 k := by
  obtain ⟨⟨vss, h1, h2⟩, h3⟩ := h
  obtain ⟨ws, hw, h4⟩ := h2.get hi
  obtain ⟨u, bi, hread, ho, hb, hput⟩ := h1.get hw
  refine ⟨u, hread, ((ho.slF (A' := O) hb).join (B := F) (h4.imp fun u x h => h.1)), ?_, ?_⟩
  · obtain ⟨css, g1, g2, ⟨_, g3, g4⟩ | ⟨k, cap, rest, e, g3, g4, g5, g6, g7⟩⟩ := ho
    · exact ⟨0, fun h => by have := h4.1; rw [g3] at this; simp at this; omega⟩
    · exact ⟨cap, fun _ => ⟨k, by rw [g4, h4.1], by rw [← h4.1]; exact g5⟩⟩
  · intro H1 F1 hf1 hF hO1 w x j kd k hl hj hk
    obtain ⟨ho1, hput⟩ := hput H1 (hf1.mono fun y _ hy => .inl hy)
    have hj' : j < ws.length := by rw [h4.1]; exact hj
    have hwok : okc w = true := hl.1.okcv
    refine ho1.put (x := w) (vrep_V hwok) rfl (fun _ => rfl) hj' (fun y hy _ => hy.elim) fun H' ho' hf hs => ?_
    have hf2 : Fr (fun y => ¬ O y) H1 H' := hf.mono fun y hy hO => fun e => hO (hb y e.symm)
    refine hk H' ⟨⟨vss.set i (ws.set j w), hput H' _ ho' hf, ?_⟩, hO1⟩ hf2 hs
    have keep : ∀ {u : Value} {x : By}, Lf H F u x → Lf H' F1 u x := fun h => (h.up hf1 (F' := F) fun y hy _ => ⟨.inr hy, hy⟩).up hf2 fun y hy _ => ⟨fun hO => h3 y hO hy, hF y hy⟩
    exact (h2.imp fun ws x h => h.imp fun u x h => keep h).set i ((h4.imp fun u x h => keep h).set j (hl.up hf2 fun y hy _ => ⟨fun hO => hO1 y hO hy, hy⟩))

theorem DvO.getZ (h : DvO H O F v d) {z : Int} {xs : List By} (hz : 0 ≤ z) (hi : d[z.toNat]? = some xs) :
    ∃ w, (∀ (kd : IntKind) (k : Value → Prop), (∀ p, AtC H O p [w] → k p) → idxS 1 v (.int kd z) k) ∧ Sl rBy H (fun y => O y ∨ F y) w xs ∧
      (∃ cap, 0 < xs.length → ∃ b, w = .slice (some ⟨b, 0, none⟩) xs.length cap ∧ xs.length ≤ cap) ∧
      ∀ (H1 : Heap) (F1 : Nat → Prop), Fr (fun y => O y ∨ F y) H H1 → (∀ y, F y → F1 y) → (∀ y, O y → ¬ F1 y) → ∀ (u : Value) (x : By) (j : Int) (kd : IntKind) (k : Heap → Prop), Lf H1 F1 u x → 0 ≤ j → j < xs.length →
        (∀ H', DvO H' O F1 v (d.set z.toNat (xs.set j.toNat x)) → Fr (fun y => ¬ O y) H1 H' → H'.size = H1.size → k H') → idxS 1 w (.int kd j) fun p => storeP false 1 p u H1 k := by
  obtain ⟨w, h1, h2, h3, h4⟩ := h.get hi
  refine ⟨w, fun kd k hk => by have := h1 kd k hk; rwa [Int.toNat_of_nonneg hz] at this, h2, h3, fun H1 F1 e1 e2 e3 u x j kd k hl hj hj' hk => ?_⟩
  have := h4 H1 F1 e1 e2 e3 u x j.toNat kd k hl (by omega) hk
  rwa [Int.toNat_of_nonneg hj] at this

/-- A device of the function's own, and a list of what is seen, of other blocks. -/
structure Wt (m : Nat) (H : Heap) (O F : Nat → Prop) (vd : Value) (d : Dv) (b : Nat) (vs : Value) (sl : List See) : Prop where
  dv : DvO H O F vd d
  ss : Ow rSee H b (fun y => m ≤ y ∧ ¬ O y ∧ ¬ F y ∧ y + 1 ≠ b) vs sl
  inO : ∀ y, O y ∨ F y → m ≤ y ∧ y < H.size ∧ y + 1 ≠ b
  fb : b = 0 ∨ m < b

variable {m b : Nat} {vd vs : Value} {sl : List See}
theorem Wt.g (h : Wt m H O F vd d b vs sl) (hf : G H H') : Wt m H' O F vd d b vs sl :=
  ⟨h.dv.g hf, h.ss.g hf, fun y hy => by have := h.inO y hy; have := hf.size; omega, h.fb⟩

/-- Fresh bytes, for the device. -/
theorem Wt.leaf {bu : Nat} {u : Value} {x : By} (h : Wt m H O F vd d b vs sl) (hm : m ≤ H.size) (hf : G H H') (hu : Ow rU8 H' bu (fun _ => False) u x) (hb : H.size < bu) :
    Wt m H' O (fun y => F y ∨ y + 1 = bu) vd d b vs sl ∧ Lf H' (fun y => F y ∨ y + 1 = bu) u x := by
  have hl := hu.lt
  have hsl := h.ss.lt
  have hs := hf.size
  refine ⟨⟨(h.dv.g hf).wider (fun y hy => .inl hy) fun y hO => fun hF => hF.elim (h.dv.dis y hO) fun e => by have := h.inO y (.inl hO); omega, ?_, fun y hy => ?_, h.fb⟩, ?_⟩
  · refine h.ss.fr (fun y hy hlt => ⟨⟨hy.1, hy.2.1, fun hF => hF.elim hy.2.2.1 fun e => by omega, hy.2.2.2⟩, hf.same y hlt trivial⟩) fun k hk => hf.same k (by omega) trivial
  · rcases hy with hy | hy | hy
    · have := h.inO y (.inl hy); omega
    · have := h.inO y (.inr hy); omega
    · omega
  · exact (Ow.lf hu).fr fun y hy _ => ⟨.inr hy, rfl⟩

/-- A bucket is put. -/
theorem Wt.put {d' : Dv} (h : Wt m H O F vd d b vs sl) (hd : DvO H' O F vd d') (hf : Fr (fun y => ¬ O y) H H') (hs : H'.size = H.size) : Wt m H' O F vd d' b vs sl :=
  ⟨hd, h.ss.up hf fun y hy hlt => by
    rcases hy with hy | hy
    · exact hy.2.1
    · exact fun hO => (h.inO y (.inl hO)).2.2 hy, fun y hy => by have := h.inO y hy; omega, h.fb⟩

/-- Something more is seen. -/
theorem Wt.app2 {e bytes : Nat} {z : List Value} {x : Value} {s : List See} {A' : Nat → Prop} {k : Value → Heap → Prop} (h : Wt m H O F vd d b vs sl) (hm : m ≤ H.size) (hx : Src rSee H A' x s)
    (hz : z.length = 4) (hA : ∀ y, A' y → y < H.size → m ≤ y ∧ ¬ O y ∧ ¬ F y ∧ y + 1 ≠ b) (hbig : (sl.length + s.length) * bytes ≤ 140737488355328) (hbig2 : sl.length + s.length ≤ 9223372036854775807)
    (hk : ∀ w H' b', Wt m H' O F vd d b' w (sl ++ s) → Fr (fun y => y + 1 ≠ b) H H' → (b' = b ∨ H.size < b') → k w H') : appS e 4 bytes z vs x H k := by
  have hl := h.ss.lt
  refine h.ss.app hx rfl (by omega) hz (fun y hy hlt => hy.elim (fun h => h.2.2.2) fun hh => (hA y hh hlt).2.2.2) hbig hbig2 fun w H' b' ho hf hb' _ => hk w H' b' ⟨?_, ?_, fun y hy => ?_, ?_⟩ hf (by omega)
  · exact h.dv.up hf fun y hy _ => (h.inO y hy).2.2
  · refine ho.mono fun y hy _ => ?_
    have hE : m ≤ y ∧ ¬ O y ∧ ¬ F y ∧ y + 1 ≠ b := hy.1.elim id fun hh => hA y hh hy.2
    refine ⟨hE.1, hE.2.1, hE.2.2.1, ?_⟩
    rcases hb' with e | e
    · rw [e]; exact hE.2.2.2
    · have := hy.2; omega
  · have := h.inO y hy
    have := hf.size
    omega
  · have := h.fb; omega

/-- Something more is seen. -/
theorem Wt.app {e bytes : Nat} {z : List Value} {x : Value} {s : List See} {A' : Nat → Prop} {k : Value → Heap → Prop} (h : Wt m H O F vd d b vs sl) (hm : m ≤ H.size) (hx : Src rSee H A' x s)
    (hz : z.length = 4) (hA : ∀ y, A' y → y < H.size → m ≤ y ∧ ¬ O y ∧ ¬ F y ∧ y + 1 ≠ b) (hbig : (sl.length + s.length) * bytes ≤ 140737488355328) (hbig2 : sl.length + s.length ≤ 9223372036854775807)
    (hk : ∀ w H' b', Wt m H' O F vd d b' w (sl ++ s) → Fr (fun y => y + 1 ≠ b) H H' → k w H') : appS e 4 bytes z vs x H k :=
  h.app2 hm hx hz hA hbig hbig2 fun w H' b' hw hf _ => hk w H' b' hw hf

/-- Something more is seen, of fresh bytes. -/
theorem Wt.see2 {e e' bytes bu : Nat} {z z' : List Value} {u : Value} {kind level bucket : Int} {x : By} {k : Value → Heap → Prop} {H1 : Heap} (h : Wt m H O F vd d b vs sl) (hm : m ≤ H.size) (hg : G H H1)
    (hu : Ow rU8 H1 bu (fun _ => False) u x) (hb : H.size < bu) (hz : z.length = 4) (hz' : z'.length = 4) (hbig : (sl.length + 1) * bytes ≤ 140737488355328) (hbig2 : sl.length + 1 ≤ 9223372036854775807)
    (P : Value → Heap → Prop → Prop) (hP : ∀ t H2 X, G H1 H2 → X → P t H2 X)
    (hk : ∀ w H' H2 b', Wt m H' O F vd d b' w (sl ++ [⟨kind, level, bucket, x⟩]) → G H1 H2 → Fr (fun y => y + 1 ≠ b) H2 H' → (b' = b ∨ H2.size < b') → k w H') :
    bldS e 4 true z 1 [(0, .agg #[.int .u8 kind, .int .i64 level, .int .i64 bucket, u])] H1 fun t H => P t H (appS e' 4 bytes z' vs t H k) := by
  have hl := h.ss.lt
  have hs := hg.size
  have hv : VRep rSee H1 (fun y => y + 1 = bu) true (.agg #[.int .u8 kind, .int .i64 level, .int .i64 bucket, u]) (⟨kind, level, bucket, x⟩ : See) :=
    ⟨[.int .u8 kind, .int .i64 level, .int .i64 bucket, u], rfl, u, rfl, hu.slF fun k hk => hk.symm⟩
  refine bld_one hv rfl (fun h => by cases h) hz fun t H2 ht g2 s2 => hP t H2 _ g2 ?_
  refine ((h.g hg).g g2).app2 (by have := g2.size; omega) ht.src hz' (fun y hy _ => ⟨by omega, fun hO => ?_, fun hF => ?_, by omega⟩) hbig hbig2 fun w H' b' hw hf hb' => hk w H' H2 b' hw g2 hf hb'
  · have := (h.inO y (.inl hO)).2.1; omega
  · have := (h.inO y (.inr hF)).2.1; omega

/-- Something more is seen, of fresh bytes. -/
theorem Wt.see {e e' bytes bu : Nat} {z z' : List Value} {u : Value} {kind level bucket : Int} {x : By} {k : Value → Heap → Prop} {H1 : Heap} (h : Wt m H O F vd d b vs sl) (hm : m ≤ H.size) (hg : G H H1)
    (hu : Ow rU8 H1 bu (fun _ => False) u x) (hb : H.size < bu) (hz : z.length = 4) (hz' : z'.length = 4) (hbig : (sl.length + 1) * bytes ≤ 140737488355328) (hbig2 : sl.length + 1 ≤ 9223372036854775807)
    (P : Value → Heap → Prop → Prop) (hP : ∀ t H2 X, G H1 H2 → X → P t H2 X)
    (hk : ∀ w H' H2 b', Wt m H' O F vd d b' w (sl ++ [⟨kind, level, bucket, x⟩]) → G H1 H2 → Fr (fun y => y + 1 ≠ b) H2 H' → k w H') :
    bldS e 4 true z 1 [(0, .agg #[.int .u8 kind, .int .i64 level, .int .i64 bucket, u])] H1 fun t H => P t H (appS e' 4 bytes z' vs t H k) :=
  h.see2 hm hg hu hb hz hz' hbig hbig2 P hP fun w H' H2 b' hw hg' hf _ => hk w H' H2 b' hw hg' hf

/-- A list of fresh bytes, and a list of what is seen, of other blocks. -/
structure Rw (m : Nat) (H : Heap) (b1 b2 : Nat) (F : Nat → Prop) (v1 : Value) (ws : List Value) (xs : List By) (v2 : Value) (sl : List See) : Prop where
  o1 : Ow rV H b1 (fun _ => False) v1 ws
  lf : All2 (Lf H F) ws xs
  o2 : Ow rSee H b2 (fun y => m ≤ y ∧ ¬ F y ∧ y + 1 ≠ b1 ∧ y + 1 ≠ b2) v2 sl
  inF : ∀ y, F y → m ≤ y ∧ y < H.size ∧ y + 1 ≠ b1 ∧ y + 1 ≠ b2
  ne : b1 = b2 → b1 = 0
  f1 : b1 = 0 ∨ m < b1
  f2 : b2 = 0 ∨ m < b2

theorem Rw.nil (m : Nat) (H : Heap) : Rw m H 0 0 (fun _ => False) (.slice none 0 0) [] [] (.slice none 0 0) [] :=
  ⟨Ow.nil _ _ _, .nil _, Ow.nil _ _ _, fun y h => h.elim, fun _ => rfl, .inl rfl, .inl rfl⟩

variable {b1 b2 bu : Nat} {v1 v2 : Value} {ws : List Value} {xs : List By}
theorem Rw.up (h : Rw m H b1 b2 F v1 ws xs v2 sl) (hf : Fr B H H') (hb : ∀ y, m ≤ y → y < H.size → B y) : Rw m H' b1 b2 F v1 ws xs v2 sl := by
  have l1 := h.o1.lt
  have l2 := h.o2.lt
  have hs := hf.size
  refine ⟨h.o1.upF hf fun k hk => hb k (by have := h.f1; omega) (by omega), h.lf.imp fun u x hl => hl.up hf fun y hy hlt => ⟨hb y (h.inF y hy).1 hlt, hy⟩, ?_, fun y hy => by have := h.inF y hy; omega, h.ne, h.f1, h.f2⟩
  exact h.o2.up hf fun y hy hlt => by
    rcases hy with hy | hy
    · exact hb y hy.1 hlt
    · exact hb y (by have := h.f2; omega) hlt
theorem Rw.g (h : Rw m H b1 b2 F v1 ws xs v2 sl) (hf : G H H') : Rw m H' b1 b2 F v1 ws xs v2 sl := h.up hf fun _ _ _ => trivial

theorem Rw.push {e e' bytes : Nat} {z z' : List Value} {k : Value → Heap → Prop} {H1 : Heap} (h : Rw m H b1 b2 F v1 ws xs v2 sl) (hm : m ≤ H.size) (g : G H H1) (hu : Ow rU8 H1 bu (fun _ => False) u x) (hb : bu = 0 ∨ H.size < bu)
    (hz : z.length = 1) (hz' : z'.length = 1) (hl : (xs.length + 1) * bytes ≤ 140737488355328) (hl2 : xs.length < 1000000)
    (hk : ∀ w H3 b, Rw m H3 b b2 (fun y => F y ∨ y + 1 = bu) w (ws ++ [u]) (xs ++ [x]) v2 sl → Fr (fun y => y + 1 ≠ b1) H1 H3 → k w H3) :
    bldS e 1 false z 1 [(0, u)] H1 fun t H => appS e' 1 bytes z' v1 t H k := by
  have hlen := h.lf.1
  have lu := hu.lt
  have l1 := h.o1.lt
  have l2 := h.o2.lt
  have hs := g.size
  refine (h.o1.g g).push (vrep_V (A := fun _ => False) hu.okcv) rfl (by omega) (fun _ => rfl) hz hz' (fun y hy _ => by simp at hy) (by rw [hlen]; exact hl) (by rw [hlen]; omega) fun w H3 b ho hf hb' _ => hk w H3 b ⟨ho.mono fun y hy _ => by simp at hy, ?_, ?_, fun y hy => ?_, fun e => ?_, ?_, h.f2⟩ hf
  · refine (h.lf.imp fun u x hl => (hl.up g (F' := F) fun y hy _ => ⟨trivial, hy⟩).up hf fun y hy _ => ⟨(h.inF y hy).2.2.1, .inl hy⟩).snoc ?_
    exact (Ow.lf hu).up hf fun y hy _ => ⟨show y + 1 ≠ b1 by have : y + 1 = bu := hy; omega, .inr hy⟩
  · have := ((h.o2.mono (A' := fun y => (m ≤ y ∧ ¬ F y ∧ y + 1 ≠ b1 ∧ y + 1 ≠ b2) ∧ y < H.size) fun y hy hlt => ⟨hy, hlt⟩).g g).up hf fun y hy hlt => by
      rcases hy with hy | hy
      · exact hy.1.2.2.1
      · intro e
        have := h.ne (by omega); omega
    exact this.mono fun y hy _ => ⟨hy.1.1, fun hF => hF.elim hy.1.2.1 fun e => by omega, by have := hy.1.2.2.1; have := hy.2; omega, hy.1.2.2.2⟩
  · have := hf.size
    rcases hy with hy | hy
    · have := h.inF y hy; omega
    · omega
  · rcases hb' with e' | e'
    · have := h.ne (by omega); omega
    · omega
  · have := h.f1; omega

theorem Rw.app {e bytes : Nat} {z : List Value} {t : Value} {s : List See} {A' : Nat → Prop} {k : Value → Heap → Prop} (h : Rw m H b1 b2 F v1 ws xs v2 sl) (hm : m ≤ H.size) (hx : Src rSee H A' t s)
    (hz : z.length = 4) (hA : ∀ y, A' y → y < H.size → m ≤ y ∧ ¬ F y ∧ y + 1 ≠ b1 ∧ y + 1 ≠ b2) (hbig : (sl.length + s.length) * bytes ≤ 140737488355328) (hbig2 : sl.length + s.length ≤ 9223372036854775807)
    (hk : ∀ w H' b, Rw m H' b1 b F v1 ws xs w (sl ++ s) → Fr (fun y => y + 1 ≠ b2) H H' → k w H') : appS e 4 bytes z v2 t H k := by
  have l1 := h.o1.lt
  have l2 := h.o2.lt
  refine h.o2.app hx rfl (by omega) hz (fun y hy hlt => hy.elim (fun h => h.2.2.2) fun hh => (hA y hh hlt).2.2.2) hbig hbig2 fun w H' b ho hf hb' _ => hk w H' b ⟨?_, ?_, ?_, fun y hy => ?_, fun e => ?_, h.f1, ?_⟩ hf
  · exact h.o1.upF hf fun k hk => show k + 1 ≠ b2 from fun e => by have := h.ne (by omega); omega
  · exact h.lf.imp fun u x hl => hl.up hf fun y hy _ => ⟨(h.inF y hy).2.2.2, hy⟩
  · refine ho.mono fun y hy _ => ?_
    have hE : m ≤ y ∧ ¬ F y ∧ y + 1 ≠ b1 ∧ y + 1 ≠ b2 := hy.1.elim id fun hh => hA y hh hy.2
    exact ⟨hE.1, hE.2.1, hE.2.2.1, by have := hy.2; have := hE.2.2.2; omega⟩
  · have := h.inF y hy
    have := hf.size
    omega
  · rcases hb' with e' | e'
    · exact h.ne (by omega)
    · omega
  · have := h.f2; omega

theorem DvO.nil (H : Heap) (O F : Nat → Prop) (h : ∀ y, O y → ¬ F y) : DvO H O F (.slice none 0 0) [] := ⟨⟨[], ⟨0, [], [], Ow2R.nil _ _⟩, .nil _⟩, h⟩
theorem Wt.nil (m : Nat) (H : Heap) : Wt m H (fun _ => False) (fun _ => False) (.slice none 0 0) [] 0 (.slice none 0 0) [] :=
  ⟨DvO.nil _ _ _ fun y h => h.elim, Ow.nil _ _ _, fun y h => h.elim False.elim False.elim, .inl rfl⟩

end

end Go.Md
