/- Contracts: what was seen, replayed, as the reference has it; devices of noughts; lists of what is seen. -/
import Derived.Test.YtlmpjhbfgakgdaaDoorConRef12b
namespace Go.Proofs.YtlmpjhbfgakgdaaDoor
open Go.Ab Go.Md
set_option linter.unusedVariables false
set_option linter.unusedSimpArgs false
set_option maxRecDepth 20000

variable {H : Heap} {Q : Value → Heap → Prop} {A B C : Nat → Prop}

abbrev cSee (s : See) (u : Value) : List Value := [.int .u8 s.kind, .int .i64 s.level, .int .i64 s.bucket, u]

theorem behind_snoc {d : Dv} {l : List See} {s : See} : behind d (l ++ [s]) = behind1 (behind d l) s := by simp [behind]

/-- What may be seen of a device may be seen of what it becomes. -/
theorem behind_len {d : Dv} : ∀ {l : List See}, (behind d l).length = d.length ∧ ∀ level : Int, (0 ≤ level ∧ level < d.length) → (lvlOf (behind d l) level).length = (lvlOf d level).length := by
  suffices h : ∀ (l : List See) (d' : Dv), d'.length = d.length → (∀ level : Int, (0 ≤ level ∧ level < d.length) → (lvlOf d' level).length = (lvlOf d level).length) →
      (l.foldl behind1 d').length = d.length ∧ ∀ level : Int, (0 ≤ level ∧ level < d.length) → (lvlOf (l.foldl behind1 d') level).length = (lvlOf d level).length from fun {l} => h l d rfl fun _ _ => rfl
  intro l
  induction l with
  | nil => exact fun d' h1 h2 => ⟨h1, h2⟩
  | cons s l ih =>
    intro d' h1 h2
    refine ih (behind1 d' s) ?_ fun level hl => ?_
    · unfold behind1; split
      · rw [len_put]; exact h1
      · exact h1
    · unfold behind1; split
      · rw [← h2 level hl]
        by_cases hs : s.level.toNat = level.toNat
        · have hsl : lvlOf (putB d' s.level s.bucket s.bytes) level = (lvlOf d' s.level).set (s.bucket - 1).toNat s.bytes := by
            unfold putB
            conv => lhs; unfold lvlOf
            rw [List.getD_eq_getElem?_getD, List.getElem?_set, if_pos hs, if_pos (by omega)]; rfl
          rw [hsl]
          unfold lvlOf
          rw [hs]; simp
        · unfold putB
          conv => lhs; unfold lvlOf
          rw [List.getD_eq_getElem?_getD, List.getElem?_set_ne hs]
          unfold lvlOf
          rw [List.getD_eq_getElem?_getD]
      · exact h2 level hl

theorem seeOk_iff {d : Dv} {s : See} : seeOk d s = true ↔ (s.kind = 1 ∨ s.kind = 2) ∧ ((0 ≤ s.level ∧ s.level < d.length) ∧ (1 ≤ s.bucket ∧ s.bucket ≤ (lvlOf d s.level).length)) ∧ (s.bytes.length : Int) = bkSize d s.level := by
  unfold seeOk
  simp only [Bool.and_eq_true, Bool.or_eq_true, beq_iff_eq]
  rw [levE_zero]
  simp [and_assoc]

theorem seeOk_len {d : Dv} {s : See} (hd : Mid d) (h : seeOk d s = true) : s.bytes.length ≤ 1000000 := by
  have h1 := (seeOk_iff.1 h).2.2
  have h2 := mid_bk hd (level := s.level) (b := 1)
  unfold bkSize at h1
  omega

/-- A device of the function's own, of fresh blocks. -/
structure Dn (m : Nat) (H : Heap) (O F : Nat → Prop) (v : Value) (d : Dv) : Prop where
  dv : DvO H O F v d
  inO : ∀ y, O y ∨ F y → m ≤ y ∧ y < H.size

theorem Dn.g {m : Nat} {H' : Heap} {O F : Nat → Prop} {v : Value} {d : Dv} (h : Dn m H O F v d) (hf : G H H') : Dn m H' O F v d := ⟨h.dv.g hf, fun y hy => by have := h.inO y hy; have := hf.size; omega⟩
theorem Dn.leaf {m bu : Nat} {H' : Heap} {O F : Nat → Prop} {v u : Value} {d : Dv} {x : By} (h : Dn m H O F v d) (hm : m ≤ H.size) (hf : G H H') (hu : Ow rU8 H' bu (fun _ => False) u x) (hb : H.size < bu) :
    Dn m H' O (fun y => F y ∨ y + 1 = bu) v d ∧ Lf H' (fun y => F y ∨ y + 1 = bu) u x := by
  have hl := hu.lt
  have hs := hf.size
  refine ⟨⟨(h.dv.g hf).wider (fun y hy => .inl hy) fun y hO => fun hF => hF.elim (h.dv.dis y hO) fun e => by have := h.inO y (.inl hO); omega, fun y hy => ?_⟩, (Ow.lf hu).fr fun y hy _ => ⟨.inr hy, rfl⟩⟩
  rcases hy with hy | hy | hy
  · have := h.inO y (.inl hy); omega
  · have := h.inO y (.inr hy); omega
  · omega
theorem Dn.put {m : Nat} {H' : Heap} {O F : Nat → Prop} {v : Value} {d d' : Dv} (h : Dn m H O F v d) (hd : DvO H' O F v d') (hs : H'.size = H.size) : Dn m H' O F v d' := ⟨hd, fun y hy => by have := h.inO y hy; omega⟩
theorem Dn.of {m : Nat} {H' : Heap} {O F : Nat → Prop} {v : Value} {d : Dv} (h : DvO H' O F v d) (hO : ∀ y, O y ∨ F y → m ≤ y ∧ y < H'.size) : Dn m H' O F v d := ⟨h, hO⟩
theorem Dn.sl {m : Nat} {O F : Nat → Prop} {v : Value} {d : Dv} (h : Dn m H O F v d) : Sl rBys H (fun y => m ≤ y) v d := h.dv.sl fun y hy => (h.inO y hy).1

/-- What sees of middling size are. -/
structure SeesOk (ss : List See) : Prop where
  len : ss.length ≤ 1000000
  r64 : ∀ s ∈ ss, i64 s.bucket

/-! ### Devices of noughts -/

theorem replicate_snoc {α : Type} (n : Nat) (x : α) : List.replicate n x ++ [x] = List.replicate (n + 1) x := by rw [List.replicate_succ']

/-! ### Lists of what is seen -/

end Go.Proofs.YtlmpjhbfgakgdaaDoor
