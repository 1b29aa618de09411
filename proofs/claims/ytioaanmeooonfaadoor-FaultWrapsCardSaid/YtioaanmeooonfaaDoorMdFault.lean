/- Faults and their marks, in plain Lean; arguments of these types. -/
import Derived.Test.YtioaanmeooonfaaDoorMdOpen
namespace Go.Md
open Go.Ab
set_option linter.unusedVariables false
set_option linter.unusedSimpArgs false

structure Mk where
  level : Int
  place : Int
  deriving DecidableEq
structure Flt where
  code : Int
  marks : List Mk
  deriving DecidableEq
def rMk : Rep Mk := .flat 2 (fun m => [.int .i64 m.level, .int .i64 m.place]) (fun m => i64 m.level ∧ i64 m.place)
def rFlt : Rep Flt where
  n := 2
  rel := fun H A cs f => ∃ v, cs = [.int .i64 f.code, v] ∧ Sl rMk H A v f.marks
  len := by rintro _ _ _ _ ⟨v, rfl, _⟩; rfl
  okc := by rintro _ _ _ _ ⟨v, rfl, h⟩; simp only [List.all_cons, List.all_nil, h.okcv]; rfl
  fr := by rintro _ _ _ _ _ _ ⟨v, rfl, h⟩ hb; exact ⟨v, rfl, h.fr hb⟩

def codesL : List Int := [2, 4, 6, 8, 9, 10, 50, 110, 180, 230, 250, 260, 261]
def mkOk (m : Mk) : Prop := (0 ≤ m.level ∧ m.level ≤ 1048576) ∧ 0 ≤ m.place ∧ m.place ≤ 1048576
instance (m : Mk) : Decidable (mkOk m) := by unfold mkOk; infer_instance
/-- May a fault be? -/
def fMay (f : Flt) : Prop := (f.code ∈ codesL ∧ f.marks.length ≤ 8) ∧ ∀ m ∈ f.marks, mkOk m
instance (f : Flt) : Decidable (fMay f) := by unfold fMay; infer_instance
def chkE (f : Flt) : Int := if fMay f then 0 else 8
def wrapE (f : Flt) (m : Mk) : Int := if fMay f ∧ mkOk m then (if f.marks.length ≥ 8 then 4 else 0) else 8
def wrapV (f : Flt) (m : Mk) : Flt := if wrapE f m = 0 then ⟨f.code, m :: f.marks⟩ else ⟨0, []⟩
def openE (f : Flt) : Int := if fMay f then (if f.marks.length = 0 then 6 else 0) else 8
def openV (f : Flt) : Flt := if openE f = 0 then ⟨f.code, f.marks.drop 1⟩ else ⟨0, []⟩
def openM (f : Flt) : Mk := if openE f = 0 then f.marks.headD ⟨0, 0⟩ else ⟨0, 0⟩

section
variable {H : Type} {enc : TypeId × Value → H} {P : Program} {W : World} {t : TypeId}

theorem opens_Mk {K} (h : Opens enc P W t (rP (rI .i64) (rP (rI .i64) rUnit)) K) : Opens enc P W t rMk (fun _ => True) := by
  refine h.by fun cs x hr _ => ?_
  obtain ⟨_, _, rfl, ⟨rfl, h1⟩, _, _, rfl, ⟨rfl, h2⟩, rfl⟩ := hr
  exact ⟨⟨x.1, x.2.1⟩, ⟨rfl, i64_wrap h1, i64_wrap h2⟩, trivial⟩
theorem opens_Flt {K} (h : Opens enc P W t (rP (rI .i64) (rP (rSl rMk) rUnit)) K) : Opens enc P W t rFlt (fun f => K (f.code, f.marks, ())) := by
  refine h.by fun cs x hr hk => ?_
  obtain ⟨_, _, rfl, ⟨rfl, _⟩, _, _, rfl, ⟨v, rfl, h3⟩, rfl⟩ := hr
  exact ⟨⟨x.1, x.2.1⟩, ⟨v, rfl, h3⟩, hk⟩
end

end Go.Md
