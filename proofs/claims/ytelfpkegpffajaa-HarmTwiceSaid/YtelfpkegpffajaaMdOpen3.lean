/- Arguments of the types of 'api': harms. -/
import Derived.Test.YtelfpkegpffajaaMdOpen2
import Derived.Test.YtelfpkegpffajaaMdHarm
namespace Go.Md
open Go.Ab
set_option linter.unusedVariables false
set_option linter.unusedSimpArgs false

section
variable {H : Type} {enc : TypeId × Value → H} {P : Program} {W : World} {t : TypeId}

theorem u8_wrap {x : Int} (h : IntKind.u8.wrap x = x) : 0 ≤ x ∧ x < 256 := by
  simp [IntKind.wrap, IntKind.bits, IntKind.signed] at h
  omega

def rHm : Rep Hm := .flat 6 cHm (fun _ => True)

theorem opens_Hm {K} (h : Opens enc P W t (rP (rI .u8) (rP (rI .i64) (rP (rI .i64) (rP (rI .i64) (rP (rI .i64) (rP (rI .u8) rUnit)))))) K) : Opens enc P W t rHm Hm.ok := by
  refine h.by fun cs x hr _ => ?_
  obtain ⟨_, _, rfl, ⟨rfl, h1⟩, _, _, rfl, ⟨rfl, h2⟩, _, _, rfl, ⟨rfl, h3⟩, _, _, rfl, ⟨rfl, h4⟩, _, _, rfl, ⟨rfl, h5⟩, _, _, rfl, ⟨rfl, h6⟩, rfl⟩ := hr
  exact ⟨⟨x.1, x.2.1, x.2.2.1, x.2.2.2.1, x.2.2.2.2.1, x.2.2.2.2.2.1⟩, ⟨rfl, trivial⟩, u8_wrap h1, i64_wrap h2, i64_wrap h3, i64_wrap h4, i64_wrap h5, u8_wrap h6⟩

end
end Go.Md
