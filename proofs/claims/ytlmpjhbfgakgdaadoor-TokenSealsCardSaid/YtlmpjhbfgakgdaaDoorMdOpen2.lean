/- Arguments of the types of 'api': levels, blocks. -/
import Derived.Test.YtlmpjhbfgakgdaaDoorMdOpen
import Derived.Test.YtlmpjhbfgakgdaaDoorMdStash
namespace Go.Md
open Go.Ab
set_option linter.unusedVariables false
set_option linter.unusedSimpArgs false

section
variable {H : Type} {enc : TypeId × Value → H} {P : Program} {W : World} {t : TypeId}

def rLv : Rep Lvl := .flat 4 cLvl (fun _ => True)

theorem opens_Level {K} (h : Opens enc P W t (rP (rI .i64) (rP (rI .i64) (rP (rI .i64) (rP (rI .i64) rUnit)))) K) : Opens enc P W t rLv (fun l => i64 l.blocks ∧ i64 l.size ∧ i64 l.high ∧ i64 l.width) := by
  refine h.by fun cs x hr _ => ?_
  obtain ⟨_, _, rfl, ⟨rfl, h1⟩, _, _, rfl, ⟨rfl, h2⟩, _, _, rfl, ⟨rfl, h3⟩, _, _, rfl, ⟨rfl, h4⟩, rfl⟩ := hr
  exact ⟨⟨x.1, x.2.1, x.2.2.1, x.2.2.2.1⟩, ⟨rfl, trivial⟩, i64_wrap h1, i64_wrap h2, i64_wrap h3, i64_wrap h4⟩

theorem opens_Blk {K} (h : Opens enc P W t (rP (rI .i64) (rP (rI .i64) (rP (rSl rU8) rUnit))) K) : Opens enc P W t rBlk (fun b => K (b.id, b.leaf, b.data, ())) := by
  refine h.by fun cs x hr hk => ?_
  obtain ⟨_, _, rfl, ⟨rfl, _⟩, _, _, rfl, ⟨rfl, _⟩, _, _, rfl, ⟨v, rfl, h3⟩, rfl⟩ := hr
  exact ⟨⟨x.1, x.2.1, x.2.2.1⟩, ⟨v, rfl, h3⟩, hk⟩

end
end Go.Md
