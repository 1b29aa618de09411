/- Arguments of the types of 'api'. -/
import Derived.Test.YtlmpjhbfgakgdaaDoorAbLaw
import Derived.Test.YtlmpjhbfgakgdaaDoorMdOrd
namespace Go.Md
open Go.Ab
set_option linter.unusedVariables false
set_option linter.unusedSimpArgs false

section
variable {H : Type} {enc : TypeId × Value → H} {P : Program} {W : World} {t : TypeId}

def rCfg : Rep Cfg := .flat 9 cCfg (fun _ => True)

theorem opens_Cfg {K} (h : Opens enc P W t (rP (rI .i64) (rP (rI .i64) (rP (rI .i64) (rP (rI .i64) (rP (rI .i64) (rP (rI .i64) (rP (rI .i64) (rP (rI .i64) (rP (rI .i64) rUnit))))))))) K) : Opens enc P W t rCfg (fun _ => True) := by
  refine h.by fun cs x hr _ => ?_
  obtain ⟨_, _, rfl, ⟨rfl, _⟩, _, _, rfl, ⟨rfl, _⟩, _, _, rfl, ⟨rfl, _⟩, _, _, rfl, ⟨rfl, _⟩, _, _, rfl, ⟨rfl, _⟩, _, _, rfl, ⟨rfl, _⟩, _, _, rfl, ⟨rfl, _⟩, _, _, rfl, ⟨rfl, _⟩, _, _, rfl, ⟨rfl, _⟩, rfl⟩ := hr
  exact ⟨⟨x.1, x.2.1, x.2.2.1, x.2.2.2.1, x.2.2.2.2.1, x.2.2.2.2.2.1, x.2.2.2.2.2.2.1, x.2.2.2.2.2.2.2.1, x.2.2.2.2.2.2.2.2.1⟩, ⟨rfl, trivial⟩, trivial⟩

abbrev rDev : Rep Dv := rSl rBys

theorem opens_Dev {K} (h : Opens enc P W t (rP (rSl (rSl (rSl rU8))) rUnit) K) : Opens enc P W t rDev (fun d => K (d, ())) := by
  refine h.by fun cs x hr hk => ?_
  obtain ⟨_, _, rfl, h1, rfl⟩ := hr
  obtain ⟨d, u⟩ := x
  exact ⟨d, by simpa using h1, hk⟩

theorem opens_See {K} (h : Opens enc P W t (rP (rI .u8) (rP (rI .i64) (rP (rI .i64) (rP (rSl rU8) rUnit)))) K) : Opens enc P W t rSee (fun s => K (s.kind, s.level, s.bucket, s.bytes, ()) ∧ i64 s.level ∧ i64 s.bucket) := by
  refine h.by fun cs x hr hk => ?_
  obtain ⟨_, _, rfl, ⟨rfl, _⟩, _, _, rfl, ⟨rfl, h1⟩, _, _, rfl, ⟨rfl, h2⟩, _, _, rfl, ⟨v, rfl, h3⟩, rfl⟩ := hr
  exact ⟨⟨x.1, x.2.1, x.2.2.1, x.2.2.2.1⟩, ⟨v, rfl, h3⟩, hk, i64_wrap h1, i64_wrap h2⟩

theorem opens_Unit {K} (h : Opens enc P W t (rP (rI .u8) (rP (rI .i64) (rP (rI .i64) (rP (rSl rU8) rUnit)))) K) : Opens enc P W t rUnt (fun s => K (s.kind, s.page, s.frame, s.data, ()) ∧ i64 s.page ∧ i64 s.frame) := by
  refine h.by fun cs x hr hk => ?_
  obtain ⟨_, _, rfl, ⟨rfl, _⟩, _, _, rfl, ⟨rfl, h1⟩, _, _, rfl, ⟨rfl, h2⟩, _, _, rfl, ⟨v, rfl, h3⟩, rfl⟩ := hr
  exact ⟨⟨x.1, x.2.1, x.2.2.1, x.2.2.2.1⟩, ⟨v, rfl, h3⟩, hk, i64_wrap h1, i64_wrap h2⟩

end
end Go.Md
