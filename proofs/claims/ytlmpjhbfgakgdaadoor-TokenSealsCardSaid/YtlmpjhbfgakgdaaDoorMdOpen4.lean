/- Arguments of the types of 'api': keys, stores. -/
import Derived.Test.YtlmpjhbfgakgdaaDoorMdOpen2
import Derived.Test.YtlmpjhbfgakgdaaDoorMdTok
import Derived.OpenShut
import Derived.Lib.LaidTab
namespace Go.Md
open Go.Ab
set_option linter.unusedVariables false
set_option linter.unusedSimpArgs false

section
variable {H : Type} {enc : TypeId × Value → H} {P : Program} {W : World} {t : TypeId}

/-- An array of so many bytes. -/
def rArr (n : Nat) : Rep (List UInt8) where
  n := n
  rel := fun H A cs x => cs = x.map b8 ∧ x.length = n
  len := by rintro _ _ _ _ ⟨rfl, h⟩; rw [List.length_map, h]
  okc := by rintro _ _ _ _ ⟨rfl, h⟩; exact ok_bytes _
  fr := by rintro _ _ _ _ _ _ h _; exact h

theorem all_map {α β : Type} {f : α → β} : ∀ {l : List β}, (∀ i, i < l.length → ∃ d, l[i]? = some (f d)) → ∃ xs : List α, l = xs.map f
  | [], _ => ⟨[], rfl⟩
  | y :: l, h => by
    obtain ⟨d, hd⟩ := h 0 (by simp)
    obtain ⟨xs, rfl⟩ := all_map (l := l) fun i hi => by simpa using h (i + 1) (by simpa using hi)
    have : y = f d := by simpa using hd
    exact ⟨d :: xs, by rw [this]; rfl⟩

theorem opens_arr8 {e : TypeId} {n : Nat} (ht : P.underlying t = some (.array n e)) (he : P.underlying e = some (.int .u8)) (hce : P.cellsOf e = 1) (hct : P.cellsOf t = n) : Opens enc P W t (rArr n) (fun _ => True) := by
  intro fuel cs x h hw
  obtain ⟨xs, m, rfl, rfl, hl, hlen, hx⟩ := DataW.trod_array ht h
  rw [hct] at hl
  have each : ∀ i, i < cs.length → ∃ d : UInt8, cs[i]? = some (b8 d) := by
    intro i hi
    have h1 := hx i (by omega)
    rw [hce, Nat.mul_one] at h1
    have hi' : i < xs.length := by omega
    rw [List.getElem?_eq_getElem hi'] at h1
    have hd : (xs.map (·.1))[i]? = some xs[i].1 := by rw [List.getElem?_map, List.getElem?_eq_getElem hi']; rfl
    obtain ⟨d, ⟨hr, _⟩, _⟩ := opens_u8 (enc := enc) (W := W) he m _ _ h1 fun k hk => hw k (by
      simp only [DataW.weights, ht]
      exact mem_weightsAll hd k hk)
    refine ⟨d, ?_⟩
    have h2 : ((cs.drop i).take 1)[0]? = some (b8 d) := by rw [hr]; rfl
    simpa using h2
  obtain ⟨ys, rfl⟩ := all_map each
  exact ⟨ys, ⟨rfl, by simpa using hl⟩, trivial⟩

theorem opens_Orm {K} (h : Opens enc P W t (rP (rArr 32) (rP (rSl rBlk) rUnit)) K) : Opens enc P W t rOrm (fun _ => True) := by
  refine h.by fun cs x hr _ => ?_
  obtain ⟨_, _, rfl, ⟨rfl, h1⟩, _, _, rfl, ⟨v, rfl, h2⟩, rfl⟩ := hr
  exact ⟨⟨x.1, x.2.1⟩, ⟨v, rfl, h1, h2⟩, trivial⟩

def rSto : Rep Sto where
  n := 4
  rel := fun H A cs s => ∃ lv mv, cs = [lv, mv, .int .u64 (s.next : Int), .int .u64 (s.ticks : Int)] ∧ Sl rOrm H A lv s.levels ∧ Sl (rI .i64) H A mv s.map
  len := by rintro _ _ _ _ ⟨_, _, rfl, _⟩; rfl
  okc := by rintro _ _ _ _ ⟨_, _, rfl, h1, h2⟩; simp only [List.all_cons, List.all_nil, h1.okcv, h2.okcv]; rfl
  fr := by rintro _ _ _ _ _ _ ⟨lv, mv, rfl, h1, h2⟩ hb; exact ⟨lv, mv, rfl, h1.fr hb, h2.fr hb⟩

theorem u64_pos {x : Int} (h : IntKind.u64.wrap x = x) : x = ((x.toNat : Nat) : Int) := by
  have : 0 ≤ IntKind.u64.wrap x := by simp only [IntKind.wrap, IntKind.signed, IntKind.bits]; simp; omega
  omega

theorem opens_Sto {K} (h : Opens enc P W t (rP (rSl rOrm) (rP (rSl (rI .i64)) (rP (rI .u64) (rP (rI .u64) rUnit)))) K) : Opens enc P W t rSto (fun _ => True) := by
  refine h.by fun cs x hr _ => ?_
  obtain ⟨_, _, rfl, ⟨lv, rfl, h1⟩, _, _, rfl, ⟨mv, rfl, h2⟩, _, _, rfl, ⟨rfl, h3⟩, _, _, rfl, ⟨rfl, h4⟩, rfl⟩ := hr
  refine ⟨⟨x.1, x.2.1, x.2.2.1.toNat, x.2.2.2.1.toNat⟩, ⟨lv, mv, ?_, h1, h2⟩, trivial⟩
  show [lv] ++ ([mv] ++ ([.int .u64 x.2.2.1] ++ ([.int .u64 x.2.2.2.1] ++ []))) = [lv, mv, .int .u64 ((x.2.2.1.toNat : Nat) : Int), .int .u64 ((x.2.2.2.1.toNat : Nat) : Int)]
  rw [← u64_pos h3, ← u64_pos h4]; rfl

theorem okWide_arr {base n : Nat} {e : TypeId} {v : Value} (ht : P.underlying t = some (.array n e)) (h : Value.okWide P W .any base t v) : ∃ cs, v = .agg cs := by
  unfold Value.okWide at h
  rw [ht] at h
  obtain ⟨cs, rfl, _⟩ := h; exact ⟨cs, rfl⟩

/-- The cells of a listed table. -/
theorem tab_cells {W : World} {name : String} {g : Nat} {k : IntKind} {zs : List Int} (h : Lib.TabIs P W name k zs) (hg : P.globalNamed name = some g) : cellsAt W.heap g 0 zs.length = some (zs.map fun z => .int k z) := by
  unfold Lib.TabIs World.var? at h
  rw [hg] at h
  simp only [Option.bind_some] at h
  unfold cellsAt
  split at h
  · rename_i cs ty fr hb
    cases h
    rw [hb]
    simp only [List.size_toArray, List.length_map, Nat.zero_add, Nat.le_refl, if_true]
    rw [seg_all (by rw [List.length_map])]
  · cases h

end
end Go.Md
