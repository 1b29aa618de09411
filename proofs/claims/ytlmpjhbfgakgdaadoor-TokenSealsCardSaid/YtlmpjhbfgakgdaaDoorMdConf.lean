/- Trees of buckets, configs and their levels, in plain Lean. -/
import Derived.Test.YtlmpjhbfgakgdaaDoorAbData
namespace Go.Md
open Go.Ab
set_option linter.unusedVariables false
set_option linter.unusedSimpArgs false

structure Cfg where
  pages : Int
  size : Int
  fan : Int
  slots : Int
  stash : Int
  frames : Int
  clients : Int
  queue : Int
  top : Int
  deriving DecidableEq

structure Lvl where
  blocks : Int
  size : Int
  high : Int
  width : Int
  deriving DecidableEq

abbrev cCfg (c : Cfg) : List Value := [.int .i64 c.pages, .int .i64 c.size, .int .i64 c.fan, .int .i64 c.slots, .int .i64 c.stash, .int .i64 c.frames, .int .i64 c.clients, .int .i64 c.queue, .int .i64 c.top]
abbrev cLvl (l : Lvl) : List Value := [.int .i64 l.blocks, .int .i64 l.size, .int .i64 l.high, .int .i64 l.width]
/-- A level whose numbers are small. -/
def Lvl.ok (l : Lvl) : Prop := 1 ≤ l.blocks ∧ l.blocks ≤ 64 ∧ 1 ≤ l.size ∧ l.size ≤ 32 ∧ 1 ≤ l.high ∧ l.high ≤ 6 ∧ 64 ≤ l.width ∧ l.width ≤ 224
def rLvl : Rep Lvl := .flat 4 cLvl Lvl.ok

def highE (h : Int) : Int := if h < 1 ∨ h > 6 then 2 else 0

def Cfg.num (c : Cfg) : Prop := (1 ≤ c.pages ∧ c.pages ≤ 64) ∧ (1 ≤ c.size ∧ c.size ≤ 32) ∧ (2 ≤ c.fan ∧ c.fan ≤ 8) ∧ (1 ≤ c.slots ∧ c.slots ≤ 4) ∧ (1 ≤ c.stash ∧ c.stash ≤ 64) ∧ (1 ≤ c.frames ∧ c.frames ≤ 8) ∧
  (1 ≤ c.clients ∧ c.clients ≤ 4) ∧ (1 ≤ c.queue ∧ c.queue ≤ 16) ∧ (1 ≤ c.top ∧ c.top ≤ 16)
instance (c : Cfg) : Decidable c.num := by unfold Cfg.num; infer_instance

/-- The height for so many blocks. -/
def high (n : Int) : Int := if n ≤ 2 then 1 else if n ≤ 4 then 2 else if n ≤ 8 then 3 else if n ≤ 16 then 4 else if n ≤ 32 then 5 else 6
theorem high_ge (n : Int) : 1 ≤ high n ∧ high n ≤ 6 := by
  unfold high
  repeat' split
  all_goals omega

def Cfg.level (c : Cfg) (n size : Int) : Lvl := ⟨n, size, high n, c.slots * (8 + size) + 64⟩

def Cfg.allF (c : Cfg) : Nat → Int → Int → List Lvl
  | 0, _, _ => []
  | f + 1, n, size => c.level n size :: if n ≤ c.top then [] else c.allF f ((n + c.fan - 1).tdiv c.fan) (4 * c.fan)
/-- The levels of a config whose numbers may be. -/
def Cfg.all (c : Cfg) : List Lvl := c.allF 64 c.pages c.size

def Cfg.may (c : Cfg) : Prop := c.num ∧ c.all.length ≤ 4
instance (c : Cfg) : Decidable c.may := by unfold Cfg.may; infer_instance
def Cfg.levels (c : Cfg) : List Lvl := if c.may then c.all else []
def Cfg.err (c : Cfg) : Int := if c.may then 0 else 8

theorem next_le {n f : Int} (hf : 2 ≤ f) (hn : 1 ≤ n) : 1 ≤ (n + f - 1).tdiv f ∧ (n + f - 1).tdiv f ≤ n ∧ (2 ≤ n → (n + f - 1).tdiv f < n) := by
  have h0 : 0 ≤ n + f - 1 := by omega
  rw [Int.tdiv_eq_ediv_of_nonneg h0]
  refine ⟨?_, ?_, fun h2 => ?_⟩
  · rw [Int.le_ediv_iff_mul_le (by omega)]; omega
  · have : (n + f - 1) / f < n + 1 := by
      rw [Int.ediv_lt_iff_lt_mul (by omega)]
      have : 2 * n ≤ n * f := by rw [Int.mul_comm]; exact Int.mul_le_mul_of_nonneg_left hf (by omega)
      rw [Int.add_mul]; omega
    omega
  · rw [Int.ediv_lt_iff_lt_mul (by omega)]
    have h1 : (n - 1) * (f - 1) ≥ 1 * 1 := Int.mul_le_mul (by omega) (by omega) (by omega) (by omega)
    have e : (n - 1) * (f - 1) = n * f - n - f + 1 := by rw [Int.sub_mul, Int.mul_sub, Int.mul_sub]; omega
    omega

theorem Cfg.level_ok {c : Cfg} (h : c.num) {n size : Int} (hn : 1 ≤ n ∧ n ≤ 64) (hs : 1 ≤ size ∧ size ≤ 32) : (c.level n size).ok := by
  obtain ⟨_, _, _, ⟨h1, h2⟩, _⟩ := h
  have hh := high_ge n
  have e1 : 0 ≤ c.slots * (8 + size) := Int.mul_nonneg (by omega) (by omega)
  have e2 : c.slots * (8 + size) ≤ 4 * 40 := Int.mul_le_mul (by omega) (by omega) (by omega) (by omega)
  exact ⟨hn.1, hn.2, hs.1, hs.2, hh.1, hh.2, by show 64 ≤ c.slots * (8 + size) + 64; omega, by show c.slots * (8 + size) + 64 ≤ 224; omega⟩

theorem Cfg.allF_ok {c : Cfg} (h : c.num) : ∀ (f : Nat) (n size : Int), (1 ≤ n ∧ n ≤ 64) → (1 ≤ size ∧ size ≤ 32) → ∀ l ∈ c.allF f n size, l.ok
  | 0, n, size, hn, hs, l, hl => by cases hl
  | f + 1, n, size, hn, hs, l, hl => by
    unfold allF at hl
    rcases List.mem_cons.1 hl with rfl | hl
    · exact level_ok h hn hs
    · split at hl
      · cases hl
      · have := next_le (n := n) h.2.2.1.1 hn.1
        exact allF_ok h f _ _ ⟨this.1, by omega⟩ ⟨by have := h.2.2.1.1; omega, by have := h.2.2.1.2; omega⟩ l hl
theorem Cfg.all_ok {c : Cfg} (h : c.num) : ∀ l ∈ c.all, l.ok := allF_ok h 64 _ _ h.1 h.2.1

theorem Cfg.allF_fuel {c : Cfg} (h : c.num) : ∀ (f g : Nat) (n size : Int), 1 ≤ n → n ≤ f → n ≤ g → c.allF f n size = c.allF g n size
  | 0, _, n, _, h1, h2, _ => by omega
  | _ + 1, 0, n, _, h1, _, h3 => by omega
  | f + 1, g + 1, n, size, h1, h2, h3 => by
    have ht := h.2.2.2.2.2.2.2.2.1
    unfold allF
    congr 1
    split
    · rfl
    · have := next_le (n := n) h.2.2.1.1 h1
      have := this.2.2 (by omega)
      exact allF_fuel h f g _ _ (by omega) (by omega) (by omega)

theorem Cfg.allF_step {c : Cfg} (h : c.num) {n size : Int} (h1 : 1 ≤ n) (h2 : n ≤ 64) :
    c.allF 64 n size = c.level n size :: if n ≤ c.top then [] else c.allF 64 ((n + c.fan - 1).tdiv c.fan) (4 * c.fan) := by
  have ht := h.2.2.2.2.2.2.2.2.1
  conv => lhs; unfold allF
  congr 1
  split
  · rfl
  · have := next_le (n := n) h.2.2.1.1 h1
    have := this.2.2 (by omega)
    exact allF_fuel h 63 64 _ _ (by omega) (by omega) (by omega)

theorem Cfg.allF_len {c : Cfg} : ∀ (f : Nat) (n size : Int), (c.allF f n size).length ≤ f
  | 0, _, _ => by simp [allF]
  | f + 1, n, size => by
    unfold allF
    split
    · simp
    · simpa using allF_len f _ _
theorem Cfg.all_len (c : Cfg) : c.all.length ≤ 64 := allF_len 64 _ _

/-- 2 to a height. -/
def many (h : Int) : Int := 2 ^ h.toNat

theorem many_val {h : Int} (h1 : 1 ≤ h) (h2 : h ≤ 6) : many h = if h = 1 then 2 else if h = 2 then 4 else if h = 3 then 8 else if h = 4 then 16 else if h = 5 then 32 else 64 := by
  have : h = 1 ∨ h = 2 ∨ h = 3 ∨ h = 4 ∨ h = 5 ∨ h = 6 := by omega
  rcases this with rfl | rfl | rfl | rfl | rfl | rfl <;> rfl

theorem many_bound {h : Int} (h1 : 1 ≤ h) (h2 : h ≤ 6) : 2 ≤ many h ∧ many h ≤ 64 := by
  rw [many_val h1 h2]; repeat' split
  all_goals omega

end Go.Md
