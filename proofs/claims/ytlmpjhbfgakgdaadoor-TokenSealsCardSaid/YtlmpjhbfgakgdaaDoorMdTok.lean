/- SHA-256, in plain Lean. -/
import Derived.Test.YtlmpjhbfgakgdaaDoorAbArr
import Derived.Test.YtlmpjhbfgakgdaaDoorMdStash
import Derived.Test.YtlmpjhbfgakgdaaDoorMdConf
namespace Go.Md
open Go.Ab

abbrev W := BitVec 32
def ror (x : W) (n : Nat) : W := x >>> n ||| x <<< (32 - n)
def sg0 (x : W) : W := ror x 7 ^^^ ror x 18 ^^^ x >>> 3
def sg1 (x : W) : W := ror x 17 ^^^ ror x 19 ^^^ x >>> 10
def bg0 (x : W) : W := ror x 2 ^^^ ror x 13 ^^^ ror x 22
def bg1 (x : W) : W := ror x 6 ^^^ ror x 11 ^^^ ror x 25
def chV (e f g : W) : W := g ^^^ (e &&& (f ^^^ g))
def mjV (a b c : W) : W := (a &&& b) ||| (c &&& (a ||| b))
theorem ch_eq (e f g : W) : (e &&& f) ^^^ ((e ^^^ 4294967295#32) &&& g) = chV e f g := by
  unfold chV
  have hx : ∀ i, i < 32 → (4294967295#32).getLsbD i = true := by decide
  ext i hi
  have h1 := hx i hi
  simp only [← BitVec.getLsbD_eq_getElem, BitVec.getLsbD_xor, BitVec.getLsbD_and, h1]
  cases e.getLsbD i <;> cases f.getLsbD i <;> cases g.getLsbD i <;> rfl
theorem mj_eq (a b c : W) : (a &&& b) ^^^ (a &&& c) ^^^ (b &&& c) = mjV a b c := by
  unfold mjV
  ext i hi
  simp only [← BitVec.getLsbD_eq_getElem, BitVec.getLsbD_xor, BitVec.getLsbD_and, BitVec.getLsbD_or]
  cases a.getLsbD i <;> cases b.getLsbD i <;> cases c.getLsbD i <;> rfl

def kW : List W := [
  0x428a2f98, 0x71374491, 0xb5c0fbcf, 0xe9b5dba5, 0x3956c25b, 0x59f111f1, 0x923f82a4, 0xab1c5ed5,
  0xd807aa98, 0x12835b01, 0x243185be, 0x550c7dc3, 0x72be5d74, 0x80deb1fe, 0x9bdc06a7, 0xc19bf174,
  0xe49b69c1, 0xefbe4786, 0x0fc19dc6, 0x240ca1cc, 0x2de92c6f, 0x4a7484aa, 0x5cb0a9dc, 0x76f988da,
  0x983e5152, 0xa831c66d, 0xb00327c8, 0xbf597fc7, 0xc6e00bf3, 0xd5a79147, 0x06ca6351, 0x14292967,
  0x27b70a85, 0x2e1b2138, 0x4d2c6dfc, 0x53380d13, 0x650a7354, 0x766a0abb, 0x81c2c92e, 0x92722c85,
  0xa2bfe8a1, 0xa81a664b, 0xc24b8b70, 0xc76c51a3, 0xd192e819, 0xd6990624, 0xf40e3585, 0x106aa070,
  0x19a4c116, 0x1e376c08, 0x2748774c, 0x34b0bcb5, 0x391c0cb3, 0x4ed8aa4a, 0x5b9cca4f, 0x682e6ff3,
  0x748f82ee, 0x78a5636f, 0x84c87814, 0x8cc70208, 0x90befffa, 0xa4506ceb, 0xbef9a3f7, 0xc67178f2]
theorem kW_len : kW.length = 64 := by decide
def h0W : List W := [0x6a09e667, 0xbb67ae85, 0x3c6ef372, 0xa54ff53a, 0x510e527f, 0x9b05688c, 0x1f83d9ab, 0x5be0cd19]

/-- A word of four bytes. -/
def wd (l : List UInt8) : W := l.foldl (fun x c => x <<< 8 ||| bw c) 0#32
theorem wd_four (a b c d : UInt8) : bw a <<< 24 ||| bw b <<< 16 ||| bw c <<< 8 ||| bw d = wd [a, b, c, d] := by
  simp only [wd, List.foldl_cons, List.foldl_nil, BitVec.shiftLeft_or_distrib, ← BitVec.shiftLeft_add, BitVec.zero_shiftLeft, BitVec.zero_or]
theorem wd_snoc (l : List UInt8) (c : UInt8) : wd (l ++ [c]) = wd l <<< 8 ||| bw c := by simp [wd]
/-- The words of a block. -/
def sw (b : List UInt8) (t : Nat) : W :=
  if h : t < 16 then wd ((b.drop (4 * t)).take 4) else sw b (t - 16) + sg0 (sw b (t - 15)) + sw b (t - 7) + sg1 (sw b (t - 2))
  termination_by t
theorem sw_lo {b : List UInt8} {t : Nat} (h : t < 16) : sw b t = wd ((b.drop (4 * t)).take 4) := by rw [sw, dif_pos h]
theorem sw_hi {b : List UInt8} {t : Nat} (h : ¬ t < 16) : sw b t = sw b (t - 16) + sg0 (sw b (t - 15)) + sw b (t - 7) + sg1 (sw b (t - 2)) := by rw [sw, dif_neg h]
def swL (b : List UInt8) : List W := (List.range 64).map (sw b)
theorem swL_len {b : List UInt8} : (swL b).length = 64 := by simp [swL]
theorem swL_get {b : List UInt8} {t : Nat} (h : t < 64) : (swL b)[t]? = some (sw b t) := by simp [swL, h]

/-- A round. -/
def rnd (s : List W) (k w : W) : List W :=
  match s with
  | [a, b, c, d, e, f, g, h] => [(h + bg1 e + chV e f g + k + w) + (bg0 a + mjV a b c), a, b, c, d + (h + bg1 e + chV e f g + k + w), e, f, g]
  | s => s
theorem rnd_len {s : List W} {k w : W} (h : s.length = 8) : (rnd s k w).length = 8 := by
  unfold rnd; split
  · rfl
  · exact h
def rst (h : List W) (b : List UInt8) : Nat → List W
  | 0 => h
  | t + 1 => rnd (rst h b t) (kW.getD t 0) (sw b t)
theorem rst_len {h : List W} {b : List UInt8} (hl : h.length = 8) : ∀ t, (rst h b t).length = 8
  | 0 => hl
  | t + 1 => rnd_len (rst_len hl t)
theorem eight {α : Type} {l : List α} (h : l.length = 8) : ∃ a b c d e f g i, l = [a, b, c, d, e, f, g, i] := by
  match l, h with
  | [a, b, c, d, e, f, g, i], _ => exact ⟨a, b, c, d, e, f, g, i, rfl⟩
def turnW (h : List W) (b : List UInt8) : List W := (List.range 8).map fun i => h.getD i 0 + (rst h b 64).getD i 0
theorem turnW_len {h : List W} {b : List UInt8} : (turnW h b).length = 8 := by simp [turnW]

/-- All whole blocks, and what is left. -/
def comeW (h : List W) (l : List UInt8) : List W × List UInt8 :=
  if l.length < 64 then (h, l) else comeW (turnW h (l.take 64)) (l.drop 64)
  termination_by l.length
  decreasing_by rw [List.length_drop]; omega
theorem comeW_lo {h : List W} {l : List UInt8} (hl : l.length < 64) : comeW h l = (h, l) := by rw [comeW, if_pos hl]
theorem comeW_hi {h : List W} {l : List UInt8} (hl : ¬ l.length < 64) : comeW h l = comeW (turnW h (l.take 64)) (l.drop 64) := by rw [comeW, if_neg hl]
theorem comeW_len : ∀ (n : Nat) (h : List W) (l : List UInt8), l.length = n → h.length = 8 → (comeW h l).1.length = 8 ∧ (comeW h l).2.length = l.length % 64 := by
  intro n
  induction n using Nat.strongRecOn with
  | ind n ih =>
    intro h l hl hh
    by_cases c : l.length < 64
    · rw [comeW_lo c]; exact ⟨hh, (Nat.mod_eq_of_lt c).symm⟩
    · rw [comeW_hi c]
      have := ih (l.drop 64).length (by rw [List.length_drop]; omega) (turnW h (l.take 64)) (l.drop 64) rfl turnW_len
      refine ⟨this.1, this.2.trans ?_⟩
      rw [List.length_drop]; omega
theorem comeW_len1 {h : List W} {l : List UInt8} (hh : h.length = 8) : (comeW h l).1.length = 8 := (comeW_len _ h l rfl hh).1
theorem comeW_len2 {h : List W} {l : List UInt8} (hh : h.length = 8) : (comeW h l).2.length = l.length % 64 := (comeW_len _ h l rfl hh).2

/-- How many noughts are put behind so many bytes and 128. -/
def padN (r : Nat) : Nat := (119 - r % 64) % 64
def bigB (n i : Nat) : UInt8 := UInt8.ofNat (n / 2 ^ (56 - 8 * i))
def padL (r n : Nat) : List UInt8 := 128 :: List.replicate (padN r) 0 ++ (List.range 8).map (bigB n)
def outB (h : List W) (i : Nat) : UInt8 := UInt8.ofNat ((h.getD (i / 4) 0).toNat / 2 ^ (24 - 8 * (i % 4)))
def outL (h : List W) : List UInt8 := (List.range 32).map (outB h)
/-- The digest of what is under way. -/
def endL (h : List W) (rest : List UInt8) (many : Nat) : List UInt8 := outL (comeW h (rest ++ padL rest.length (8 * many))).1
def shaL (l : List UInt8) : List UInt8 := endL (comeW h0W l).1 (comeW h0W l).2 l.length
theorem outL_len {h : List W} : (outL h).length = 32 := by simp [outL]
theorem shaL_len {l : List UInt8} : (shaL l).length = 32 := outL_len
theorem padL_len {r n : Nat} : (padL r n).length = 9 + padN r := by simp [padL]; omega
theorem padL_all {r n : Nat} : (r + (padL r n).length) % 64 = 0 := by rw [padL_len]; unfold padN; omega

def leB (k n : Nat) : List UInt8 := (List.range k).map fun j => UInt8.ofNat (n / 256 ^ j)
theorem leB_len {k n : Nat} : (leB k n).length = k := by simp [leB]
def putX (l sz : List Nat) : List (List UInt8) := List.zipWith (fun n k => leB k n) l sz
def putL (l sz : List Nat) : List UInt8 := (putX l sz).flatten
theorem putX_get {l sz : List Nat} {i : Nat} {n k : Nat} (h1 : l[i]? = some n) (h2 : sz[i]? = some k) : (putX l sz)[i]? = some (leB k n) := by
  unfold putX; rw [List.getElem?_zipWith, h1, h2]

/-- A slot with a block; the positions' bytes. -/
def slotB (b : Blk) : List UInt8 := leB 4 (b.id + 1).toNat ++ leB 4 b.leaf.toNat ++ b.data
theorem slotB_len {b : Blk} : (slotB b).length = 8 + b.data.length := by simp [slotB, leB_len]; omega
theorem putL_2 {a b : Nat} : putL [a, b] [4, 4] = leB 4 a ++ leB 4 b := by simp [putL, putX]
theorem putL_1 {a : Nat} : putL [a] [4] = leB 4 a := by simp [putL, putX]

/-- What is trusted of a level; a store. -/
structure Orm where
  root : List UInt8
  stash : List Blk
  deriving DecidableEq, Inhabited
def cOrm (x : Orm) (w : Value) : List Value := x.root.map b8 ++ [w]
theorem cOrm_len {x : Orm} {w : Value} (h : x.root.length = 32) : (cOrm x w).length = 33 := by simp [cOrm, h]
theorem cOrm_ok {x : Orm} {w : Value} (h : okc w = true) : (cOrm x w).all okc = true := by
  unfold cOrm; rw [List.all_append, ok_bytes]; simp only [List.all_cons, h, List.all_nil, Bool.and_true]
theorem cOrm_32 {x : Orm} {w : Value} (h : x.root.length = 32) : (cOrm x w)[32]? = some w := by
  unfold cOrm; rw [List.getElem?_append_right (by rw [List.length_map]; omega)]; simp [h]
def rOrm : Rep Orm where
  n := 33
  rel := fun H A cs x => ∃ w, cs = cOrm x w ∧ x.root.length = 32 ∧ Sl rBlk H A w x.stash
  len := by rintro _ _ _ _ ⟨w, rfl, h, _⟩; exact cOrm_len h
  okc := by rintro _ _ _ _ ⟨w, rfl, _, h⟩; exact cOrm_ok h.okcv
  fr := by rintro _ _ _ _ _ _ ⟨w, rfl, h1, h⟩ hb; exact ⟨w, rfl, h1, h.fr hb⟩
structure Sto where
  levels : List Orm
  map : List Int
  next : Nat
  ticks : Nat
  deriving DecidableEq

def lastL (c : Cfg) : Lvl := c.all.getLast?.getD ⟨0, 0, 0, 0⟩
/-- May a store be? -/
def stoMay (c : Cfg) (s : Sto) : Prop :=
  c.may ∧ (s.levels.length = c.all.length ∧ (s.map.length : Int) = (lastL c).blocks) ∧
    (∀ (i : Nat) l o, c.all[i]? = some l → s.levels[i]? = some o → stMay l o.stash = true) ∧ ∀ n ∈ s.map, 0 ≤ n ∧ n ≤ many (lastL c).high

theorem Cfg.allF_form {c : Cfg} (h : c.num) : ∀ (f : Nat) (n size : Int), (1 ≤ n ∧ n ≤ 64) → (1 ≤ size ∧ size ≤ 32) → ∀ l ∈ c.allF f n size, ∃ n' size', (1 ≤ n' ∧ n' ≤ 64) ∧ (1 ≤ size' ∧ size' ≤ 32) ∧ l = c.level n' size'
  | 0, n, size, hn, hs, l, hl => by cases hl
  | f + 1, n, size, hn, hs, l, hl => by
    unfold allF at hl
    rcases List.mem_cons.1 hl with rfl | hl
    · exact ⟨n, size, hn, hs, rfl⟩
    · split at hl
      · cases hl
      · have := next_le (n := n) h.2.2.1.1 hn.1
        exact allF_form h f _ _ ⟨this.1, by omega⟩ ⟨by have := h.2.2.1.1; omega, by have := h.2.2.1.2; omega⟩ l hl
theorem Cfg.all_pos {c : Cfg} (h : c.num) : 0 < c.all.length := by
  unfold Cfg.all
  rw [Cfg.allF_step h h.1.1 h.1.2]; simp
theorem lastL_get {c : Cfg} (h : c.num) : c.all[c.all.length - 1]? = some (lastL c) := by
  have := Cfg.all_pos h
  unfold lastL
  rw [List.getLast?_eq_getElem?, List.getElem?_eq_getElem (by omega)]; rfl
theorem lastL_ok {c : Cfg} (h : c.num) : (lastL c).ok := Cfg.all_ok h _ (List.mem_of_getElem? (lastL_get h))
theorem Cfg.all_slots {c : Cfg} (h : c.num) {l : Lvl} (hl : l ∈ c.all) : 1 ≤ slotsL l := by
  obtain ⟨n, size, hn, hs, rfl⟩ := Cfg.allF_form h 64 _ _ h.1 h.2.1 l hl
  have hh := high_ge n
  have hm : n ≤ many (high n) := by
    rw [many_val hh.1 hh.2]
    unfold high
    repeat' split
    all_goals omega
  have h4 := h.2.2.2.1
  unfold slotsL
  rw [if_pos ⟨hn, hs, hh, hm⟩]
  show 1 ≤ if c.slots * (8 + size) + 64 = 1 * (8 + size) + 64 then (1 : Int) else if c.slots * (8 + size) + 64 = 2 * (8 + size) + 64 then 2 else if c.slots * (8 + size) + 64 = 3 * (8 + size) + 64 then 3 else if c.slots * (8 + size) + 64 = 4 * (8 + size) + 64 then 4 else 0
  have : c.slots = 1 ∨ c.slots = 2 ∨ c.slots = 3 ∨ c.slots = 4 := by omega
  rcases this with e | e | e | e <;> rw [e] <;> repeat' split
  all_goals omega

/-! ### Tokens -/
def zrs (n : Nat) : List UInt8 := List.replicate n 0
theorem zrs_add {a b : Nat} : zrs a ++ zrs b = zrs (a + b) := by unfold zrs; exact List.replicate_append_replicate
theorem zrs_len {a : Nat} : (zrs a).length = a := List.length_replicate
def one (l : Lvl) : Nat := (8 + l.size).toNat
def slotsB (s : List Blk) : List UInt8 := (s.map slotB).flatten
/-- A level's bytes, with so many of its places. -/
def levP (l : Lvl) (o : Orm) (n : Nat) : List UInt8 := o.root ++ slotsB (o.stash.take n) ++ zrs (one l * (n - o.stash.length))
def levB (c : Cfg) (l : Lvl) (o : Orm) : List UInt8 := levP l o c.stash.toNat
def levX (c : Cfg) (s : Sto) : List (List UInt8) := List.zipWith (levB c) c.all s.levels
def mapX (s : Sto) : List (List UInt8) := s.map.map fun n => leB 4 n.toNat
def bodyV (c : Cfg) (s : Sto) : List UInt8 := (levX c s).flatten ++ (mapX s).flatten
def sealV (c : Cfg) (k : List UInt8) (s : Sto) : List UInt8 := bodyV c s ++ shaL (k ++ bodyV c s)
theorem slotsB_snoc {s : List Blk} {j : Nat} {b : Blk} (h : s[j]? = some b) : slotsB (s.take (j + 1)) = slotsB (s.take j) ++ slotB b := by
  unfold slotsB; rw [List.take_add_one, h, List.map_append, List.flatten_append]; simp
theorem slotsB_len {s : List Blk} (h : ∀ b ∈ s, b.data.length ≤ 100) : (slotsB s).length ≤ 108 * s.length := by
  induction s with
  | nil => simp [slotsB]
  | cons b s ih =>
    have h1 := h b List.mem_cons_self
    have h2 := ih fun b hb => h b (List.mem_cons_of_mem _ hb)
    unfold slotsB at *
    rw [List.map_cons, List.flatten_cons, List.length_append, slotB_len, List.length_cons]; omega
theorem levP_lo {l : Lvl} {o : Orm} {n : Nat} {b : Blk} (h : o.stash[n]? = some b) : levP l o (n + 1) = levP l o n ++ slotB b := by
  have hn := (List.getElem?_eq_some_iff.1 h).1
  unfold levP
  rw [slotsB_snoc h, show n + 1 - o.stash.length = 0 by omega, show n - o.stash.length = 0 by omega]
  simp [zrs]
theorem levP_hi {l : Lvl} {o : Orm} {n : Nat} (h : o.stash.length ≤ n) : levP l o (n + 1) = levP l o n ++ zrs (one l) := by
  unfold levP
  rw [List.take_of_length_le (by omega), List.take_of_length_le h, List.append_assoc, List.append_assoc, List.append_assoc, zrs_add, show n + 1 - o.stash.length = (n - o.stash.length) + 1 by omega, Nat.mul_add, Nat.mul_one]
theorem levP_all {l : Lvl} {o : Orm} {n : Nat} (h : o.stash.length ≤ n) : levP l o n = o.root ++ slotsB o.stash ++ zrs (one l * (n - o.stash.length)) := by
  unfold levP; rw [List.take_of_length_le h]
theorem levP_len {l : Lvl} {o : Orm} {n : Nat} (hr : o.root.length = 32) (hs : o.stash.length ≤ 60) (hd : ∀ b ∈ o.stash, b.data.length ≤ 100) (hl : one l ≤ 40) (hn : n ≤ 64) : (levP l o n).length ≤ 9100 := by
  unfold levP
  have h1 := slotsB_len (s := o.stash.take n) fun b hb => hd b (List.mem_of_mem_take hb)
  have h2 : (o.stash.take n).length ≤ o.stash.length := by rw [List.length_take]; omega
  have h3 : one l * (n - o.stash.length) ≤ 40 * 64 := Nat.mul_le_mul hl (by omega)
  rw [List.length_append, List.length_append, zrs_len, hr]; omega
theorem levX_get {c : Cfg} {s : Sto} {i : Nat} {l : Lvl} {o : Orm} (h1 : c.all[i]? = some l) (h2 : s.levels[i]? = some o) : (levX c s)[i]? = some (levB c l o) := by
  unfold levX; rw [List.getElem?_zipWith, h1, h2]
theorem mapX_get {s : Sto} {i : Nat} {n : Int} (h : s.map[i]? = some n) : (mapX s)[i]? = some (leB 4 n.toNat) := by
  unfold mapX; rw [List.getElem?_map, h]; rfl
theorem mapX_len {s : Sto} : (mapX s).length = s.map.length := by simp [mapX]
theorem mapX_flat {s : Sto} : ∀ i, ((mapX s).take i).flatten.length ≤ 4 * i := by
  intro i
  unfold mapX
  rw [← List.map_take]
  have : ∀ l : List Int, (l.map fun n => leB 4 n.toNat).flatten.length = 4 * l.length := by
    intro l
    induction l with
    | nil => rfl
    | cons x l ih => rw [List.map_cons, List.flatten_cons, List.length_append, leB_len, ih, List.length_cons]; omega
  rw [this, List.length_take]; omega

/-- What comes of sealing. -/
def sealR (c : Cfg) (k : List UInt8) (s : Sto) (e : Int) (v : List UInt8) : Prop :=
  (¬ stoMay c s ∧ e = 8 ∧ v = []) ∨ (stoMay c s ∧ (∃ o ∈ s.levels, (o.stash.length : Int) > c.stash) ∧ e = 4 ∧ v = []) ∨
    (stoMay c s ∧ (∀ o ∈ s.levels, (o.stash.length : Int) ≤ c.stash) ∧ e = 0 ∧ v = sealV c k s)
theorem sealR_one {c : Cfg} {k : List UInt8} {s : Sto} {e e' : Int} {v v' : List UInt8} (h : sealR c k s e v) (h' : sealR c k s e' v') : e = e' ∧ v = v' := by
  rcases h with ⟨h1, rfl, rfl⟩ | ⟨h1, ⟨o, ho, hlt⟩, rfl, rfl⟩ | ⟨h1, h2, rfl, rfl⟩ <;> rcases h' with ⟨h1', rfl, rfl⟩ | ⟨h1', ⟨o', ho', hlt'⟩, rfl, rfl⟩ | ⟨h1', h2', rfl, rfl⟩
  · exact ⟨rfl, rfl⟩
  · exact absurd h1' h1
  · exact absurd h1' h1
  · exact absurd h1 h1'
  · exact ⟨rfl, rfl⟩
  · have := h2' o ho; omega
  · exact absurd h1 h1'
  · have := h2 o' ho'; omega
  · exact ⟨rfl, rfl⟩

end Go.Md
