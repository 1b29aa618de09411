/- Canonical traces in plain Lean: what is read and written together, in turns. -/
import Derived.Test.YtlalkgkicccjiaaMdDev
import Derived.Test.YtlalkgkicccjiaaMdGeo
namespace Go.Md
open Go.Ab
set_option linter.unusedVariables false
set_option linter.unusedSimpArgs false

/-- Buckets of a level that are read (1) or written (2) together. -/
structure Turn where
  kind : Int
  level : Nat
  at' : List Int

/-- All buckets of a level, the last one first. -/
def downL (n : Nat) : List Int := (List.range n).map fun b => ((n - b : Nat) : Int)
/-- The levels' numbers, the last one first. -/
def backL {α : Type} (l : List α) : List (Nat × α) := ((List.range l.length).zip l).reverse
/-- A path is read, and written, upwards. -/
def pathT (i : Nat) (way : List Int) : List Turn := [⟨1, i, way⟩, ⟨2, i, way.reverse⟩]
def fillT (l : List Lvl) : List Turn := (backL l).map fun p => ⟨2, p.1, downL (2 * many p.2.high - 1).toNat⟩
/-- A tick of a level: by its cell, and by the tick turned round. -/
def levelT (cells : List (List Int)) (t : Nat) (p : Nat × Lvl) : List Turn :=
  pathT p.1 (wayL p.2.high ((((cells.getD p.1 []).getD (2 * t) 0).toNat % 2 ^ p.2.high.toNat : Nat) : Int)) ++ pathT p.1 (wayL p.2.high (turnN p.2.high.toNat t : Nat))
def tickT (l : List Lvl) (cells : List (List Int)) (t : Nat) : List Turn := (backL l).flatMap (levelT cells t)
def allT (l : List Lvl) (cells : List (List Int)) (ticks : Nat) : List Turn := fillT l ++ (List.range ticks).flatMap (tickT l cells)

/-- What has been done: the device, the texts that are left, what was seen. -/
def runT : List Turn → Dv × List By × List See → Dv × List By × List See
  | [], s => s
  | t :: r, (d, rest, sees) =>
    if t.kind = 1 then runT r (d, rest, sees ++ seesR d t.level t.at')
    else runT r (putAll d t.level t.at' (rest.take t.at'.length), rest.drop t.at'.length, sees ++ seesW t.level t.at' (rest.take t.at'.length))

/-! ### Where a turn stands -/

theorem flat_get {α β : Type} {n : Nat} (f : α → List β) : ∀ (l : List α), (∀ a ∈ l, (f a).length = n) → ∀ {i j : Nat} {a : α}, l[i]? = some a → j < n → (l.flatMap f)[n * i + j]? = (f a)[j]?
  | a :: l, h, 0, j, b, hi, hj => by
    simp at hi; subst hi
    rw [List.flatMap_cons, List.getElem?_append_left (by rw [h a (by simp)]; omega), Nat.mul_zero, Nat.zero_add]
  | a :: l, h, i + 1, j, b, hi, hj => by
    have e : n * (i + 1) = n * i + n := Nat.mul_succ n i
    rw [List.flatMap_cons, List.getElem?_append_right (by rw [h a (by simp)]; omega), h a (by simp), show n * (i + 1) + j - n = n * i + j by omega]
    exact flat_get f l (fun b hb => h b (by simp [hb])) (by simpa using hi) hj
theorem flat_len {α β : Type} {n : Nat} (f : α → List β) : ∀ (l : List α), (∀ a ∈ l, (f a).length = n) → (l.flatMap f).length = n * l.length
  | [], _ => by simp
  | a :: l, h => by
    rw [List.flatMap_cons, List.length_append, h a (by simp), flat_len f l (fun b hb => h b (by simp [hb])), List.length_cons, Nat.mul_succ, Nat.add_comm]
theorem backL_get {α : Type} {l : List α} {i : Nat} (h : i < l.length) : (backL l)[i]? = some (l.length - 1 - i, l[l.length - 1 - i]'(by omega)) := by
  unfold backL
  rw [List.getElem?_reverse (by simp; omega), List.getElem?_zip_eq_some]
  simp only [List.length_zip, List.length_range, Nat.min_self]
  exact ⟨by rw [List.getElem?_range (by omega)], List.getElem?_eq_getElem _⟩
theorem backL_len {α : Type} {l : List α} : (backL l).length = l.length := by unfold backL; simp
theorem fillT_len {l : List Lvl} : (fillT l).length = l.length := by unfold fillT; rw [List.length_map, backL_len]
theorem levelT_len {cells : List (List Int)} {t : Nat} {p : Nat × Lvl} : (levelT cells t p).length = 4 := rfl
theorem tickT_len {l : List Lvl} {cells : List (List Int)} {t : Nat} : (tickT l cells t).length = 4 * l.length := by
  unfold tickT; rw [flat_len _ _ fun _ _ => levelT_len, backL_len]
theorem allT_len {l : List Lvl} {cells : List (List Int)} {ticks : Nat} : (allT l cells ticks).length = l.length + 4 * l.length * ticks := by
  unfold allT; rw [List.length_append, fillT_len, flat_len _ _ fun _ _ => tickT_len, List.length_range]
theorem allT_fill {l : List Lvl} {cells : List (List Int)} {ticks i : Nat} {p : Nat × Lvl} (h : (backL l)[i]? = some p) : (allT l cells ticks)[i]? = some ⟨2, p.1, downL (2 * many p.2.high - 1).toNat⟩ := by
  have := (List.getElem?_eq_some_iff.1 h).1
  rw [backL_len] at this
  unfold allT
  rw [List.getElem?_append_left (by rw [fillT_len]; exact this)]
  unfold fillT
  rw [List.getElem?_map, h]; rfl
theorem allT_tick {l : List Lvl} {cells : List (List Int)} {ticks t i j : Nat} {p : Nat × Lvl} (ht : t < ticks) (h : (backL l)[i]? = some p) (hj : j < 4) : (allT l cells ticks)[l.length + (4 * l.length * t + (4 * i + j))]? = (levelT cells t p)[j]? := by
  have := (List.getElem?_eq_some_iff.1 h).1
  rw [backL_len] at this
  unfold allT
  rw [List.getElem?_append_right (by rw [fillT_len]; omega), fillT_len, Nat.add_sub_cancel_left]
  rw [flat_get (n := 4 * l.length) _ _ (fun _ _ => tickT_len) (List.getElem?_range ht) (by omega)]
  unfold tickT
  exact flat_get _ _ (fun _ _ => levelT_len) h hj

/-! ### Numbers in eight bytes -/

def leN : By → Nat
  | [] => 0
  | b :: r => b.toNat + 256 * leN r
def numB (bs : By) : Nat := leN (bs.take 8)
theorem leN_lt : ∀ l : By, leN l < 256 ^ l.length
  | [] => by simp [leN]
  | b :: r => by
    have := leN_lt r
    have hb := b.toNat_lt
    rw [List.length_cons, Nat.pow_succ]
    unfold leN
    omega
theorem leN_snoc : ∀ (l : By) (b : UInt8), leN (l ++ [b]) = leN l + 256 ^ l.length * b.toNat
  | [], b => by simp [leN]
  | c :: r, b => by
    rw [List.cons_append]
    unfold leN
    rw [leN_snoc r b, List.length_cons, Nat.pow_succ, Nat.mul_add]
    have : 256 * (256 ^ r.length * b.toNat) = 256 ^ r.length * 256 * b.toNat := by rw [Nat.mul_comm (256 ^ r.length) 256, Nat.mul_assoc]
    omega
theorem numB_lt {bs : By} : numB bs < 18446744073709551616 := by
  have h := leN_lt (bs.take 8)
  have : (256 : Nat) ^ (bs.take 8).length ≤ 256 ^ 8 := Nat.pow_le_pow_right (by omega) (by rw [List.length_take]; omega)
  unfold numB
  omega

/-! ### How many texts there are -/

def firstI (l : List Lvl) : Int := (l.map fun x => 2 * many x.high - 1).sum
def tickI (l : List Lvl) : Int := (l.map fun x => 2 * (x.high + 1)).sum
def cntE (c : Cfg) (ticks : Int) : Int := if c.may then (if ticks < 0 ∨ ticks > 512 then 4 else 0) else 8
def cntV (c : Cfg) (ticks : Int) : Int := if cntE c ticks = 0 then firstI c.all + tickI c.all * ticks else 0

theorem first_bound : ∀ {l : List Lvl}, (∀ x ∈ l, x.ok) → 0 ≤ firstI l ∧ firstI l ≤ 127 * l.length ∧ 0 ≤ tickI l ∧ tickI l ≤ 14 * l.length
  | [], _ => by simp [firstI, tickI]
  | x :: l, h => by
    have ih := first_bound (l := l) fun y hy => h y (by simp [hy])
    obtain ⟨_, _, _, _, o1, o2, _, _⟩ := h x (by simp)
    have hm := many_bound o1 o2
    simp only [firstI, tickI, List.map_cons, List.sum_cons, List.length_cons] at *
    omega

/-! ### Which texts may be -/

def wrT (t : Turn) : List Nat := if t.kind = 1 then [] else t.at'.map fun _ => t.level
def wrL (T : List Turn) : List Nat := T.flatMap wrT
def okT (l : List Lvl) (all : List By) (k lev : Nat) : Prop := ∃ x, l[lev]? = some x ∧ ((all.getD k []).length : Int) = 8 + x.width ∧ numB (all.getD k []) = k
def fitP (l : List Lvl) (all : List By) (ws : List Nat) : Prop := ∀ (k lev : Nat), ws[k]? = some lev → okT l all k lev
/-- Are there two cells for each tick of each level? -/
def CellsOk (l : List Lvl) (cells : List (List Int)) (ticks : Nat) : Prop := cells.length = l.length ∧ ∀ x ∈ cells, x.length = 2 * ticks
def fitV (l : List Lvl) (cells : List (List Int)) (all : List By) (ticks : Nat) : Prop := CellsOk l cells ticks ∧ (all.length : Int) = firstI l + tickI l * ticks ∧ fitP l all (wrL (allT l cells ticks))
open Classical in
noncomputable instance (l : List Lvl) (cells : List (List Int)) (all : List By) (ticks : Nat) : Decidable (fitV l cells all ticks) := propDecidable _

theorem wrL_app (A B : List Turn) : wrL (A ++ B) = wrL A ++ wrL B := by unfold wrL; rw [List.flatMap_append]
theorem wrL_take (T : List Turn) {i : Nat} {t : Turn} (h : T[i]? = some t) : wrL (T.take (i + 1)) = wrL (T.take i) ++ wrT t := by
  rw [List.take_add_one, h, wrL_app]
  simp [wrL]

theorem sum_len {α β : Type} (f : α → List β) : ∀ l : List α, (l.flatMap f).length = (l.map fun a => (f a).length).sum
  | [] => rfl
  | a :: l => by rw [List.flatMap_cons, List.length_append, sum_len f l, List.map_cons, List.sum_cons]
theorem sum_snoc : ∀ (l : List Nat) (x : Nat), (l ++ [x]).sum = l.sum + x
  | [], x => by simp
  | a :: l, x => by rw [List.cons_append, List.sum_cons, sum_snoc l x, List.sum_cons]; omega
theorem sum_rev : ∀ l : List Nat, l.reverse.sum = l.sum
  | [] => rfl
  | a :: l => by rw [List.reverse_cons, sum_snoc, sum_rev l, List.sum_cons]; omega
theorem backL_sum {α : Type} (l : List α) (g : α → Nat) : ((backL l).map fun p => g p.2).sum = (l.map g).sum := by
  unfold backL
  rw [List.map_reverse, sum_rev]
  congr 1
  apply List.ext_getElem?
  intro i
  rw [List.getElem?_map, List.getElem?_map]
  by_cases hi : i < l.length
  · rw [List.getElem?_eq_getElem hi]
    rw [List.getElem?_eq_getElem (by simp; exact hi)]
    simp
  · rw [List.getElem?_eq_none (l := (List.range l.length).zip l) (by rw [List.length_zip, List.length_range, Nat.min_self]; omega), List.getElem?_eq_none (l := l) (by omega)]
    rfl
theorem map_sum {α : Type} (f : α → Int) (g : α → Nat) : ∀ l : List α, (∀ a ∈ l, (g a : Int) = f a) → (((l.map g).sum : Nat) : Int) = (l.map f).sum
  | [], _ => rfl
  | a :: l, h => by
    rw [List.map_cons, List.map_cons, List.sum_cons, List.sum_cons, ← h a (by simp), ← map_sum f g l fun b hb => h b (by simp [hb])]
    omega
theorem sum_const {α : Type} (n : Nat) : ∀ l : List α, (l.map fun _ => n).sum = l.length * n
  | [] => by simp
  | a :: l => by rw [List.map_cons, List.sum_cons, sum_const n l, List.length_cons, Nat.succ_mul]; omega

theorem downL_len {n : Nat} : (downL n).length = n := by unfold downL; simp
theorem downL_get {n i : Nat} (h : i < n) : (downL n)[i]? = some ((n - i : Nat) : Int) := by unfold downL; rw [List.getElem?_map, List.getElem?_range h]; rfl

theorem wr_path {i : Nat} {way : List Int} : (wrL (pathT i way)).length = way.length := by
  unfold pathT wrL
  simp [wrT]
theorem wr_level {cells : List (List Int)} {t : Nat} {p : Nat × Lvl} : (wrL (levelT cells t p)).length = 2 * (p.2.high.toNat + 1) := by
  unfold levelT
  rw [wrL_app, List.length_append, wr_path, wr_path, wayL_len, wayL_len]
  omega
theorem wr_flat {α : Type} (f : α → List Turn) : ∀ l : List α, wrL (l.flatMap f) = l.flatMap fun a => wrL (f a)
  | [] => rfl
  | a :: l => by rw [List.flatMap_cons, wrL_app, wr_flat f l, List.flatMap_cons]
theorem wr_tick {l : List Lvl} {cells : List (List Int)} {t : Nat} : (wrL (tickT l cells t)).length = (l.map fun x => 2 * (x.high.toNat + 1)).sum := by
  unfold tickT
  rw [wr_flat, sum_len, ← backL_sum l fun x => 2 * (x.high.toNat + 1)]
  congr 1
  apply List.map_congr_left
  intro p _
  exact wr_level
theorem wr_fill {l : List Lvl} : (wrL (fillT l)).length = (l.map fun x => (2 * many x.high - 1).toNat).sum := by
  unfold wrL fillT
  rw [sum_len, ← backL_sum l fun x => (2 * many x.high - 1).toNat, List.map_map]
  congr 1
  apply List.map_congr_left
  intro p _
  simp [wrT, downL_len]
theorem wr_all {l : List Lvl} {cells : List (List Int)} {ticks : Nat} (h : ∀ x ∈ l, x.ok) : ((wrL (allT l cells ticks)).length : Int) = firstI l + tickI l * ticks := by
  unfold allT
  rw [wrL_app, List.length_append, wr_fill, wr_flat, sum_len]
  have : ((List.range ticks).map fun a => (wrL (tickT l cells a)).length) = (List.range ticks).map fun _ => (l.map fun x => 2 * (x.high.toNat + 1)).sum := by
    apply List.map_congr_left
    intro t _
    exact wr_tick
  rw [this, sum_const, List.length_range]
  have e1 := map_sum (fun x : Lvl => 2 * many x.high - 1) (fun x => (2 * many x.high - 1).toNat) l fun x hx => by
    obtain ⟨_, _, _, _, o1, o2, _, _⟩ := h x hx
    have := many_bound o1 o2
    omega
  have e2 := map_sum (fun x : Lvl => 2 * (x.high + 1)) (fun x => 2 * (x.high.toNat + 1)) l fun x hx => by
    obtain ⟨_, _, _, _, o1, o2, _, _⟩ := h x hx
    omega
  unfold firstI tickI
  rw [← e1, ← e2, Int.mul_comm]
  push_cast
  rfl

/-! ### Turns that may be -/

structure TOk (l : List Lvl) (t : Turn) : Prop where
  kind : t.kind = 1 ∨ t.kind = 2
  pos : 0 < t.at'.length
  small : t.at'.length ≤ 127
  ex : ∃ x, l[t.level]? = some x ∧ x.ok ∧ ∀ b ∈ t.at', 1 ≤ b ∧ b ≤ 2 * many x.high - 1

theorem wayL_bound {h : Int} {n : Nat} (hh : 1 ≤ h ∧ h ≤ 6) (hn : n < 2 ^ h.toNat) : ∀ b ∈ wayL h n, 1 ≤ b ∧ b ≤ 2 * many h - 1 := by
  intro b hb
  obtain ⟨i, hi, rfl⟩ := List.mem_iff_getElem.1 hb
  rw [wayL_len] at hi
  have := wayL_get (h := h) (n := (n : Int)) (i := i) (by omega)
  rw [List.getElem?_eq_getElem (by rw [wayL_len]; exact hi)] at this
  injection this with this
  rw [this]
  have hb := wayN_bound (h := h.toNat) (n := n) (i := i) (by omega) hn
  have h1 := Nat.two_pow_pos i
  have h2 : 2 ^ (i + 1) ≤ 2 ^ (h.toNat + 1) := Nat.pow_le_pow_right (by omega) (by omega)
  rw [Nat.pow_succ 2 h.toNat] at h2
  rw [many_nat]
  simp only [Int.toNat_natCast]
  omega

theorem path_ok {l : List Lvl} {i n : Nat} {x : Lvl} (hx : l[i]? = some x) (ho : x.ok) (hn : n < 2 ^ x.high.toNat) : ∀ t ∈ pathT i (wayL x.high n), TOk l t := by
  obtain ⟨_, _, _, _, o1, o2, _, _⟩ := id ho
  have hb := wayL_bound ⟨o1, o2⟩ hn
  have hl := wayL_len (h := x.high) (n := (n : Int))
  intro t ht
  unfold pathT at ht
  rcases List.mem_cons.1 ht with rfl | ht
  · exact ⟨.inl rfl, by simp only; omega, by simp only; omega, x, hx, ho, hb⟩
  · have := List.mem_singleton.1 ht
    subst this
    exact ⟨.inr rfl, by simp only [List.length_reverse]; omega, by simp only [List.length_reverse]; omega, x, hx, ho, fun b hm => hb b (List.mem_reverse.1 hm)⟩

theorem backL_at {α : Type} {l : List α} {p : Nat × α} (h : p ∈ backL l) : l[p.1]? = some p.2 := by
  obtain ⟨i, hi, rfl⟩ := List.mem_iff_getElem.1 h
  rw [backL_len] at hi
  have := backL_get hi
  rw [List.getElem?_eq_getElem (by rw [backL_len]; exact hi)] at this
  injection this with this
  rw [this]
  exact List.getElem?_eq_getElem _

theorem level_ok {l : List Lvl} {cells : List (List Int)} {t : Nat} {p : Nat × Lvl} (h : l[p.1]? = some p.2) (ho : p.2.ok) : ∀ u ∈ levelT cells t p, TOk l u := by
  obtain ⟨_, _, _, _, o1, o2, _, _⟩ := id ho
  intro u hu
  unfold levelT at hu
  rcases List.mem_append.1 hu with hu | hu
  · exact path_ok h ho (Nat.mod_lt _ (Nat.two_pow_pos _)) u hu
  · exact path_ok h ho (turn_lt (by omega)) u hu

theorem allT_ok {l : List Lvl} {cells : List (List Int)} {ticks : Nat} (h : ∀ x ∈ l, x.ok) : ∀ t ∈ allT l cells ticks, TOk l t := by
  intro t ht
  unfold allT at ht
  rcases List.mem_append.1 ht with ht | ht
  · unfold fillT at ht
    obtain ⟨p, hp, rfl⟩ := List.mem_map.1 ht
    have hl := backL_at hp
    have ho := h _ (List.mem_of_getElem? hl)
    obtain ⟨_, _, _, _, o1, o2, _, _⟩ := id ho
    have hm := many_bound o1 o2
    refine ⟨.inr rfl, by simp only [downL_len]; omega, by simp only [downL_len]; omega, p.2, hl, ho, fun b hb => ?_⟩
    obtain ⟨i, hi, rfl⟩ := List.mem_iff_getElem.1 hb
    rw [downL_len] at hi
    have := downL_get hi
    rw [List.getElem?_eq_getElem (by rw [downL_len]; exact hi)] at this
    injection this with this
    rw [this]
    omega
  · obtain ⟨k, _, hk⟩ := List.mem_flatMap.1 ht
    unfold tickT at hk
    obtain ⟨p, hp, hq⟩ := List.mem_flatMap.1 hk
    have hl := backL_at hp
    exact level_ok hl (h _ (List.mem_of_getElem? hl)) t hq

/-! ### What is seen, turn by turn -/

def turnS (s : Dv × List By × List See) (t : Turn) : Dv × List By × List See :=
  if t.kind = 1 then (s.1, s.2.1, s.2.2 ++ seesR s.1 t.level t.at')
  else (putAll s.1 t.level t.at' (s.2.1.take t.at'.length), s.2.1.drop t.at'.length, s.2.2 ++ seesW t.level t.at' (s.2.1.take t.at'.length))
def runS (c : Cfg) (all : List By) (T : List Turn) : Dv × List By × List See := T.foldl turnS (blankD c, all, [])
theorem runS_take {c : Cfg} {all : List By} {T : List Turn} {i : Nat} {t : Turn} (h : T[i]? = some t) : runS c all (T.take (i + 1)) = turnS (runS c all (T.take i)) t := by
  unfold runS
  rw [List.take_add_one, h]
  simp [List.foldl_append]

/-! ### What is seen, place by place -/

def plT (t : Turn) : List (Int × Int) := t.at'.map fun b => ((t.level : Int), if t.kind = 1 then -b else b)
def plL (T : List Turn) : List (Int × Int) := T.flatMap plT
def stepP (all : List By) (s : Dv × Nat × List See) (p : Int × Int) : Dv × Nat × List See :=
  if p.2 < 0 then (s.1, s.2.1, s.2.2 ++ [⟨1, p.1, -p.2, bk s.1 p.1 (-p.2)⟩])
  else (putB s.1 p.1 p.2 (all.getD s.2.1 []), s.2.1 + 1, s.2.2 ++ [⟨2, p.1, p.2, all.getD s.2.1 []⟩])
def runP (c : Cfg) (all : List By) (P : List (Int × Int)) : Dv × Nat × List See := P.foldl (stepP all) (blankD c, 0, [])
theorem runP_take {c : Cfg} {all : List By} {P : List (Int × Int)} {i : Nat} {p : Int × Int} (h : P[i]? = some p) : runP c all (P.take (i + 1)) = stepP all (runP c all (P.take i)) p := by
  unfold runP
  rw [List.take_add_one, h]
  simp [List.foldl_append]

theorem plL_app (A B : List Turn) : plL (A ++ B) = plL A ++ plL B := by unfold plL; rw [List.flatMap_append]
theorem pl_flat {α : Type} (f : α → List Turn) : ∀ l : List α, plL (l.flatMap f) = l.flatMap fun a => plL (f a)
  | [] => rfl
  | a :: l => by rw [List.flatMap_cons, plL_app, pl_flat f l, List.flatMap_cons]

theorem readP (all : List By) (d : Dv) (n : Nat) (lev : Int) : ∀ (l : List Int) (sees : List See), (∀ b ∈ l, 1 ≤ b) →
    (l.map fun b => (lev, -b)).foldl (stepP all) (d, n, sees) = (d, n, sees ++ l.map fun b => ⟨1, lev, b, bk d lev b⟩)
  | [], sees, _ => by simp
  | b :: l, sees, h => by
    have hb := h b (by simp)
    rw [List.map_cons, List.foldl_cons]
    have : stepP all (d, n, sees) (lev, -b) = (d, n, sees ++ [⟨1, lev, b, bk d lev b⟩]) := by
      unfold stepP
      simp only
      rw [if_pos (by omega), Int.neg_neg]
    rw [this, readP all d n lev l _ fun x hx => h x (by simp [hx])]
    simp
theorem writeP (all : List By) (lev : Int) : ∀ (l : List Int) (d : Dv) (n : Nat) (sees : List See), (∀ b ∈ l, 1 ≤ b) → n + l.length ≤ all.length →
    (l.map fun b => (lev, b)).foldl (stepP all) (d, n, sees) = (putAll d lev l ((all.drop n).take l.length), n + l.length, sees ++ seesW lev l ((all.drop n).take l.length))
  | [], d, n, sees, _, _ => by simp [putAll, seesW]
  | b :: l, d, n, sees, h, hl => by
    have hb := h b (by simp)
    rw [List.length_cons] at hl
    have hx : all.drop n = all.getD n [] :: all.drop (n + 1) := by
      rw [List.getD_eq_getElem?_getD, List.getElem?_eq_getElem (by omega), List.drop_eq_getElem_cons (by omega)]; rfl
    have : stepP all (d, n, sees) (lev, b) = (putB d lev b (all.getD n []), n + 1, sees ++ [⟨2, lev, b, all.getD n []⟩]) := by
      unfold stepP
      simp only
      rw [if_neg (by omega)]
    rw [List.map_cons, List.foldl_cons, this, writeP all lev l _ _ _ (fun x hx => h x (by simp [hx])) (by omega), List.length_cons, hx, List.take_succ_cons]
    rw [show ∀ x xs, putAll d lev (b :: l) (x :: xs) = putAll (putB d lev b x) lev l xs from fun _ _ => rfl, show ∀ x xs, seesW lev (b :: l) (x :: xs) = ⟨2, lev, b, x⟩ :: seesW lev l xs from fun _ _ => rfl]
    simp [Nat.add_assoc, Nat.add_comm 1]

theorem run_eq (all : List By) : ∀ (T : List Turn) (d : Dv) (n : Nat) (sees : List See), (∀ t ∈ T, (t.kind = 1 ∨ t.kind = 2) ∧ ∀ b ∈ t.at', 1 ≤ b) → n + (wrL T).length ≤ all.length →
    ∃ d' sees', (plL T).foldl (stepP all) (d, n, sees) = (d', n + (wrL T).length, sees') ∧ T.foldl turnS (d, all.drop n, sees) = (d', all.drop (n + (wrL T).length), sees')
  | [], d, n, sees, _, _ => ⟨d, sees, rfl, rfl⟩
  | t :: T, d, n, sees, h, hl => by
    obtain ⟨hk, hb⟩ := h t (by simp)
    have e1 : wrL (t :: T) = wrT t ++ wrL T := rfl
    have e2 : plL (t :: T) = plT t ++ plL T := rfl
    rw [e1, List.length_append] at hl ⊢
    rw [e2, List.foldl_append, List.foldl_cons]
    have h' : ∀ u ∈ T, (u.kind = 1 ∨ u.kind = 2) ∧ ∀ b ∈ u.at', 1 ≤ b := fun u hu => h u (by simp [hu])
    rcases hk with hk | hk
    · have w0 : wrT t = [] := by unfold wrT; rw [if_pos hk]
      have p0 : plT t = t.at'.map fun b => ((t.level : Int), -b) := by unfold plT; simp only [if_pos hk]
      have s0 : turnS (d, all.drop n, sees) t = (d, all.drop n, sees ++ t.at'.map fun b => ⟨1, (t.level : Int), b, bk d t.level b⟩) := by unfold turnS seesR; rw [if_pos hk]
      rw [w0, List.length_nil, Nat.zero_add] at hl ⊢
      rw [p0, readP all d n t.level t.at' sees hb, s0]
      exact run_eq all T _ _ _ h' hl
    · have hk1 : ¬ t.kind = 1 := by omega
      have w0 : (wrT t).length = t.at'.length := by unfold wrT; rw [if_neg hk1, List.length_map]
      have p0 : plT t = t.at'.map fun b => ((t.level : Int), b) := by unfold plT; simp only [if_neg hk1]
      rw [w0] at hl ⊢
      have s0 : turnS (d, all.drop n, sees) t = (putAll d t.level t.at' ((all.drop n).take t.at'.length), all.drop (n + t.at'.length), sees ++ seesW t.level t.at' ((all.drop n).take t.at'.length)) := by
        unfold turnS; rw [if_neg hk1]; simp only [List.drop_drop]
      rw [p0, writeP all t.level t.at' d n sees hb (by omega), s0, ← Nat.add_assoc]
      exact run_eq all T _ _ _ h' (by omega)

theorem runS_eq {c : Cfg} {all : List By} {T : List Turn} {l : List Lvl} (hT : ∀ t ∈ T, TOk l t) (hl : (wrL T).length ≤ all.length) :
    runS c all T = ((runP c all (plL T)).1, all.drop (runP c all (plL T)).2.1, (runP c all (plL T)).2.2) ∧ (runP c all (plL T)).2.1 = (wrL T).length := by
  obtain ⟨d, sees, h1, h2⟩ := run_eq all T (blankD c) 0 [] (fun t ht => ⟨(hT t ht).kind, fun b hb => by obtain ⟨x, _, _, hx⟩ := (hT t ht).ex; exact (hx b hb).1⟩) (by omega)
  unfold runS runP
  rw [h1]
  rw [List.drop_zero] at h2
  rw [h2]
  simp

/-- Where texts are written, of a list of places. -/
def wrP (P : List (Int × Int)) : List Nat := (P.filter fun p => decide (0 ≤ p.2)).map fun p => p.1.toNat
theorem wrP_app (A B : List (Int × Int)) : wrP (A ++ B) = wrP A ++ wrP B := by unfold wrP; rw [List.filter_append, List.map_append]
theorem wrP_neg (lev : Int) : ∀ l : List Int, (∀ b ∈ l, 1 ≤ b) → wrP (l.map fun b => (lev, -b)) = []
  | [], _ => rfl
  | b :: l, h => by
    have hb := h b (by simp)
    have ih := wrP_neg lev l fun x hx => h x (by simp [hx])
    unfold wrP at ih ⊢
    rw [List.map_cons, List.filter_cons, if_neg (by simp; omega)]
    exact ih
theorem wrP_pos (lev : Nat) : ∀ l : List Int, (∀ b ∈ l, 1 ≤ b) → wrP (l.map fun b => ((lev : Int), b)) = l.map fun _ => lev
  | [], _ => rfl
  | b :: l, h => by
    have hb := h b (by simp)
    have ih := wrP_pos lev l fun x hx => h x (by simp [hx])
    unfold wrP at ih ⊢
    rw [List.map_cons, List.filter_cons, if_pos (by simp; omega), List.map_cons, ih, List.map_cons]
    simp
theorem wrP_eq : ∀ T : List Turn, (∀ t ∈ T, (t.kind = 1 ∨ t.kind = 2) ∧ ∀ b ∈ t.at', 1 ≤ b) → wrP (plL T) = wrL T
  | [], _ => rfl
  | t :: T, h => by
    obtain ⟨hk, hb⟩ := h t (by simp)
    have e1 : wrL (t :: T) = wrT t ++ wrL T := rfl
    have e2 : plL (t :: T) = plT t ++ plL T := rfl
    rw [e1, e2, wrP_app, wrP_eq T fun u hu => h u (by simp [hu])]
    congr 1
    rcases hk with hk | hk
    · unfold plT wrT
      simp only [if_pos hk]
      exact wrP_neg _ _ hb
    · have hk1 : ¬ t.kind = 1 := by omega
      unfold plT wrT
      simp only [if_neg hk1]
      exact wrP_pos _ _ hb
theorem wrP_get {P : List (Int × Int)} {i : Nat} {p : Int × Int} (h : P[i]? = some p) (hp : 0 ≤ p.2) : (wrP P)[(wrP (P.take i)).length]? = some p.1.toNat := by
  have e : P = P.take i ++ p :: P.drop (i + 1) := by
    have hlt := (List.getElem?_eq_some_iff.1 h).1
    have := List.drop_eq_getElem_cons hlt
    rw [List.getElem?_eq_getElem hlt] at h
    injection h with h
    rw [h] at this
    rw [← this, List.take_append_drop]
  have e2 : wrP P = wrP (P.take i) ++ p.1.toNat :: wrP (P.drop (i + 1)) := by
    conv => lhs; rw [e, wrP_app]
    congr 1
    unfold wrP
    rw [List.filter_cons, if_pos (by simp; exact hp), List.map_cons]
  rw [e2, List.getElem?_append_right (Nat.le_refl _), Nat.sub_self]
  rfl
theorem wrP_take {P : List (Int × Int)} {i : Nat} {p : Int × Int} (h : P[i]? = some p) : (wrP (P.take (i + 1))).length = (wrP (P.take i)).length + if 0 ≤ p.2 then 1 else 0 := by
  rw [List.take_add_one, h, wrP_app, List.length_append]
  congr 1
  unfold wrP
  simp only [Option.toList_some, List.filter_cons, List.filter_nil]
  by_cases hp : 0 ≤ p.2
  · rw [if_pos (by simp; exact hp), if_pos hp]; rfl
  · rw [if_neg (by simp; omega), if_neg hp]; rfl
theorem runP_n {c : Cfg} {all : List By} : ∀ {P : List (Int × Int)}, (runP c all P).2.1 = (wrP P).length := by
  have key : ∀ (P : List (Int × Int)) (s : Dv × Nat × List See), (P.foldl (stepP all) s).2.1 = s.2.1 + (wrP P).length := by
    intro P
    induction P with
    | nil => intro s; rfl
    | cons p P ih =>
      intro s
      rw [List.foldl_cons, ih]
      unfold stepP wrP
      rw [List.filter_cons]
      by_cases hp : p.2 < 0
      · rw [if_pos hp, if_neg (by simp; omega)]
      · rw [if_neg hp, if_pos (by simp; omega)]
        simp
        omega
  intro P
  unfold runP
  rw [key]
  simp

/-- A place that may be. -/
def POk (l : List Lvl) (p : Int × Int) : Prop := 0 ≤ p.1 ∧ ∃ x, l[p.1.toNat]? = some x ∧ x.ok ∧ ((1 ≤ p.2 ∧ p.2 ≤ 2 * many x.high - 1) ∨ (1 ≤ -p.2 ∧ -p.2 ≤ 2 * many x.high - 1))
theorem plL_ok {l : List Lvl} {T : List Turn} (h : ∀ t ∈ T, TOk l t) : ∀ p ∈ plL T, POk l p := by
  intro p hp
  unfold plL at hp
  obtain ⟨t, ht, hp⟩ := List.mem_flatMap.1 hp
  obtain ⟨x, hx, ho, hb⟩ := (h t ht).ex
  unfold plT at hp
  obtain ⟨b, hbm, rfl⟩ := List.mem_map.1 hp
  have := hb b hbm
  refine ⟨by simp, x, by simpa using hx, ho, ?_⟩
  simp only
  split
  · right; omega
  · left; omega

/-! ### The law's words -/

open Classical in
noncomputable def trE (c : Cfg) (cells : List (List Int)) (all : List By) (ticks : Int) : Int := if cntE c ticks = 0 then (if fitV c.all cells all ticks.toNat then 0 else 2) else cntE c ticks
noncomputable def trV (c : Cfg) (cells : List (List Int)) (all : List By) (ticks : Int) : List See := if trE c cells all ticks = 0 then (runS c all (allT c.all cells ticks.toNat)).2.2 else []
def writtenL (l : List See) : List By := (l.filter fun s => decide (s.kind = 2)).map fun s => s.bytes

theorem lvlOf_at {c : Cfg} {d : Dv} {lev : Nat} {lv : Lvl} (h : may c d = true) (hl : c.all[lev]? = some lv) : d[lev]? = some (lvlOf d lev) ∧ ((lvlOf d lev).length : Int) = 2 * many lv.high - 1 ∧ (∀ b ∈ lvlOf d lev, (b.length : Int) = 8 + lv.width) ∧ lv.ok := by
  have hd : d.length = c.all.length := by
    unfold may at h
    simp only [Bool.and_eq_true] at h
    exact mayF_len h.2
  have hlt := (List.getElem?_eq_some_iff.1 hl).1
  have e : d[lev]? = some (lvlOf d lev) := by
    have := lvl_get (d := d) (level := (lev : Int)) (by omega)
    simpa using this
  obtain ⟨l, k1, k2, k3, k4⟩ := may_level h e
  rw [hl] at k1
  cases k1
  exact ⟨e, k3, k4, k2⟩

theorem may_putB {c : Cfg} {d : Dv} {lev : Nat} {b : Int} {x : By} {lv : Lvl} (h : may c d = true) (hl : c.all[lev]? = some lv) (hx : (x.length : Int) = 8 + lv.width) : may c (putB d lev b x) = true := by
  obtain ⟨e, e1, e2, _⟩ := lvlOf_at h hl
  unfold may at h ⊢
  simp only [Bool.and_eq_true] at h ⊢
  obtain ⟨h1, h2⟩ := h
  refine ⟨h1, ?_⟩
  rw [mayF_iff] at h2 ⊢
  obtain ⟨h3, h4⟩ := h2
  refine ⟨by unfold putB; simp [h3], fun i l y hi hy => ?_⟩
  unfold putB at hy
  rw [Int.toNat_natCast, List.getElem?_set] at hy
  by_cases hli : lev = i
  · subst hli
    rw [if_pos rfl] at hy
    split at hy
    · cases hy
      have := h4 lev l _ hi e
      rw [hl] at hi
      cases hi
      unfold levelOk at this ⊢
      simp only [Bool.and_eq_true, beq_iff_eq, List.all_eq_true] at this ⊢
      refine ⟨by rw [List.length_set]; exact this.1, fun z hz => ?_⟩
      rcases List.mem_or_eq_of_mem_set hz with hz | rfl
      · exact this.2 z hz
      · exact hx
    · cases hy
  · rw [if_neg hli] at hy
    exact h4 i l y hi hy

theorem may_putAll {c : Cfg} {lev : Nat} {lv : Lvl} (hl : c.all[lev]? = some lv) : ∀ {l : List Int} {xs : List By} {d : Dv}, may c d = true → (∀ x ∈ xs, (x.length : Int) = 8 + lv.width) → may c (putAll d lev l xs) = true
  | [], xs, d, h, _ => by unfold putAll; exact h
  | b :: l, [], d, h, _ => by unfold putAll; exact h
  | b :: l, x :: xs, d, h, hx => by
    rw [show putAll d lev (b :: l) (x :: xs) = putAll (putB d lev b x) lev l xs from rfl]
    exact may_putAll hl (may_putB h hl (hx x (by simp))) fun y hy => hx y (by simp [hy])

theorem may_mid {c : Cfg} {d : Dv} (h : may c d = true) : Mid d := by
  have hd : d.length = c.all.length := by
    have := h
    unfold may at this
    simp only [Bool.and_eq_true] at this
    exact mayF_len this.2
  have hc := c.all_len
  refine ⟨by omega, fun x hx => ?_⟩
  obtain ⟨i, hi, rfl⟩ := List.mem_iff_getElem.1 hx
  have := may_pos h (List.getElem?_eq_getElem hi)
  exact ⟨by omega, fun b hb => by have := this.2.2 b hb; omega⟩

theorem may_blank {c : Cfg} (hc : c.may) : may c (blankD c) = true := by
  unfold may
  rw [decide_eq_true hc, Bool.true_and, mayF_iff]
  unfold blankD
  refine ⟨by simp, fun i l x hi hx => ?_⟩
  rw [List.getElem?_map, hi] at hx
  cases hx
  obtain ⟨_, _, _, _, o1, o2, o3, o4⟩ := Cfg.all_ok hc.1 _ (List.mem_of_getElem? hi)
  have := many_bound o1 o2
  unfold levelOk
  simp only [Bool.and_eq_true, beq_iff_eq, List.all_eq_true, List.length_replicate, List.mem_replicate]
  refine ⟨by omega, fun b hb => ?_⟩
  rw [hb.2, List.length_replicate]
  omega

/-- A turn may be done. -/
theorem turn_lev {c : Cfg} {d : Dv} {t : Turn} (h : may c d = true) (ht : TOk c.all t) : levE d t.level t.at' = 0 := by
  obtain ⟨x, hx, ho, hb⟩ := ht.ex
  obtain ⟨e1, e2, e3, _⟩ := lvlOf_at h hx
  rw [levE_zero]
  have := (List.getElem?_eq_some_iff.1 e1).1
  exact ⟨⟨by omega, by omega⟩, fun b hm => by have := hb b hm; omega⟩
theorem turn_ask {c : Cfg} {d : Dv} {t : Turn} (h : may c d = true) (ht : TOk c.all t) : askE c d t.level t.at' = 0 := by unfold askE; rw [if_pos h]; exact turn_lev h ht
theorem turn_size {c : Cfg} {d : Dv} {t : Turn} {lv : Lvl} (h : may c d = true) (hl : c.all[t.level]? = some lv) : bkSize d t.level = 8 + lv.width := by
  obtain ⟨e1, e2, e3, o⟩ := lvlOf_at h hl
  obtain ⟨_, _, _, _, o1, o2, _, _⟩ := o
  have := many_bound o1 o2
  unfold bkSize
  exact e3 _ (List.mem_of_getElem? (bk_get (d := d) (level := (t.level : Int)) (b := 1) (by omega)))
theorem turn_wr {c : Cfg} {d : Dv} {t : Turn} {lv : Lvl} {xs : List By} (h : may c d = true) (ht : TOk c.all t) (hl : c.all[t.level]? = some lv) (hn : xs.length = t.at'.length) (hx : ∀ x ∈ xs, (x.length : Int) = 8 + lv.width) : wrE c d t.level t.at' xs = 0 := by
  unfold wrE
  rw [turn_ask h ht, if_neg (by simp), turn_size h hl, if_neg]
  rintro (h1 | h1)
  · exact h1 hn
  · obtain ⟨x, hm, hb⟩ := List.any_eq_true.1 h1
    rw [hx x hm] at hb
    simp at hb

/-- The texts that a turn writes. -/
theorem turn_texts {l : List Lvl} {all : List By} {T : List Turn} {i : Nat} {t : Turn} {lv : Lvl} (hf : fitP l all (wrL T)) (hn : (wrL T).length ≤ all.length) (ht : T[i]? = some t) (hk : t.kind ≠ 1) (hl : l[t.level]? = some lv) :
    ((all.drop (wrL (T.take i)).length).take t.at'.length).length = t.at'.length ∧ ∀ x ∈ (all.drop (wrL (T.take i)).length).take t.at'.length, (x.length : Int) = 8 + lv.width := by
  have e : T = T.take (i + 1) ++ T.drop (i + 1) := (List.take_append_drop _ _).symm
  have e2 : wrL T = (wrL (T.take i) ++ wrT t) ++ wrL (T.drop (i + 1)) := by
    conv => lhs; rw [e, wrL_app, wrL_take T ht]
  have hw : (wrT t).length = t.at'.length := by unfold wrT; rw [if_neg hk, List.length_map]
  have hle : (wrL (T.take i)).length + t.at'.length ≤ all.length := by
    have := congrArg List.length e2
    rw [List.length_append, List.length_append, hw] at this
    omega
  refine ⟨by rw [List.length_take, List.length_drop]; omega, fun x hx => ?_⟩
  obtain ⟨j, hj, rfl⟩ := List.mem_iff_getElem.1 hx
  rw [List.length_take, List.length_drop] at hj
  rw [List.getElem_take, List.getElem_drop]
  have hwj : (wrL T)[(wrL (T.take i)).length + j]? = some t.level := by
    rw [e2, List.getElem?_append_left (by rw [List.length_append]; omega), List.getElem?_append_right (by omega), Nat.add_sub_cancel_left]
    unfold wrT
    rw [if_neg hk, List.getElem?_map, List.getElem?_eq_getElem (by omega)]; rfl
  obtain ⟨y, k1, k2, _⟩ := hf _ _ hwj
  rw [hl] at k1
  cases k1
  rw [List.getD_eq_getElem?_getD, List.getElem?_eq_getElem (by omega)] at k2
  exact k2

/-- What is so behind each turn. -/
theorem runS_inv {c : Cfg} {all : List By} {T : List Turn} (hc : c.may) (hT : ∀ t ∈ T, TOk c.all t) (hf : fitP c.all all (wrL T)) (hn : (wrL T).length ≤ all.length) :
    ∀ i, i ≤ T.length → may c (runS c all (T.take i)).1 = true ∧ (runS c all (T.take i)).2.1 = all.drop (wrL (T.take i)).length ∧ (runS c all (T.take i)).2.2.length ≤ 127 * i
  | 0, _ => by
    have : runS c all (T.take 0) = (blankD c, all, []) := rfl
    rw [this]
    exact ⟨may_blank hc, by simp [wrL], by simp⟩
  | i + 1, hi => by
    obtain ⟨h1, h2, h3⟩ := runS_inv hc hT hf hn i (by omega)
    have ht : T[i]? = some T[i] := List.getElem?_eq_getElem (by omega)
    have hok := hT _ (List.getElem_mem (by omega : i < T.length))
    generalize T[i] = t at *
    obtain ⟨lv, hlv, ho, hb⟩ := hok.ex
    have hsm := hok.small
    rw [runS_take ht]
    generalize hs : runS c all (T.take i) = s at *
    unfold turnS
    by_cases hk : t.kind = 1
    · rw [if_pos hk]
      refine ⟨h1, ?_, ?_⟩
      · rw [h2, wrL_take T ht, List.length_append]
        unfold wrT
        rw [if_pos hk]; rfl
      · simp only [List.length_append, seesR, List.length_map]
        omega
    · rw [if_neg hk]
      obtain ⟨x1, x2⟩ := turn_texts hf hn ht hk hlv
      rw [← h2] at x1 x2
      refine ⟨may_putAll hlv h1 x2, ?_, ?_⟩
      · simp only [h2, List.drop_drop]
        rw [wrL_take T ht, List.length_append]
        unfold wrT
        rw [if_neg hk, List.length_map]
      · have hsw : ∀ (l : List Int) (xs : List By), (seesW t.level l xs).length ≤ l.length := by
          intro l
          induction l with
          | nil => intro xs; simp [seesW]
          | cons b l ih =>
            intro xs
            cases xs with
            | nil => simp [seesW]
            | cons x xs => simp only [seesW, List.length_cons]; have := ih xs; omega
        have := hsw t.at' (s.2.1.take t.at'.length)
        simp only [List.length_append]
        omega

/-- What is so behind each place. -/
theorem runP_inv {c : Cfg} {all : List By} {P : List (Int × Int)} (hc : c.may) (hP : ∀ p ∈ P, POk c.all p) (hf : fitP c.all all (wrP P)) :
    ∀ i, i ≤ P.length → may c (runP c all (P.take i)).1 = true ∧ (runP c all (P.take i)).2.2.length = i
  | 0, _ => ⟨may_blank hc, rfl⟩
  | i + 1, hi => by
    obtain ⟨h1, h2⟩ := runP_inv hc hP hf i (by omega)
    have hp : P[i]? = some P[i] := List.getElem?_eq_getElem (by omega)
    have hok := hP _ (List.getElem_mem (by omega : i < P.length))
    generalize P[i] = p at *
    obtain ⟨h0, x, hx, ho, hb⟩ := hok
    rw [runP_take hp]
    have hn := runP_n (c := c) (all := all) (P := P.take i)
    generalize runP c all (P.take i) = s at *
    unfold stepP
    by_cases hk : p.2 < 0
    · rw [if_pos hk]
      exact ⟨h1, by simp [h2]⟩
    · rw [if_neg hk]
      have hw := wrP_get hp (by omega)
      rw [← hn] at hw
      obtain ⟨y, k1, k2, _⟩ := hf _ _ hw
      refine ⟨?_, by simp [h2]⟩
      have := may_putB (b := p.2) h1 k1 k2
      rwa [Int.toNat_of_nonneg h0] at this

end Go.Md
