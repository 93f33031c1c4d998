/- Plain Lean functions that say what the program's functions on sets, words and pages compute, and plain laws on them. No program in sight. -/
import Derived.WalkKit
namespace Go.Proofs.Yteekikaebmkioaa
open Go.RowKit

def inB (n lo hi : Int) : Bool := decide (lo ≤ n) && decide (n ≤ hi)
theorem inB_t {n lo hi : Int} (h1 : lo ≤ n) (h2 : n ≤ hi) : inB n lo hi = true := by simp [inB, h1, h2]
theorem inB_lo {n lo hi : Int} (h1 : n < lo) : inB n lo hi = false := by simp [inB]; omega
theorem inB_hi {n lo hi : Int} (h1 : hi < n) : inB n lo hi = false := by simp [inB]; omega
theorem inB_iff {n lo hi : Int} : inB n lo hi = true ↔ lo ≤ n ∧ n ≤ hi := by simp [inB]

theorem ret_int {k : IntKind} {a b : Int} (h : a = b) : Ending.returned (.int k a) = .returned (.int k b) := by rw [h]
theorem ret_bool {a b : Bool} (h : a = b) : Ending.returned (.bool a) = .returned (.bool b) := by rw [h]

/-! bits of natural numbers behind the model's bit operations -/
theorem i64_nat (n : Nat) (h : n < 2 ^ 63) : IntKind.i64.wrap (n : Int) = n :=
  IntWalk.i64_in _ ⟨by omega, by omega⟩
theorem b_and (a b : Nat) (ha : a < 2 ^ 63) (hb : b < 2 ^ 63) : bits .and .i64 a b = ((a &&& b : Nat) : Int) := by
  have hp : (2:Nat) ^ 63 ≤ 2 ^ 64 := by decide
  have ha' : a % 2 ^ IntKind.i64.bits = a := Nat.mod_eq_of_lt (Nat.lt_of_lt_of_le ha hp)
  have hb' : b % 2 ^ IntKind.i64.bits = b := Nat.mod_eq_of_lt (Nat.lt_of_lt_of_le hb hp)
  simp only [bits, BitVec.ofInt_natCast, BitVec.toNat_and, BitVec.toNat_ofNat, ha', hb']
  exact i64_nat _ (Nat.and_lt_two_pow _ hb)
theorem b_or (a b : Nat) (ha : a < 2 ^ 63) (hb : b < 2 ^ 63) : bits .or .i64 a b = ((a ||| b : Nat) : Int) := by
  have hp : (2:Nat) ^ 63 ≤ 2 ^ 64 := by decide
  have ha' : a % 2 ^ IntKind.i64.bits = a := Nat.mod_eq_of_lt (Nat.lt_of_lt_of_le ha hp)
  have hb' : b % 2 ^ IntKind.i64.bits = b := Nat.mod_eq_of_lt (Nat.lt_of_lt_of_le hb hp)
  simp only [bits, BitVec.ofInt_natCast, BitVec.toNat_or, BitVec.toNat_ofNat, ha', hb']
  exact i64_nat _ (Nat.or_lt_two_pow ha hb)
theorem b_xor (a b : Nat) (ha : a < 2 ^ 63) (hb : b < 2 ^ 63) : bits .xor .i64 a b = ((a ^^^ b : Nat) : Int) := by
  have hp : (2:Nat) ^ 63 ≤ 2 ^ 64 := by decide
  have ha' : a % 2 ^ IntKind.i64.bits = a := Nat.mod_eq_of_lt (Nat.lt_of_lt_of_le ha hp)
  have hb' : b % 2 ^ IntKind.i64.bits = b := Nat.mod_eq_of_lt (Nat.lt_of_lt_of_le hb hp)
  simp only [bits, BitVec.ofInt_natCast, BitVec.toNat_xor, BitVec.toNat_ofNat, ha', hb']
  exact i64_nat _ (Nat.xor_lt_two_pow ha hb)
theorem b_andNot (a b : Nat) (ha : a < 2 ^ 63) (hb : b < 2 ^ 63) : bits .andNot .i64 a b = ((a ^^^ (a &&& b) : Nat) : Int) := by
  have hp : (2:Nat) ^ 63 ≤ 2 ^ 64 := by decide
  have ha' : a % 2 ^ IntKind.i64.bits = a := Nat.mod_eq_of_lt (Nat.lt_of_lt_of_le ha hp)
  have hb' : b % 2 ^ IntKind.i64.bits = b := Nat.mod_eq_of_lt (Nat.lt_of_lt_of_le hb hp)
  have e : (BitVec.ofNat IntKind.i64.bits a &&& ~~~ BitVec.ofNat IntKind.i64.bits b) = BitVec.ofNat IntKind.i64.bits a ^^^ (BitVec.ofNat IntKind.i64.bits a &&& BitVec.ofNat IntKind.i64.bits b) := by
    ext i hi
    simp only [BitVec.getElem_and, BitVec.getElem_not, BitVec.getElem_xor]
    cases (BitVec.ofNat IntKind.i64.bits a)[i] <;> cases (BitVec.ofNat IntKind.i64.bits b)[i] <;> rfl
  simp only [bits, BitVec.ofInt_natCast]
  rw [e]
  simp only [BitVec.toNat_and, BitVec.toNat_xor, BitVec.toNat_ofNat, ha', hb']
  exact i64_nat _ (Nat.xor_lt_two_pow ha (Nat.and_lt_two_pow _ hb))

/-! sets -/
def pc : Nat → Nat → Nat
  | 0, _ => 0
  | k + 1, n => n % 2 + pc k (n / 2)
def firstIn (s : Nat) : Nat → Nat → Int
  | 0, _ => -1
  | k + 1, n => if s.testBit n then (n : Int) else firstIn s k (n + 1)

def bitHasF (s n : Int) : Bool := inB s 0 65535 && inB n 0 15 && s.toNat.testBit n.toNat
def bitPutF (s n : Int) (h : Bool) : Int :=
  if inB s 0 65535 && inB n 0 15 then (if h then ((s.toNat ||| 2 ^ n.toNat : Nat) : Int) else ((s.toNat ^^^ (s.toNat &&& 2 ^ n.toNat) : Nat) : Int)) else -1
def bitCountF (s : Int) : Int := if inB s 0 65535 then ((pc 16 s.toNat : Nat) : Int) else -1
def bitFirstF (s : Int) : Int := if inB s 0 65535 then firstIn s.toNat 16 0 else -1

/-! words -/
def flipF (w p : Int) : Int := if inB w 0 4095 && inB p 1 12 then ((w.toNat ^^^ 2 ^ (p.toNat - 1) : Nat) : Int) else -1
def apartF (a b : Int) : Int := if inB a 0 4095 && inB b 0 4095 then ((pc 16 (a.toNat ^^^ b.toNat) : Nat) : Int) else -1
/-- the places of the bits of w below place k + 1, taken together -/
def together (w : Nat) : Nat → Nat
  | 0 => 0
  | k + 1 => if w.testBit k then together w k ^^^ (k + 1) else together w k
def places : List Nat := [3, 5, 6, 7, 9, 10, 11, 12]
/-- the data's bits laid at their places, the first k of them -/
def laidW (d : Nat) : Nat → Nat
  | 0 => 0
  | k + 1 => if d.testBit k then laidW d k ||| 2 ^ (places.getD k 0 - 1) else laidW d k
/-- the four checking bits, the first k of them -/
def checkedW (w t : Nat) : Nat → Nat
  | 0 => w
  | k + 1 => if t.testBit k then checkedW w t k ||| 2 ^ (2 ^ k - 1) else checkedW w t k
def cw (d : Nat) : Nat := checkedW (laidW d 8) (together (laidW d 8) 12) 4
def codeF (d : Int) : Int := if inB d 0 255 then ((cw d.toNat : Nat) : Int) else -1
/-- the data read off a word, the first k bits -/
def readW (w : Nat) : Nat → Nat
  | 0 => 0
  | k + 1 => if w.testBit (places.getD k 0 - 1) then readW w k ||| 2 ^ k else readW w k
def mend (w t : Nat) : Nat := if t = 0 then w else w ^^^ 2 ^ (t - 1)
def fixF (w : Int) : Int × Int :=
  if inB w 0 4095 then
    if together w.toNat 12 ≤ 12 then (((readW (mend w.toNat (together w.toNat 12)) 8 : Nat) : Int), ((together w.toNat 12 : Nat) : Int)) else (-1, -1)
  else (-1, -1)

theorem bit1 (s n : Nat) : (s / 2 ^ n) % 2 = 1 ↔ s.testBit n = true := by
  rw [Nat.testBit_eq_decide_div_mod_eq]; simp
theorem testBit_int (s n : Int) (h1 : 0 ≤ s) : ((s / 2 ^ n.toNat) % 2 == 1) = s.toNat.testBit n.toNat := by
  obtain ⟨a, rfl⟩ := Int.eq_ofNat_of_zero_le h1
  rw [Nat.testBit_eq_decide_div_mod_eq, Int.toNat_natCast]
  generalize n.toNat = k
  have e : ((a : Int) / 2 ^ k) % 2 = (((a / 2 ^ k) % 2 : Nat) : Int) := by simp
  rw [e]
  rcases Nat.mod_two_eq_zero_or_one (a / 2 ^ k) with h | h <;> simp [h]
theorem and1_int (s n : Int) (h1 : 0 ≤ s) (h2 : s < 2 ^ 63) : (bits .and .i64 (s / 2 ^ n.toNat) 1 == 1) = s.toNat.testBit n.toNat := by
  rw [← testBit_int s n h1]
  obtain ⟨a, rfl⟩ := Int.eq_ofNat_of_zero_le h1
  generalize n.toNat = k
  have e : ((a : Int) / 2 ^ k) = ((a / 2 ^ k : Nat) : Int) := by simp
  have ha : a / 2 ^ k < 2 ^ 63 := Nat.lt_of_le_of_lt (Nat.div_le_self _ _) (by exact_mod_cast h2)
  rw [e, show (1 : Int) = ((1 : Nat) : Int) from rfl, b_and _ 1 ha (by decide), Nat.and_one_is_mod]
  rfl

/-! what the walks' bit operations come to -/
theorem wrap_pow (k : Nat) (h : k < 63) : wrap64 (2 ^ k) = ((2 ^ k : Nat) : Int) := by
  have h1 : (2 : Nat) ^ k < 2 ^ 63 := Nat.pow_lt_pow_right (by decide) h
  have e : ((2 : Int) ^ k) = ((2 ^ k : Nat) : Int) := by simp
  rw [e]
  generalize 2 ^ k = x at h1
  exact IntWalk.wrap64_in _ ⟨by omega, by omega⟩
theorem or_pow (s : Int) (k : Nat) (h1 : 0 ≤ s) (h2 : s < 2 ^ 63) (hk : k < 63) : bits .or .i64 s (wrap64 (2 ^ k)) = ((s.toNat ||| 2 ^ k : Nat) : Int) := by
  obtain ⟨a, rfl⟩ := Int.eq_ofNat_of_zero_le h1
  rw [wrap_pow k hk, Int.toNat_natCast, b_or _ _ (by omega) (Nat.pow_lt_pow_right (by decide) hk)]
theorem xor_pow (s : Int) (k : Nat) (h1 : 0 ≤ s) (h2 : s < 2 ^ 63) (hk : k < 63) : bits .xor .i64 s (wrap64 (2 ^ k)) = ((s.toNat ^^^ 2 ^ k : Nat) : Int) := by
  obtain ⟨a, rfl⟩ := Int.eq_ofNat_of_zero_le h1
  rw [wrap_pow k hk, Int.toNat_natCast, b_xor _ _ (by omega) (Nat.pow_lt_pow_right (by decide) hk)]
theorem andNot_pow (s : Int) (k : Nat) (h1 : 0 ≤ s) (h2 : s < 2 ^ 63) (hk : k < 63) : bits .andNot .i64 s (wrap64 (2 ^ k)) = ((s.toNat ^^^ (s.toNat &&& 2 ^ k) : Nat) : Int) := by
  obtain ⟨a, rfl⟩ := Int.eq_ofNat_of_zero_le h1
  rw [wrap_pow k hk, Int.toNat_natCast, b_andNot _ _ (by omega) (Nat.pow_lt_pow_right (by decide) hk)]
theorem xor_int (a b : Int) (h1 : 0 ≤ a) (h2 : a < 2 ^ 63) (h3 : 0 ≤ b) (h4 : b < 2 ^ 63) : bits .xor .i64 a b = ((a.toNat ^^^ b.toNat : Nat) : Int) := by
  obtain ⟨x, rfl⟩ := Int.eq_ofNat_of_zero_le h1
  obtain ⟨y, rfl⟩ := Int.eq_ofNat_of_zero_le h3
  rw [Int.toNat_natCast, Int.toNat_natCast, b_xor _ _ (by omega) (by omega)]
theorem xor_lt (a b : Nat) (k : Nat) (ha : a < 2 ^ k) (hb : b < 2 ^ k) : a ^^^ b < 2 ^ k := Nat.xor_lt_two_pow ha hb

/-! counting bits -/
theorem pc_stable (k : Nat) : ∀ x, x < 2 ^ k → pc (k + 1) x = pc k x := by
  induction k with
  | zero => intro x hx; have h0 : x = 0 := by simpa using hx
            subst h0; rfl
  | succ k ih =>
    intro x hx
    have h := ih (x / 2) (by rw [Nat.pow_succ] at hx; omega)
    rw [pc, h]
    rfl
theorem pc_step (m : Nat) (h : m < 65536) : pc 16 m = m % 2 + pc 16 (m / 2) := by
  rw [pc_stable 15 (m / 2) (by omega)]
  rfl
theorem pc_stepI (m : Int) (h0 : 0 ≤ m) (h : m ≤ 65535) : pc 16 m.toNat = m.toNat % 2 + pc 16 (m / 2).toNat := by
  rw [pc_step m.toNat (by omega)]
  congr 2
  omega
theorem pc_le (k : Nat) : ∀ x, pc k x ≤ k := by
  induction k with
  | zero => intro x; simp [pc]
  | succ k ih => intro x; have := ih (x / 2); simp only [pc]; omega
theorem pc_zero (k : Nat) : pc k 0 = 0 := by
  induction k with
  | zero => rfl
  | succ k ih => simp [pc, ih]
theorem firstIn_step (s k n : Nat) : firstIn s (k + 1) n = if s.testBit n then (n : Int) else firstIn s k (n + 1) := rfl

/-! words -/
theorem together_lt (w k : Nat) (hk : k ≤ 12) : together w k < 16 := by
  induction k with
  | zero => simp [together]
  | succ k ih =>
    have h1 : together w k < 2 ^ 4 := ih (by omega)
    rw [together]
    split
    · exact xor_lt _ _ 4 h1 (by omega)
    · exact h1
theorem places_b (k : Nat) (hk : k < 8) : 1 ≤ places.getD k 0 ∧ places.getD k 0 ≤ 12 := by
  have h : k = 0 ∨ k = 1 ∨ k = 2 ∨ k = 3 ∨ k = 4 ∨ k = 5 ∨ k = 6 ∨ k = 7 := by omega
  rcases h with rfl | rfl | rfl | rfl | rfl | rfl | rfl | rfl <;> decide
theorem laidW_lt (d k : Nat) (hk : k ≤ 8) : laidW d k < 4096 := by
  induction k with
  | zero => simp [laidW]
  | succ k ih =>
    have h1 : laidW d k < 2 ^ 12 := ih (by omega)
    have h2 := places_b k (by omega)
    rw [laidW]
    split
    · exact Nat.or_lt_two_pow h1 (Nat.pow_lt_pow_right (by decide) (by omega))
    · exact h1
theorem checkedW_lt (x t k : Nat) (hx : x < 4096) (hk : k ≤ 4) : checkedW x t k < 4096 := by
  induction k with
  | zero => simpa [checkedW] using hx
  | succ k ih =>
    have h1 : checkedW x t k < 2 ^ 12 := ih (by omega)
    have h2 : 2 ^ k ≤ 2 ^ 3 := Nat.pow_le_pow_right (by decide) (by omega)
    rw [checkedW]
    split
    · exact Nat.or_lt_two_pow h1 (Nat.pow_lt_pow_right (by decide) (by omega))
    · exact h1
theorem readW_lt (x k : Nat) (hk : k ≤ 8) : readW x k < 256 := by
  induction k with
  | zero => simp [readW]
  | succ k ih =>
    have h1 : readW x k < 2 ^ 8 := ih (by omega)
    rw [readW]
    split
    · exact Nat.or_lt_two_pow h1 (Nat.pow_lt_pow_right (by decide) (by omega))
    · exact h1
theorem cw_lt (d : Nat) : cw d < 4096 := checkedW_lt _ _ 4 (laidW_lt d 8 (by omega)) (by omega)
theorem mend_lt (x t : Nat) (hx : x < 4096) (ht : t ≤ 12) : mend x t < 4096 := by
  rw [mend]
  split
  · exact hx
  · exact xor_lt _ _ 12 hx (Nat.pow_lt_pow_right (by decide) (by omega))
theorem and_pow_ne (t k : Nat) : (t &&& 2 ^ k = 0) ↔ t.testBit k = false := by
  constructor
  · intro h
    have := congrArg (fun x => Nat.testBit x k) h
    simpa [Nat.testBit_and, Nat.testBit_two_pow_self] using this
  · intro h
    apply Nat.eq_of_testBit_eq
    intro i
    rw [Nat.testBit_and, Nat.zero_testBit, Nat.testBit_two_pow]
    by_cases e : k = i
    · subst e; simp [h]
    · simp [e]
theorem andp (t k : Nat) (h1 : t < 2 ^ 63) (h2 : k < 63) : (bits .and .i64 (t : Int) ((2 ^ k : Nat) : Int) != 0) = t.testBit k := by
  rw [b_and _ _ h1 (Nat.pow_lt_pow_right (by decide) h2)]
  have := and_pow_ne t k
  generalize t &&& 2 ^ k = x at this
  cases e : t.testBit k
  · rw [e] at this; rw [this.2 rfl]; rfl
  · rw [e] at this; simp at this; simp [bne_iff_ne]; omega
theorem xor_nat (a k : Nat) (ha : a < 16) (hk : k < 12) : bits .xor .i64 (a : Int) ((k : Int) + 1) = ((a ^^^ (k + 1) : Nat) : Int) := by
  rw [show ((k : Int) + 1) = ((k + 1 : Nat) : Int) by omega, b_xor _ _ (by omega) (by omega)]
theorem together_1 (w k : Nat) (h : w.testBit k = true) : together w (k + 1) = together w k ^^^ (k + 1) := by rw [together, if_pos h]
theorem together_0 (w k : Nat) (h : w.testBit k = false) : together w (k + 1) = together w k := by rw [together, if_neg (by simp [h])]
theorem laidW_1 (w k q : Nat) (hq : q = places.getD k 0) (h : w.testBit k = true) : laidW w (k + 1) = laidW w k ||| 2 ^ (q - 1) := by rw [laidW, if_pos h, hq]
theorem laidW_0 (w k : Nat) (h : w.testBit k = false) : laidW w (k + 1) = laidW w k := by rw [laidW, if_neg (by simp [h])]
theorem readW_1 (w k q : Nat) (hq : q = places.getD k 0) (h : w.testBit (q - 1) = true) : readW w (k + 1) = readW w k ||| 2 ^ k := by subst hq; rw [readW, if_pos h]
theorem readW_0 (w k q : Nat) (hq : q = places.getD k 0) (h : w.testBit (q - 1) = false) : readW w (k + 1) = readW w k := by subst hq; rw [readW, if_neg (by rw [h]; decide)]
theorem checkedW_1 (x t k : Nat) (h : t.testBit k = true) : checkedW x t (k + 1) = checkedW x t k ||| 2 ^ (2 ^ k - 1) := by rw [checkedW, if_pos h]
theorem checkedW_0 (x t k : Nat) (h : t.testBit k = false) : checkedW x t (k + 1) = checkedW x t k := by rw [checkedW, if_neg (by simp [h])]
theorem or_bit (x : Nat) (s : Int) (k j : Nat) (h1 : 0 ≤ s) (hx : x < 4096) (hj : j ≤ 12) : bits .or .i64 (x : Int) (s / 2 ^ k % 2 * 2 ^ j) = (((if s.toNat.testBit k then x ||| 2 ^ j else x) : Nat) : Int) := by
  have hp : (2 : Nat) ^ j < 2 ^ 63 := Nat.pow_lt_pow_right (by decide) (by omega)
  have e := testBit_int s k h1
  rw [Int.toNat_natCast] at e
  have hm : s / 2 ^ k % 2 = 0 ∨ s / 2 ^ k % 2 = 1 := by omega
  cases hb : s.toNat.testBit k
  · rw [hb] at e
    have h0 : s / 2 ^ k % 2 = 0 := by rcases hm with h | h; exact h; rw [h] at e; simp at e
    rw [h0, show (0 : Int) * 2 ^ j = ((0 : Nat) : Int) by simp, b_or _ _ (by omega) (by decide)]
    simp
  · rw [hb] at e
    have h0 : s / 2 ^ k % 2 = 1 := by simpa using e
    rw [h0, show (1 : Int) * 2 ^ j = ((2 ^ j : Nat) : Int) by simp, b_or _ _ (by omega) hp]
    simp
theorem laid_or (s : Int) (k j : Nat) (h1 : 0 ≤ s) (hk : k < 8) (hj : places.getD k 0 = j + 1) : bits .or .i64 ((laidW s.toNat k : Nat) : Int) (s / 2 ^ k % 2 * 2 ^ j) = ((laidW s.toNat (k + 1) : Nat) : Int) := by
  have hb := places_b k hk
  rw [or_bit _ s k j h1 (laidW_lt _ _ (by omega)) (by omega)]
  cases e : s.toNat.testBit k
  · rw [laidW_0 _ _ e]; simp
  · rw [laidW_1 _ _ (j + 1) hj.symm e]; simp
theorem checked_or (x t k : Nat) (hx : x < 4096) (hk : k < 4) : bits .or .i64 ((checkedW x t k : Nat) : Int) ((t : Int) / 2 ^ k % 2 * 2 ^ (2 ^ k - 1)) = ((checkedW x t (k + 1) : Nat) : Int) := by
  have h2 : 2 ^ k ≤ 2 ^ 3 := Nat.pow_le_pow_right (by decide) (by omega)
  rw [or_bit _ (t : Int) k (2 ^ k - 1) (by omega) (checkedW_lt _ _ _ hx (by omega)) (by omega), Int.toNat_natCast]
  cases e : t.testBit k
  · rw [checkedW_0 _ _ _ e]; simp
  · rw [checkedW_1 _ _ _ e]; simp
theorem read_or (s : Int) (k j : Nat) (h1 : 0 ≤ s) (hk : k < 8) (hj : places.getD k 0 = j + 1) : bits .or .i64 ((readW s.toNat k : Nat) : Int) (s / 2 ^ j % 2 * 2 ^ k) = ((readW s.toNat (k + 1) : Nat) : Int) := by
  have := readW_lt s.toNat k (by omega)
  rw [or_bit _ s j k h1 (by omega) (by omega)]
  cases e : s.toNat.testBit j
  · rw [readW_0 _ _ (j + 1) hj.symm e]; simp
  · rw [readW_1 _ _ (j + 1) hj.symm e]; simp
/-- the four checking places -/
def pl4 : Nat → Int | 0 => 1 | 1 => 2 | 2 => 4 | 3 => 8 | _ => 16
attribute [irreducible] pc firstIn together laidW checkedW readW bitHasF bitPutF bitCountF bitFirstF flipF apartF codeF fixF cw mend
end Go.Proofs.Yteekikaebmkioaa
