/- More plain laws on sets and words. -/
import Derived.Test.YtejppibmjckckaaSetLaws
namespace Go.Proofs.Ytejppibmjckckaa
open Go.RowKit
set_option linter.unusedVariables false

/-- how many of the numbers below k the set has -/
def cntF (s : Int) : Nat → Nat
  | 0 => 0
  | k + 1 => cntF s k + (if bitHasF s k then 1 else 0)
def cntN (x : Nat) : Nat → Nat
  | 0 => 0
  | k + 1 => cntN x k + (if x.testBit k then 1 else 0)
theorem cntN_shift (x k : Nat) : cntN x (k + 1) = x % 2 + cntN (x / 2) k := by
  induction k with
  | zero => simp only [cntN, Nat.testBit_zero]; rcases Nat.mod_two_eq_zero_or_one x with h | h <;> simp [h]
  | succ k ih => rw [cntN, ih, cntN, Nat.testBit_succ]; omega
theorem pc_cnt (k : Nat) : ∀ x, pc k x = cntN x k := by
  induction k with
  | zero => intro x; simp [pc, cntN]
  | succ k ih => intro x; rw [cntN_shift, pc, ih]
theorem cnt_in (s : Int) (h : 0 ≤ s ∧ s ≤ 65535) (k : Nat) (hk : k ≤ 16) : cntF s k = cntN s.toNat k := by
  induction k with
  | zero => rfl
  | succ k ih => rw [cntF, cntN, ih (by omega), has_in s (k : Int) ⟨h, by omega, by omega⟩, Int.toNat_natCast]
theorem cnt_le (s : Int) (k : Nat) : cntF s k ≤ k := by
  induction k with
  | zero => simp [cntF]
  | succ k ih => rw [cntF]; split <;> omega
theorem count_cnt (s : Int) (h : 0 ≤ s ∧ s ≤ 65535) : (bitCountF s == ((cntF s 16 : Nat) : Int)) = true := by
  rw [cnt_in s h 16 (by omega), ← pc_cnt, bitCountF, inB_t h.1 h.2]; simp
theorem count_out (s : Int) (h : ¬ (0 ≤ s ∧ s ≤ 65535)) : bitCountF s = -1 := by rw [bitCountF, if_neg]; simp [inB]; omega
theorem cnt_1 (s : Int) (k : Nat) (h : bitHasF s k = true) : cntF s (k + 1) = cntF s k + 1 := by rw [cntF, h]; rfl
theorem cnt_0 (s : Int) (k : Nat) (h : bitHasF s k = false) : cntF s (k + 1) = cntF s k := by rw [cntF, h]; rfl

theorem put_again (s t : Int) (b : Bool) (h : (0 ≤ s ∧ s ≤ 65535) ∧ 0 ≤ t ∧ t ≤ 15) : bitPutF (bitPutF s t b) t b = bitPutF s t b := by
  have hp := put_in s t b h
  cases b
  · rw [put_false _ t ⟨hp, h.2⟩]
    rw [put_false s t h, Int.toNat_natCast]
    congr 1
    apply Nat.eq_of_testBit_eq
    intro i
    simp only [Nat.testBit_xor, Nat.testBit_and, Nat.testBit_two_pow]
    cases s.toNat.testBit i <;> cases decide (t.toNat = i) <;> rfl
  · rw [put_true _ t ⟨hp, h.2⟩]
    rw [put_true s t h, Int.toNat_natCast]
    congr 1
    apply Nat.eq_of_testBit_eq
    intro i
    simp only [Nat.testBit_or, Nat.testBit_two_pow]
    cases s.toNat.testBit i <;> cases decide (t.toNat = i) <;> rfl

theorem first_cases (s : Int) : (bitFirstF s = -1 ∧ bitCountF s ≤ 0) ∨ (∃ n : Nat, n ≤ 15 ∧ bitFirstF s = n ∧ bitHasF s n = true ∧ ∀ j : Nat, j < n → bitHasF s j = false) := by
  have gen : ∀ k, k ≤ 16 → (∀ j : Nat, j < k → bitHasF s j = false) ∨ (∃ n : Nat, n < k ∧ bitHasF s n = true ∧ ∀ j : Nat, j < n → bitHasF s j = false) := by
    intro k
    induction k with
    | zero => intro _; left; intro j hj; omega
    | succ k ih =>
      intro hk
      rcases ih (by omega) with h | ⟨n, hn, h1, h2⟩
      · cases e : bitHasF s k
        · left
          intro j hj
          by_cases ej : j = k
          · rw [ej]; exact e
          · exact h j (by omega)
        · exact .inr ⟨k, by omega, e, h⟩
      · exact .inr ⟨n, by omega, h1, h2⟩
  rcases gen 16 (by omega) with h | ⟨n, hn, h1, h2⟩
  · left
    refine ⟨bitFirst_none s h, ?_⟩
    by_cases hin : 0 ≤ s ∧ s ≤ 65535
    · have h0 : ∀ k, k ≤ 16 → cntF s k = 0 := by
        intro k
        induction k with
        | zero => intro _; rfl
        | succ k ih => intro hk; rw [cnt_0 s k (h k (by omega)), ih (by omega)]
      have := count_cnt s hin
      rw [h0 16 (by omega)] at this
      have := beq_iff_eq.1 this
      omega
    · rw [count_out s hin]; omega
  · exact .inr ⟨n, by omega, bitFirst_step s n (by omega) h1 h2, h1, h2⟩

theorem codes_all : ∀ d, d < 256 → together (cw d) 12 = 0 ∧ readW (cw d) 8 = d ∧ 3 ≤ pc 16 (cw d ^^^ cw ((d + 1) % 256)) ∧
    ∀ p, p < 12 → together (cw d ^^^ 2 ^ p) 12 = p + 1 ∧ readW (mend (cw d ^^^ 2 ^ p) (p + 1)) 8 = d := by decide +kernel
theorem fixes_two : ∀ a, a < 32 → ∀ b, b < 128 → together (128 * a + b) 12 ≤ 12 → cw (readW (mend (128 * a + b) (together (128 * a + b) 12)) 8) = mend (128 * a + b) (together (128 * a + b) 12) := by decide +kernel
theorem fixes_all (x : Nat) (hx : x < 4096) (h : together x 12 ≤ 12) : cw (readW (mend x (together x 12)) 8) = mend x (together x 12) := by
  have e : 128 * (x / 128) + x % 128 = x := Nat.div_add_mod x 128
  have := fixes_two (x / 128) (by omega) (x % 128) (Nat.mod_lt _ (by decide))
  rw [e] at this
  exact this h
attribute [irreducible] cntF cntN
end Go.Proofs.Ytejppibmjckckaa
