/- Plain laws on the words of data and on mended words. -/
import Derived.Test.YtejppibmjckckaaSetLaws2
namespace Go.Proofs.Ytejppibmjckckaa
open Go.RowKit
set_option linter.unusedVariables false

theorem code_out (s : Int) (h : ¬ (0 ≤ s ∧ s ≤ 255)) : codeF s = -1 := by rw [codeF, if_neg]; simp [inB]; omega
theorem code_is (s : Int) (h : 0 ≤ s ∧ s ≤ 255) : codeF s = ((cw s.toNat : Nat) : Int) := by rw [codeF, inB_t h.1 h.2, if_pos rfl]
theorem fix_nat (x : Nat) (hx : x < 4096) (h : together x 12 ≤ 12) : fixF (x : Int) = (((readW (mend x (together x 12)) 8 : Nat) : Int), ((together x 12 : Nat) : Int)) := by
  have := fix_in (x : Int) (by omega) (by omega) (by rw [Int.toNat_natCast]; exact h)
  rw [Int.toNat_natCast] at this
  exact this
theorem flip_nat (x : Nat) (hx : x < 4096) (j : Nat) (hj : j < 12) : flipF (x : Int) ((j : Int) + 1) = ((x ^^^ 2 ^ j : Nat) : Int) := by
  rw [flip_in (x : Int) ((j : Int) + 1) ⟨by omega, by omega⟩, Int.toNat_natCast, show ((j : Int) + 1).toNat - 1 = j by omega]
theorem mend_zero (x : Nat) : mend x 0 = x := by rw [mend, if_pos rfl]
theorem code_laws (s : Int) (h : 0 ≤ s ∧ s ≤ 255) : 0 ≤ codeF s ∧ codeF s ≤ 4095 ∧ 3 ≤ apartF (codeF s) (codeF ((s + 1) % 256)) ∧ Hid (fixF (codeF s) = (s, 0)) ∧ Hid (3 ≤ apartF (codeF s) (codeF ((s + 1) % 256))) ∧
    Hid (∀ j : Nat, j < 12 → fixF (flipF (codeF s) ((j : Int) + 1)) = (s, (j : Int) + 1)) := by
  obtain ⟨d, rfl⟩ := Int.eq_ofNat_of_zero_le h.1
  have hd : d < 256 := by omega
  obtain ⟨h1, h2, h3, h4⟩ := codes_all d hd
  have hlt := cw_lt d
  have hlt2 := cw_lt ((d + 1) % 256)
  have e := code_is (d : Int) h
  rw [Int.toNat_natCast] at e
  have e2 : codeF (((d : Int) + 1) % 256) = ((cw ((d + 1) % 256) : Nat) : Int) := by
    rw [code_is _ ⟨by omega, by omega⟩, show (((d : Int) + 1) % 256).toNat = (d + 1) % 256 by omega]
  have ha : 3 ≤ apartF (codeF (d : Int)) (codeF (((d : Int) + 1) % 256)) := by
    rw [e, e2, apart_is _ _ ⟨by omega, by omega⟩, Int.toNat_natCast, Int.toNat_natCast]; omega
  refine ⟨by omega, by omega, ha, ?_, ha, ?_⟩
  · show fixF _ = _
    rw [e, fix_nat _ hlt (by omega), h1, mend_zero, h2]; rfl
  · intro j hj
    obtain ⟨g1, g2⟩ := h4 j hj
    rw [e, flip_nat _ hlt j hj, fix_nat _ (xor_lt _ _ 12 hlt (Nat.pow_lt_pow_right (by decide) hj)) (by omega), g1, g2]; rfl

theorem fix_laws (s : Int) : ((fixF s).1 = -1 ∧ (fixF s).2 = -1) ∨ (0 ≤ (fixF s).1 ∧ (fixF s).2 = 0 ∧ codeF (fixF s).1 = s) ∨ (0 ≤ (fixF s).1 ∧ 1 ≤ (fixF s).2 ∧ codeF (fixF s).1 = flipF s (fixF s).2) := by
  by_cases hin : 0 ≤ s ∧ s ≤ 4095
  · by_cases hfar : 12 < together s.toNat 12
    · left; rw [fix_far s hin.1 hin.2 hfar]; exact ⟨rfl, rfl⟩
    · obtain ⟨x, rfl⟩ := Int.eq_ofNat_of_zero_le hin.1
      rw [Int.toNat_natCast] at hfar
      have hx : x < 4096 := by omega
      have hr := readW_lt (mend x (together x 12)) 8 (by omega)
      have hf := fixes_all x hx (by omega)
      rw [fix_nat x hx (by omega)]
      dsimp only
      have hc : codeF ((readW (mend x (together x 12)) 8 : Nat) : Int) = ((mend x (together x 12) : Nat) : Int) := by
        rw [code_is _ ⟨by omega, by omega⟩, Int.toNat_natCast, hf]
      by_cases h0 : together x 12 = 0
      · right; left
        refine ⟨by omega, by omega, ?_⟩
        rw [hc, h0, mend_zero]
      · right; right
        refine ⟨by omega, by omega, ?_⟩
        have := flip_nat x hx (together x 12 - 1) (by omega)
        rw [hc, mend, if_neg h0, ← this]
        congr 1
        omega
  · left; rw [fix_out s hin]; exact ⟨rfl, rfl⟩
end Go.Proofs.Ytejppibmjckckaa
