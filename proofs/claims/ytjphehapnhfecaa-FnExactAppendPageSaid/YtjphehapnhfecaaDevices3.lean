/-auto What the program's and the reference's FreePages return. -/
import Derived.Test.YtjphehapnhfecaaDevices2
namespace Go.Proofs.Ytjphehapnhfecaa
open Go.RowKit
set_option linter.unusedVariables false

theorem fullTo_le (ps : List Pg) (k : Nat) : fullTo ps k ≤ k := by
  induction k with
  | zero => rw [fullTo_zero]; omega
  | succ k ih => rw [fullTo_succ]; split <;> omega
theorem fullTo_t (ps : List Pg) (k : Nat) (h : (pgAt ps k).full = true) : fullTo ps (k + 1) = fullTo ps k + 1 := by rw [fullTo_succ, h]; rfl
theorem fullTo_f (ps : List Pg) (k : Nat) (h : (pgAt ps k).full = false) : fullTo ps (k + 1) = fullTo ps k := by rw [fullTo_succ, h]; rfl
/-- how many of a device's first k pages are not written -/
def freeAt (d : List Bl) : Nat → Nat
  | 0 => 0
  | k + 1 => freeAt d k + (if (pgAt (blAt d (k / 4)).pages (k % 4)).full then 0 else 1)
theorem freeAt_zero (d : List Bl) : freeAt d 0 = 0 := rfl
theorem freeAt_succ (d : List Bl) (k : Nat) : freeAt d (k + 1) = freeAt d k + (if (pgAt (blAt d (k / 4)).pages (k % 4)).full then 0 else 1) := rfl
theorem freeAt_t (d : List Bl) (k : Nat) (h : (pgAt (blAt d (k / 4)).pages (k % 4)).full = true) : freeAt d (k + 1) = freeAt d k := by rw [freeAt_succ, h]; rfl
theorem freeAt_f (d : List Bl) (k : Nat) (h : (pgAt (blAt d (k / 4)).pages (k % 4)).full = false) : freeAt d (k + 1) = freeAt d k + 1 := by rw [freeAt_succ, h]; rfl
theorem freeAt_le (d : List Bl) (k : Nat) : freeAt d k ≤ k := by
  induction k with
  | zero => rw [freeAt_zero]; omega
  | succ k ih => rw [freeAt_succ]; split <;> omega
theorem freeAt_four (d : List Bl) (k : Nat) (h : ∀ i, i < k → (blAt d i).pages.length = 4) : (freeAt d (4 * k) : Int) = freeTo d k := by
  induction k with
  | zero => rw [Nat.mul_zero, freeAt_zero, freeTo_zero]; rfl
  | succ k ih =>
    rw [freeTo_succ, ← ih (fun i hi => h i (by omega)), h k (by omega), show 4 * (k + 1) = 4 * k + 1 + 1 + 1 + 1 by omega]
    rw [freeAt_succ, freeAt_succ, freeAt_succ, freeAt_succ]
    rw [show (4 * k) / 4 = k by omega, show (4 * k) % 4 = 0 by omega, show (4 * k + 1) / 4 = k by omega, show (4 * k + 1) % 4 = 1 by omega, show (4 * k + 1 + 1) / 4 = k by omega, show (4 * k + 1 + 1) % 4 = 2 by omega, show (4 * k + 1 + 1 + 1) / 4 = k by omega, show (4 * k + 1 + 1 + 1) % 4 = 3 by omega]
    rw [fullTo_succ, fullTo_succ, fullTo_succ, fullTo_succ, fullTo_zero]
    cases (pgAt (blAt d k).pages 0).full <;> cases (pgAt (blAt d k).pages 1).full <;> cases (pgAt (blAt d k).pages 2).full <;> cases (pgAt (blAt d k).pages 3).full <;> simp <;> omega
attribute [irreducible] freeAt
theorem fp_1 (d : List Bl) (h : deviceValidF d = false) : freePagesF d = -1 := by rw [freePagesF, h]; rfl
theorem fp_2 (d : List Bl) (n : Nat) (hl : d.length = n) (h : deviceValidF d = true) : freePagesF d = freeTo d n := by rw [freePagesF, h, hl]; rfl
theorem fp_4 (d : List Bl) (n k : Nat) (hl : d.length = n) (h : deviceValidF d = true) (hk : k ≤ n) : freeTo d k = (freeAt d (4 * k) : Int) :=
  (freeAt_four d k (fun i hi => bv_len _ (dv_at d n i hl h (by omega)))).symm

end Go.Proofs.Ytjphehapnhfecaa
