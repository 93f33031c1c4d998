/-auto What the program's and the reference's ReadPage return. -/
import Derived.Test.YtjphehapnhfecaaDevices
import Derived.RegionTactic
import Derived.ChangeAlike
namespace Go.Proofs.Ytjphehapnhfecaa
open Go.RowKit
set_option linter.unusedVariables false

theorem rp_1 (ds : List Bl) (a : Int) (h : deviceValidF ds = false) : readPageF ds a = (Pg.zero, false) := by rw [readPageF, h]; rfl
theorem rp_2 (ds : List Bl) (n : Nat) (a : Int) (hl : ds.length = n) (h : ¬ (0 ≤ a ∧ a < 4 * n)) : readPageF ds a = (Pg.zero, false) := by
  rw [readPageF, hl, if_neg]
  simp only [Bool.and_eq_true, inB, decide_eq_true_eq]
  omega
theorem rp_3 (ds : List Bl) (n q r : Nat) (a : Int) (hl : ds.length = n) (hv : deviceValidF ds = true) (ha : a = ((4 * q + r : Nat) : Int)) (hr : r < 4) (hq : q < n) :
    readPageF ds a = (pgAt (blAt ds q).pages r, (pgAt (blAt ds q).pages r).full) := by
  rw [readPageF, hv, hl, inB_t (by omega) (by omega)]
  rw [show (a / 4).toNat = q by omega, show (a % 4).toNat = r by omega]
  rfl
theorem allTo_at (ds : List Bl) {k n : Nat} (h : allTo ds n = true) (hk : k < n) : blockValidF (blAt ds k) = true := by
  cases e : blockValidF (blAt ds k)
  · rw [allTo_false ds hk e] at h; cases h
  · rfl
theorem dv_at (ds : List Bl) (n k : Nat) (hl : ds.length = n) (h : deviceValidF ds = true) (hk : k < n) : blockValidF (blAt ds k) = true := by
  rw [deviceValidF, Bool.and_eq_true, hl] at h
  exact allTo_at ds h.2 hk
theorem dv_len (ds : List Bl) (n : Nat) (hl : ds.length = n) (h : deviceValidF ds = true) : 1 ≤ n ∧ n ≤ 12 := by
  rw [deviceValidF, Bool.and_eq_true, hl] at h
  have := h.1
  simp only [inB, Bool.and_eq_true, decide_eq_true_eq] at this
  omega

end Go.Proofs.Ytjphehapnhfecaa
