/-auto What the program's and the reference's functions that read a device return. -/
import Derived.Test.YtcmmamgbckglnaaBlocks2
namespace Go.Proofs.Ytcmmamgbckglnaa
open Go.RowKit
set_option linter.unusedVariables false

theorem dv_1 (ds : List Bl) (n : Nat) (hl : ds.length = n) (h : n < 1 ∨ 12 < n) : deviceValidF ds = false := by
  rw [deviceValidF, hl]; simp only [Bool.and_eq_false_iff]; left; simp only [inB, Bool.and_eq_false_iff, decide_eq_false_iff_not]; omega
theorem dv_2 (ds : List Bl) (n k : Nat) (hl : ds.length = n) (hk : k < n) (h : blockValidF (blAt ds k) = false) : deviceValidF ds = false := by
  rw [deviceValidF, allTo_false ds (by rw [hl]; exact hk) h]; simp
theorem dv_3 (ds : List Bl) (n : Nat) (hl : ds.length = n) (h : allTo ds n = true) : deviceValidF ds = inB n 1 12 := by
  rw [deviceValidF, hl, h]; simp
theorem allTo_up (ds : List Bl) (k : Nat) (h : allTo ds k = true) (h1 : blockValidF (blAt ds k) = true) : allTo ds (k + 1) = true := by rw [allTo_succ, h, h1]; rfl

end Go.Proofs.Ytcmmamgbckglnaa
