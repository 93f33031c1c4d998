/- Plain functions on pages, and plain laws on them. No program in sight. -/
import Derived.Test.YteekikaebmkioaaPlain
import Derived.Test.YteekikaebmkioaaLawKit
namespace Go.Proofs.Yteekikaebmkioaa
open Go.RowKit

/-- two pages are the same -/
def pgEq (a b : Pg) : Bool := (a.full == b.full) && (a.file == b.file) && (a.place == b.place) && (a.value == b.value) && (a.stamp == b.stamp)
theorem pgEq_iff (a b : Pg) : pgEq a b = true ↔ a = b := by
  obtain ⟨a0, a1, a2, a3, a4⟩ := a
  obtain ⟨b0, b1, b2, b3, b4⟩ := b
  simp [pgEq, Pg.mk.injEq, and_assoc]
theorem pgEq_refl (a : Pg) : pgEq a a = true := (pgEq_iff a a).2 rfl
def Pg.zero : Pg := ⟨false, 0, 0, 0, 0⟩
def pageValidF (p : Pg) : Bool :=
  if p.full then inB p.file 0 7 && inB p.place 0 5 && inB p.value 0 9999 && inB p.stamp 1 1000000 else decide (p.file = 0) && decide (p.place = 0) && decide (p.value = 0) && decide (p.stamp = 0)
def samePlaceF (a b : Pg) : Bool := pageValidF a && pageValidF b && a.full && b.full && decide (a.file = b.file) && decide (a.place = b.place)
def newerF (a b : Pg) : Pg := if pageValidF a && pageValidF b then (if a.stamp < b.stamp then b else a) else Pg.zero

theorem pv_zero : pageValidF ⟨false, 0, 0, 0, 0⟩ = true := by decide
theorem pv_empty (f p v s : Int) (h : ¬ (f = 0 ∧ p = 0 ∧ v = 0 ∧ s = 0)) : pageValidF ⟨false, f, p, v, s⟩ = false := by
  simp only [pageValidF, Bool.false_eq_true, if_false, Bool.and_eq_false_iff, decide_eq_false_iff_not]; omega
theorem pv_full (f p v s : Int) : pageValidF ⟨true, f, p, v, s⟩ = (inB f 0 7 && inB p 0 5 && inB v 0 9999 && inB s 1 1000000) := rfl
theorem pv_in (f p v s : Int) (h : ((0 ≤ f ∧ f < 8) ∧ 0 ≤ p ∧ p ≤ 5) ∧ (0 ≤ v ∧ v ≤ 9999) ∧ 1 ≤ s ∧ s ≤ 1000000) : pageValidF ⟨true, f, p, v, s⟩ = true := by
  rw [pv_full, inB_t (by omega) (by omega), inB_t (by omega) (by omega), inB_t (by omega) (by omega), inB_t (by omega) (by omega)]; rfl
theorem pv_out (f p v s : Int) (h : ¬ (((0 ≤ f ∧ f < 8) ∧ 0 ≤ p ∧ p ≤ 5) ∧ (0 ≤ v ∧ v ≤ 9999) ∧ 1 ≤ s ∧ s ≤ 1000000)) : pageValidF ⟨true, f, p, v, s⟩ = false := by
  cases e : pageValidF ⟨true, f, p, v, s⟩
  · rfl
  · rw [pv_full] at e
    simp only [Bool.and_eq_true, inB_iff] at e
    omega
attribute [irreducible] pgEq pageValidF samePlaceF newerF
end Go.Proofs.Yteekikaebmkioaa
