/- What the program's and the reference's functions on two pages return, and the laws' own helpers on pages. -/
import Derived.Test.YteekikaebmkioaaPages
namespace Go.Proofs.Yteekikaebmkioaa
open Go.RowKit
set_option linter.unusedVariables false

theorem same_1 (a b : Pg) (h : pageValidF a = false) : samePlaceF a b = false := by rw [samePlaceF, h]; rfl
theorem same_2 (a b : Pg) (h : pageValidF b = false) : samePlaceF a b = false := by rw [samePlaceF, h]; cases pageValidF a <;> rfl
theorem same_3 (a b : Pg) (h1 : pageValidF a = true) (h2 : pageValidF b = true) : samePlaceF a b = (a.full && b.full && decide (a.file = b.file) && decide (a.place = b.place)) := by rw [samePlaceF, h1, h2]; rfl
theorem newer_1 (a b : Pg) (h : pageValidF a = false) : newerF a b = ⟨false, 0, 0, 0, 0⟩ := by rw [newerF, h]; rfl
theorem newer_2 (a b : Pg) (h : pageValidF b = false) : newerF a b = ⟨false, 0, 0, 0, 0⟩ := by rw [newerF, h]; cases pageValidF a <;> rfl
theorem newer_3 (a b : Pg) (h1 : pageValidF a = true) (h2 : pageValidF b = true) (h : a.stamp < b.stamp) : newerF a b = b := by rw [newerF, h1, h2]; simp [h]
theorem newer_4 (a b : Pg) (h1 : pageValidF a = true) (h2 : pageValidF b = true) (h : ¬ a.stamp < b.stamp) : newerF a b = a := by rw [newerF, h1, h2]; simp [h]
theorem bel_t {w W w1 : World} (hW : Below w.heap.size w W) (h : Below W.heap.size W w1) : Below w.heap.size w w1 := hW.trans (h.mono hW.size)
theorem bel_s5 {B g : Nat} {a w : World} (h : Below B a w) (hg : B ≤ g) (v0 v1 v2 v3 v4 : Value) :
    Below B a (((((w.setCell ⟨g, 0, none⟩ v0).setCell ⟨g, 1, none⟩ v1).setCell ⟨g, 2, none⟩ v2).setCell ⟨g, 3, none⟩ v3).setCell ⟨g, 4, none⟩ v4) :=
  ((((h.setCell (p := ⟨g, 0, none⟩) hg _).setCell (p := ⟨g, 1, none⟩) hg _).setCell (p := ⟨g, 2, none⟩) hg _).setCell (p := ⟨g, 3, none⟩) hg _).setCell (p := ⟨g, 4, none⟩) hg _
theorem bel_1 (w : World) (o : Obj) : Below w.heap.size w (w.alloc o) := (Below.refl _ _).alloc (Nat.le_refl _) _
theorem bel_2 (w : World) (o o' : Obj) : Below w.heap.size w ((w.alloc o).alloc o') := bel_t (bel_1 w o) (bel_1 _ o')
theorem bel_3 (w : World) (o o' o'' : Obj) : Below w.heap.size w (((w.alloc o).alloc o').alloc o'') := bel_t (bel_2 w o o') (bel_1 _ o'')

theorem pgEq_no (a b : Pg) (h : ¬ (a.full = b.full ∧ a.file = b.file ∧ a.place = b.place ∧ a.value = b.value ∧ a.stamp = b.stamp)) : pgEq a b = false := by
  cases e : pgEq a b
  · rfl
  · rw [pgEq_iff] at e
    subst e
    exact absurd ⟨rfl, rfl, rfl, rfl, rfl⟩ h

end Go.Proofs.Yteekikaebmkioaa
