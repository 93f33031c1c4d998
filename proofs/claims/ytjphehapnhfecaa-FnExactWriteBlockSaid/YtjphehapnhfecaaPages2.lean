/- What the program's and the reference's functions on two pages return, and the laws' own helpers on pages. -/
import Derived.Test.YtjphehapnhfecaaPages
namespace Go.Proofs.Ytjphehapnhfecaa
open Go.RowKit
set_option linter.unusedVariables false

theorem same_1 (a b : Pg) (h : pageValidF a = false) : samePlaceF a b = false := by rw [samePlaceF, h]; rfl
theorem same_2 (a b : Pg) (h : pageValidF b = false) : samePlaceF a b = false := by rw [samePlaceF, h]; cases pageValidF a <;> rfl
theorem same_3 (a b : Pg) (h1 : pageValidF a = true) (h2 : pageValidF b = true) : samePlaceF a b = (a.full && b.full && decide (a.file = b.file) && decide (a.place = b.place)) := by rw [samePlaceF, h1, h2]; rfl
theorem newer_1 (a b : Pg) (h : pageValidF a = false) : newerF a b = ⟨false, 0, 0, 0, 0⟩ := by rw [newerF, h]; rfl
theorem newer_2 (a b : Pg) (h : pageValidF b = false) : newerF a b = ⟨false, 0, 0, 0, 0⟩ := by rw [newerF, h]; cases pageValidF a <;> rfl
theorem newer_3 (a b : Pg) (h1 : pageValidF a = true) (h2 : pageValidF b = true) (h : a.stamp < b.stamp) : newerF a b = b := by rw [newerF, h1, h2]; simp [h]
theorem newer_4 (a b : Pg) (h1 : pageValidF a = true) (h2 : pageValidF b = true) (h : ¬ a.stamp < b.stamp) : newerF a b = a := by rw [newerF, h1, h2]; simp [h]
theorem bel_t {w W w1 : World} (hW : Below w.heap.size w W) (h : Below W.heap.size W w1) : Below w.heap.size w w1 := hW.trans (h.mono hW.size)
theorem bel_s5 {B g : Nat} {a w : World} (h : Below B a w) (hg : B ≤ g) (v0 v1 v2 v3 v4 : Value) :
    Below B a (((((w.setCell ⟨g, 0, none⟩ v0).setCell ⟨g, 1, none⟩ v1).setCell ⟨g, 2, none⟩ v2).setCell ⟨g, 3, none⟩ v3).setCell ⟨g, 4, none⟩ v4) :=
  ((((h.setCell (p := ⟨g, 0, none⟩) hg _).setCell (p := ⟨g, 1, none⟩) hg _).setCell (p := ⟨g, 2, none⟩) hg _).setCell (p := ⟨g, 3, none⟩) hg _).setCell (p := ⟨g, 4, none⟩) hg _
theorem bel_1 (w : World) (o : Obj) : Below w.heap.size w (w.alloc o) := (Below.refl _ _).alloc (Nat.le_refl _) _
theorem bel_2 (w : World) (o o' : Obj) : Below w.heap.size w ((w.alloc o).alloc o') := bel_t (bel_1 w o) (bel_1 _ o')
theorem bel_3 (w : World) (o o' o'' : Obj) : Below w.heap.size w (((w.alloc o).alloc o').alloc o'') := bel_t (bel_2 w o o') (bel_1 _ o'')

theorem pgEq_no (a b : Pg) (h : ¬ (a.full = b.full ∧ a.file = b.file ∧ a.place = b.place ∧ a.value = b.value ∧ a.stamp = b.stamp)) : pgEq a b = false := by
  cases e : pgEq a b
  · rfl
  · rw [pgEq_iff] at e
    subst e
    exact absurd ⟨rfl, rfl, rfl, rfl, rfl⟩ h

set_option maxHeartbeats 2000000 in
theorem eqPage_any (b0 : Bool) (f0 p0 v0 s0 : Int) (b1 : Bool) (f1 p1 v1 s1 : Int) (w : World) :
    Calls Try.prog 48 #[.agg #[.bool b0, .int .i64 f0, .int .i64 p0, .int .i64 v0, .int .i64 s0], .agg #[.bool b1, .int .i64 f1, .int .i64 p1, .int .i64 v1, .int .i64 s1]] w fun e w' => e = .returned (.bool (pgEq ⟨b0, f0, p0, v0, s0⟩ ⟨b1, f1, p1, v1, s1⟩)) ∧ Below w.heap.size w w' := by
  by_cases hall : b0 = b1 ∧ f0 = f1 ∧ p0 = p1 ∧ v0 = v1 ∧ s0 = s1
  · obtain ⟨rfl, rfl, rfl, rfl, rfl⟩ := hall
    have HF := Lib.hid (pgEq_refl ⟨b0, f0, p0, v0, s0⟩)
    go_enter Try.func48, Try.ntmps48
    go_wp2
    go_ret
    exact ⟨by rw [HF.out]; rfl, bel_2 _ _ _⟩
  · have HF := Lib.hid (pgEq_no ⟨b0, f0, p0, v0, s0⟩ ⟨b1, f1, p1, v1, s1⟩ hall)
    by_cases h1 : b0 = b1
    · by_cases h2 : f0 = f1
      · by_cases h3 : p0 = p1
        · by_cases h4 : v0 = v1
          · have h5 : (s0 != s1) = true := by rw [bne_iff_ne]; intro h5; exact hall ⟨h1, h2, h3, h4, h5⟩
            clear hall
            subst h1 h2 h3 h4
            go_enter Try.func48, Try.ntmps48
            go_wp2
            go_ret
            exact ⟨by rw [HF.out]; rfl, bel_2 _ _ _⟩
          · have h5 : (v0 != v1) = true := by rw [bne_iff_ne]; exact h4
            clear hall h4
            subst h1 h2 h3
            go_enter Try.func48, Try.ntmps48
            go_wp2
            go_ret
            exact ⟨by rw [HF.out]; rfl, bel_2 _ _ _⟩
        · have h5 : (p0 != p1) = true := by rw [bne_iff_ne]; exact h3
          clear hall h3
          subst h1 h2
          go_enter Try.func48, Try.ntmps48
          go_wp2
          go_ret
          exact ⟨by rw [HF.out]; rfl, bel_2 _ _ _⟩
      · have h5 : (f0 != f1) = true := by rw [bne_iff_ne]; exact h2
        clear hall h2
        subst h1
        go_enter Try.func48, Try.ntmps48
        go_wp2
        go_ret
        exact ⟨by rw [HF.out]; rfl, bel_2 _ _ _⟩
    · clear hall
      cases b0 <;> cases b1 <;> first | exact absurd rfl h1 | clear h1
      all_goals go_enter Try.func48, Try.ntmps48
      all_goals go_wp2
      all_goals go_ret
      all_goals exact ⟨by rw [HF.out]; rfl, bel_2 _ _ _⟩

set_option maxHeartbeats 2000000 in
theorem toPage_any (b0 : Bool) (f0 p0 v0 s0 : Int) (w : World) :
    Calls Try.prog 8 #[.agg #[.bool b0, .int .i64 f0, .int .i64 p0, .int .i64 v0, .int .i64 s0]] w fun e w' => e = .returned (.agg #[.bool b0, .int .i64 f0, .int .i64 p0, .int .i64 v0, .int .i64 s0]) ∧ Below w.heap.size w w' := by
  go_enter Try.func8, Try.ntmps8
  go_wp2
  refine bodyPost_ret (v := .agg #[.bool b0, .int .i64 f0, .int .i64 p0, .int .i64 v0, .int .i64 s0]) (by simp [results, Try.results8, go_sem]) rfl ⟨rfl, ?_⟩
  exact bel_3 _ _ _ _
end Go.Proofs.Ytjphehapnhfecaa
