/- What the program's and the reference's functions on two pages return, and the laws' own helpers on pages. -/
import Derived.Test.YtimcegafjphkkaaPages
namespace Go.Proofs.Ytimcegafjphkkaa
open Go.RowKit
set_option linter.unusedVariables false

theorem same_1 (a b : Pg) (h : pageValidF a = false) : samePlaceF a b = false := by rw [samePlaceF, h]; rfl
theorem same_2 (a b : Pg) (h : pageValidF b = false) : samePlaceF a b = false := by rw [samePlaceF, h]; cases pageValidF a <;> rfl
theorem same_3 (a b : Pg) (h1 : pageValidF a = true) (h2 : pageValidF b = true) : samePlaceF a b = (a.full && b.full && decide (a.file = b.file) && decide (a.place = b.place)) := by rw [samePlaceF, h1, h2]; rfl
theorem newer_1 (a b : Pg) (h : pageValidF a = false) : newerF a b = ⟨false, 0, 0, 0, 0⟩ := by rw [newerF, h]; rfl
theorem newer_2 (a b : Pg) (h : pageValidF b = false) : newerF a b = ⟨false, 0, 0, 0, 0⟩ := by rw [newerF, h]; cases pageValidF a <;> rfl
theorem newer_3 (a b : Pg) (h1 : pageValidF a = true) (h2 : pageValidF b = true) (h : a.stamp < b.stamp) : newerF a b = b := by rw [newerF, h1, h2]; simp [h]
theorem newer_4 (a b : Pg) (h1 : pageValidF a = true) (h2 : pageValidF b = true) (h : ¬ a.stamp < b.stamp) : newerF a b = a := by rw [newerF, h1, h2]; simp [h]
theorem bel_t {w W w1 : World} (hW : Below w.heap.size w W) (h : Below W.heap.size W w1) : Below w.heap.size w w1 := hW.trans (h.mono hW.size)
theorem bel_s5 {B g : Nat} {a w : World} (h : Below B a w) (hg : B ≤ g) (v0 v1 v2 v3 v4 : Value) :
    Below B a (((((w.setCell ⟨g, 0, none⟩ v0).setCell ⟨g, 1, none⟩ v1).setCell ⟨g, 2, none⟩ v2).setCell ⟨g, 3, none⟩ v3).setCell ⟨g, 4, none⟩ v4) :=
  ((((h.setCell (p := ⟨g, 0, none⟩) hg _).setCell (p := ⟨g, 1, none⟩) hg _).setCell (p := ⟨g, 2, none⟩) hg _).setCell (p := ⟨g, 3, none⟩) hg _).setCell (p := ⟨g, 4, none⟩) hg _
theorem bel_1 (w : World) (o : Obj) : Below w.heap.size w (w.alloc o) := (Below.refl _ _).alloc (Nat.le_refl _) _
theorem bel_2 (w : World) (o o' : Obj) : Below w.heap.size w ((w.alloc o).alloc o') := bel_t (bel_1 w o) (bel_1 _ o')
theorem bel_3 (w : World) (o o' o'' : Obj) : Below w.heap.size w (((w.alloc o).alloc o').alloc o'') := bel_t (bel_2 w o o') (bel_1 _ o'')

set_option maxHeartbeats 2000000 in
theorem iSame (b0 : Bool) (f0 p0 v0 s0 : Int) (b1 : Bool) (f1 p1 v1 s1 : Int) (w : World) :
    Calls Try.prog 31 #[.agg #[.bool b0, .int .i64 f0, .int .i64 p0, .int .i64 v0, .int .i64 s0], .agg #[.bool b1, .int .i64 f1, .int .i64 p1, .int .i64 v1, .int .i64 s1]] w fun e w' => e = .returned (.bool (samePlaceF ⟨b0, f0, p0, v0, s0⟩ ⟨b1, f1, p1, v1, s1⟩)) ∧ Below w.heap.size w w' := by
  cases e1 : pageValidF ⟨b0, f0, p0, v0, s0⟩
  · have HF := Lib.hid (same_1 _ ⟨b1, f1, p1, v1, s1⟩ e1)
    go_enter Try.func31, Try.ntmps31
    go_wp2_with (go_at_call 27; refine (iPageValid _ _ _ _ _ _).mono ?_; rintro e w1 ⟨rfl, hb1⟩; obtain ⟨hc1, hf1⟩ := bcell hb1)
    go_ret
    exact ⟨by rw [HF.out]; rfl, bel_t (bel_2 _ _ _) hb1⟩
  · cases e2 : pageValidF ⟨b1, f1, p1, v1, s1⟩
    · have HF := Lib.hid (same_2 ⟨b0, f0, p0, v0, s0⟩ _ e2)
      go_enter Try.func31, Try.ntmps31
      go_wp2_with fail
      refine (iPageValid _ _ _ _ _ _).mono ?_
      rintro e w1 ⟨rfl, hb1⟩
      obtain ⟨hc1, hf1⟩ := bcell hb1
      go_wp2_with fail
      refine (iPageValid _ _ _ _ _ _).mono ?_
      rintro e w2 ⟨rfl, hb2⟩
      go_wp2
      go_ret
      exact ⟨by rw [HF.out]; rfl, bel_t (bel_t (bel_2 _ _ _) hb1) hb2⟩
    · have HF := Lib.hid (same_3 _ _ e1 e2)
      simp only [] at HF
      by_cases ef : f0 = f1
      all_goals by_cases ep : p0 = p1
      all_goals cases b0
      all_goals cases b1
      all_goals
        try subst ef
        try subst ep
        try have xf : (f0 == f1) = false := by simpa using ef
        try have xp : (p0 == p1) = false := by simpa using ep
        go_enter Try.func31, Try.ntmps31
        go_wp2_with fail
        refine (iPageValid _ _ _ _ _ _).mono ?_
        rintro e w1 ⟨rfl, hb1⟩
        obtain ⟨hc1, hf1⟩ := bcell hb1
        have hz1 : w.heap.size + 1 < w1.heap.size := by have := hb1.size; simp at this; omega
        have hz0 : w.heap.size < w1.heap.size := by omega
        go_wp2_with fail
        refine (iPageValid _ _ _ _ _ _).mono ?_
        rintro e w2 ⟨rfl, hb2⟩
        obtain ⟨hc2, hf2⟩ := bcell hb2
        go_wp2
        go_ret
        refine ⟨by rw [HF.out]; simp [*], bel_t (bel_t (bel_2 _ _ _) hb1) hb2⟩

set_option maxHeartbeats 2000000 in
theorem sSame (b0 : Bool) (f0 p0 v0 s0 : Int) (b1 : Bool) (f1 p1 v1 s1 : Int) (w : World) :
    Calls Try.prog 30 #[.agg #[.bool b0, .int .i64 f0, .int .i64 p0, .int .i64 v0, .int .i64 s0], .agg #[.bool b1, .int .i64 f1, .int .i64 p1, .int .i64 v1, .int .i64 s1]] w fun e w' => e = .returned (.bool (samePlaceF ⟨b0, f0, p0, v0, s0⟩ ⟨b1, f1, p1, v1, s1⟩)) ∧ Below w.heap.size w w' := by
  cases e1 : pageValidF ⟨b0, f0, p0, v0, s0⟩
  · have HF := Lib.hid (same_1 _ ⟨b1, f1, p1, v1, s1⟩ e1)
    go_enter Try.func30, Try.ntmps30
    go_wp2_with (go_at_call 25; refine (sPageValid _ _ _ _ _ _).mono ?_; rintro e w1 ⟨rfl, hb1⟩; obtain ⟨hc1, hf1⟩ := bcell hb1)
    go_ret
    exact ⟨by rw [HF.out]; rfl, bel_t (bel_2 _ _ _) hb1⟩
  · cases e2 : pageValidF ⟨b1, f1, p1, v1, s1⟩
    · have HF := Lib.hid (same_2 ⟨b0, f0, p0, v0, s0⟩ _ e2)
      go_enter Try.func30, Try.ntmps30
      go_wp2_with fail
      refine (sPageValid _ _ _ _ _ _).mono ?_
      rintro e w1 ⟨rfl, hb1⟩
      obtain ⟨hc1, hf1⟩ := bcell hb1
      go_wp2_with fail
      refine (sPageValid _ _ _ _ _ _).mono ?_
      rintro e w2 ⟨rfl, hb2⟩
      go_wp2
      go_ret
      exact ⟨by rw [HF.out]; rfl, bel_t (bel_t (bel_2 _ _ _) hb1) hb2⟩
    · have HF := Lib.hid (same_3 _ _ e1 e2)
      simp only [] at HF
      by_cases ef : f0 = f1
      all_goals by_cases ep : p0 = p1
      all_goals cases b0
      all_goals cases b1
      all_goals
        try subst ef
        try subst ep
        try have xf : (f0 == f1) = false := by simpa using ef
        try have xp : (p0 == p1) = false := by simpa using ep
        go_enter Try.func30, Try.ntmps30
        go_wp2_with fail
        refine (sPageValid _ _ _ _ _ _).mono ?_
        rintro e w1 ⟨rfl, hb1⟩
        obtain ⟨hc1, hf1⟩ := bcell hb1
        have hz1 : w.heap.size + 1 < w1.heap.size := by have := hb1.size; simp at this; omega
        have hz0 : w.heap.size < w1.heap.size := by omega
        go_wp2_with fail
        refine (sPageValid _ _ _ _ _ _).mono ?_
        rintro e w2 ⟨rfl, hb2⟩
        obtain ⟨hc2, hf2⟩ := bcell hb2
        go_wp2
        go_ret
        refine ⟨by rw [HF.out]; simp [*], bel_t (bel_t (bel_2 _ _ _) hb1) hb2⟩

set_option maxHeartbeats 2000000 in
theorem iNewer (b0 : Bool) (f0 p0 v0 s0 : Int) (b1 : Bool) (f1 p1 v1 s1 : Int) (w : World) :
    Calls Try.prog 35 #[.agg #[.bool b0, .int .i64 f0, .int .i64 p0, .int .i64 v0, .int .i64 s0], .agg #[.bool b1, .int .i64 f1, .int .i64 p1, .int .i64 v1, .int .i64 s1]] w fun e w' => e = .returned (newerF ⟨b0, f0, p0, v0, s0⟩ ⟨b1, f1, p1, v1, s1⟩).val ∧ Below w.heap.size w w' := by
  cases e1 : pageValidF ⟨b0, f0, p0, v0, s0⟩
  · have HF := Lib.hid (newer_1 _ ⟨b1, f1, p1, v1, s1⟩ e1)
    go_enter Try.func35, Try.ntmps35
    go_wp2_with fail
    refine (iPageValid _ _ _ _ _ _).mono ?_
    rintro e w1 ⟨rfl, hb1⟩
    obtain ⟨hc1, hf1⟩ := bcell hb1
    go_wp2
    refine bodyPost_ret (v := .agg #[.bool false, .int .i64 0, .int .i64 0, .int .i64 0, .int .i64 0]) (by simp [results, Try.results35, go_sem, hc1]) rfl ⟨by rw [HF.out]; rfl, bel_s5 (bel_t (bel_3 _ _ _ _) hb1) (by omega) _ _ _ _ _⟩
  · cases e2 : pageValidF ⟨b1, f1, p1, v1, s1⟩
    · have HF := Lib.hid (newer_2 ⟨b0, f0, p0, v0, s0⟩ _ e2)
      go_enter Try.func35, Try.ntmps35
      go_wp2_with fail
      refine (iPageValid _ _ _ _ _ _).mono ?_
      rintro e w1 ⟨rfl, hb1⟩
      obtain ⟨hc1, hf1⟩ := bcell hb1
      have hz2 : w.heap.size + 1 + 1 < w1.heap.size := by have := hb1.size; simp at this; omega
      have hz1 : w.heap.size + 1 < w1.heap.size := by omega
      have hz0 : w.heap.size < w1.heap.size := by omega
      go_wp2_with fail
      refine (iPageValid _ _ _ _ _ _).mono ?_
      rintro e w2 ⟨rfl, hb2⟩
      obtain ⟨hc2, hf2⟩ := bcell hb2
      go_wp2
      refine bodyPost_ret (v := .agg #[.bool false, .int .i64 0, .int .i64 0, .int .i64 0, .int .i64 0]) (by simp [results, Try.results35, go_sem, hc2, hc1, hz2]) rfl ⟨by rw [HF.out]; rfl, bel_s5 (bel_t (bel_t (bel_3 _ _ _ _) hb1) hb2) (by omega) _ _ _ _ _⟩
    · by_cases h : s0 < s1
      · have HF := Lib.hid (newer_3 _ _ e1 e2 h)
        go_enter Try.func35, Try.ntmps35
        go_wp2_with fail
        refine (iPageValid _ _ _ _ _ _).mono ?_
        rintro e w1 ⟨rfl, hb1⟩
        obtain ⟨hc1, hf1⟩ := bcell hb1
        have hz2 : w.heap.size + 1 + 1 < w1.heap.size := by have := hb1.size; simp at this; omega
        have hz1 : w.heap.size + 1 < w1.heap.size := by omega
        have hz0 : w.heap.size < w1.heap.size := by omega
        go_wp2_with fail
        refine (iPageValid _ _ _ _ _ _).mono ?_
        rintro e w2 ⟨rfl, hb2⟩
        obtain ⟨hc2, hf2⟩ := bcell hb2
        go_wp2
        refine bodyPost_ret (v := .agg #[.bool b1, .int .i64 f1, .int .i64 p1, .int .i64 v1, .int .i64 s1]) (by simp [results, Try.results35, go_sem, hc2, hc1, hz2]) rfl ⟨by rw [HF.out]; rfl, bel_s5 (bel_t (bel_t (bel_3 _ _ _ _) hb1) hb2) (by omega) _ _ _ _ _⟩
      · have HF := Lib.hid (newer_4 _ _ e1 e2 h)
        go_enter Try.func35, Try.ntmps35
        go_wp2_with fail
        refine (iPageValid _ _ _ _ _ _).mono ?_
        rintro e w1 ⟨rfl, hb1⟩
        obtain ⟨hc1, hf1⟩ := bcell hb1
        have hz2 : w.heap.size + 1 + 1 < w1.heap.size := by have := hb1.size; simp at this; omega
        have hz1 : w.heap.size + 1 < w1.heap.size := by omega
        have hz0 : w.heap.size < w1.heap.size := by omega
        go_wp2_with fail
        refine (iPageValid _ _ _ _ _ _).mono ?_
        rintro e w2 ⟨rfl, hb2⟩
        obtain ⟨hc2, hf2⟩ := bcell hb2
        go_wp2
        refine bodyPost_ret (v := .agg #[.bool b0, .int .i64 f0, .int .i64 p0, .int .i64 v0, .int .i64 s0]) (by simp [results, Try.results35, go_sem, hc2, hc1, hz2]) rfl ⟨by rw [HF.out]; rfl, bel_s5 (bel_t (bel_t (bel_3 _ _ _ _) hb1) hb2) (by omega) _ _ _ _ _⟩

set_option maxHeartbeats 2000000 in
theorem sNewer (b0 : Bool) (f0 p0 v0 s0 : Int) (b1 : Bool) (f1 p1 v1 s1 : Int) (w : World) :
    Calls Try.prog 34 #[.agg #[.bool b0, .int .i64 f0, .int .i64 p0, .int .i64 v0, .int .i64 s0], .agg #[.bool b1, .int .i64 f1, .int .i64 p1, .int .i64 v1, .int .i64 s1]] w fun e w' => e = .returned (newerF ⟨b0, f0, p0, v0, s0⟩ ⟨b1, f1, p1, v1, s1⟩).val ∧ Below w.heap.size w w' := by
  cases e1 : pageValidF ⟨b0, f0, p0, v0, s0⟩
  · have HF := Lib.hid (newer_1 _ ⟨b1, f1, p1, v1, s1⟩ e1)
    go_enter Try.func34, Try.ntmps34
    go_wp2_with fail
    refine (sPageValid _ _ _ _ _ _).mono ?_
    rintro e w1 ⟨rfl, hb1⟩
    obtain ⟨hc1, hf1⟩ := bcell hb1
    go_wp2
    refine bodyPost_ret (v := .agg #[.bool false, .int .i64 0, .int .i64 0, .int .i64 0, .int .i64 0]) (by simp [results, Try.results34, go_sem, hc1]) rfl ⟨by rw [HF.out]; rfl, bel_s5 (bel_t (bel_3 _ _ _ _) hb1) (by omega) _ _ _ _ _⟩
  · cases e2 : pageValidF ⟨b1, f1, p1, v1, s1⟩
    · have HF := Lib.hid (newer_2 ⟨b0, f0, p0, v0, s0⟩ _ e2)
      go_enter Try.func34, Try.ntmps34
      go_wp2_with fail
      refine (sPageValid _ _ _ _ _ _).mono ?_
      rintro e w1 ⟨rfl, hb1⟩
      obtain ⟨hc1, hf1⟩ := bcell hb1
      have hz2 : w.heap.size + 1 + 1 < w1.heap.size := by have := hb1.size; simp at this; omega
      have hz1 : w.heap.size + 1 < w1.heap.size := by omega
      have hz0 : w.heap.size < w1.heap.size := by omega
      go_wp2_with fail
      refine (sPageValid _ _ _ _ _ _).mono ?_
      rintro e w2 ⟨rfl, hb2⟩
      obtain ⟨hc2, hf2⟩ := bcell hb2
      go_wp2
      refine bodyPost_ret (v := .agg #[.bool false, .int .i64 0, .int .i64 0, .int .i64 0, .int .i64 0]) (by simp [results, Try.results34, go_sem, hc2, hc1, hz2]) rfl ⟨by rw [HF.out]; rfl, bel_s5 (bel_t (bel_t (bel_3 _ _ _ _) hb1) hb2) (by omega) _ _ _ _ _⟩
    · by_cases h : s0 < s1
      · have HF := Lib.hid (newer_3 _ _ e1 e2 h)
        go_enter Try.func34, Try.ntmps34
        go_wp2_with fail
        refine (sPageValid _ _ _ _ _ _).mono ?_
        rintro e w1 ⟨rfl, hb1⟩
        obtain ⟨hc1, hf1⟩ := bcell hb1
        have hz2 : w.heap.size + 1 + 1 < w1.heap.size := by have := hb1.size; simp at this; omega
        have hz1 : w.heap.size + 1 < w1.heap.size := by omega
        have hz0 : w.heap.size < w1.heap.size := by omega
        go_wp2_with fail
        refine (sPageValid _ _ _ _ _ _).mono ?_
        rintro e w2 ⟨rfl, hb2⟩
        obtain ⟨hc2, hf2⟩ := bcell hb2
        go_wp2
        refine bodyPost_ret (v := .agg #[.bool b1, .int .i64 f1, .int .i64 p1, .int .i64 v1, .int .i64 s1]) (by simp [results, Try.results34, go_sem, hc2, hc1, hz2]) rfl ⟨by rw [HF.out]; rfl, bel_s5 (bel_t (bel_t (bel_3 _ _ _ _) hb1) hb2) (by omega) _ _ _ _ _⟩
      · have HF := Lib.hid (newer_4 _ _ e1 e2 h)
        go_enter Try.func34, Try.ntmps34
        go_wp2_with fail
        refine (sPageValid _ _ _ _ _ _).mono ?_
        rintro e w1 ⟨rfl, hb1⟩
        obtain ⟨hc1, hf1⟩ := bcell hb1
        have hz2 : w.heap.size + 1 + 1 < w1.heap.size := by have := hb1.size; simp at this; omega
        have hz1 : w.heap.size + 1 < w1.heap.size := by omega
        have hz0 : w.heap.size < w1.heap.size := by omega
        go_wp2_with fail
        refine (sPageValid _ _ _ _ _ _).mono ?_
        rintro e w2 ⟨rfl, hb2⟩
        obtain ⟨hc2, hf2⟩ := bcell hb2
        go_wp2
        refine bodyPost_ret (v := .agg #[.bool b0, .int .i64 f0, .int .i64 p0, .int .i64 v0, .int .i64 s0]) (by simp [results, Try.results34, go_sem, hc2, hc1, hz2]) rfl ⟨by rw [HF.out]; rfl, bel_s5 (bel_t (bel_t (bel_3 _ _ _ _) hb1) hb2) (by omega) _ _ _ _ _⟩

theorem pgEq_no (a b : Pg) (h : ¬ (a.full = b.full ∧ a.file = b.file ∧ a.place = b.place ∧ a.value = b.value ∧ a.stamp = b.stamp)) : pgEq a b = false := by
  cases e : pgEq a b
  · rfl
  · rw [pgEq_iff] at e
    subst e
    exact absurd ⟨rfl, rfl, rfl, rfl, rfl⟩ h

set_option maxHeartbeats 2000000 in
theorem eqPage_any (b0 : Bool) (f0 p0 v0 s0 : Int) (b1 : Bool) (f1 p1 v1 s1 : Int) (w : World) :
    Calls Try.prog 36 #[.agg #[.bool b0, .int .i64 f0, .int .i64 p0, .int .i64 v0, .int .i64 s0], .agg #[.bool b1, .int .i64 f1, .int .i64 p1, .int .i64 v1, .int .i64 s1]] w fun e w' => e = .returned (.bool (pgEq ⟨b0, f0, p0, v0, s0⟩ ⟨b1, f1, p1, v1, s1⟩)) ∧ Below w.heap.size w w' := by
  by_cases hall : b0 = b1 ∧ f0 = f1 ∧ p0 = p1 ∧ v0 = v1 ∧ s0 = s1
  · obtain ⟨rfl, rfl, rfl, rfl, rfl⟩ := hall
    have HF := Lib.hid (pgEq_refl ⟨b0, f0, p0, v0, s0⟩)
    go_enter Try.func36, Try.ntmps36
    go_wp2
    go_ret
    exact ⟨by rw [HF.out]; rfl, bel_2 _ _ _⟩
  · have HF := Lib.hid (pgEq_no ⟨b0, f0, p0, v0, s0⟩ ⟨b1, f1, p1, v1, s1⟩ hall)
    by_cases h1 : b0 = b1
    · by_cases h2 : f0 = f1
      · by_cases h3 : p0 = p1
        · by_cases h4 : v0 = v1
          · have h5 : (s0 != s1) = true := by rw [bne_iff_ne]; intro h5; exact hall ⟨h1, h2, h3, h4, h5⟩
            clear hall
            subst h1 h2 h3 h4
            go_enter Try.func36, Try.ntmps36
            go_wp2
            go_ret
            exact ⟨by rw [HF.out]; rfl, bel_2 _ _ _⟩
          · have h5 : (v0 != v1) = true := by rw [bne_iff_ne]; exact h4
            clear hall h4
            subst h1 h2 h3
            go_enter Try.func36, Try.ntmps36
            go_wp2
            go_ret
            exact ⟨by rw [HF.out]; rfl, bel_2 _ _ _⟩
        · have h5 : (p0 != p1) = true := by rw [bne_iff_ne]; exact h3
          clear hall h3
          subst h1 h2
          go_enter Try.func36, Try.ntmps36
          go_wp2
          go_ret
          exact ⟨by rw [HF.out]; rfl, bel_2 _ _ _⟩
      · have h5 : (f0 != f1) = true := by rw [bne_iff_ne]; exact h2
        clear hall h2
        subst h1
        go_enter Try.func36, Try.ntmps36
        go_wp2
        go_ret
        exact ⟨by rw [HF.out]; rfl, bel_2 _ _ _⟩
    · clear hall
      cases b0 <;> cases b1 <;> first | exact absurd rfl h1 | clear h1
      all_goals go_enter Try.func36, Try.ntmps36
      all_goals go_wp2
      all_goals go_ret
      all_goals exact ⟨by rw [HF.out]; rfl, bel_2 _ _ _⟩

set_option maxHeartbeats 2000000 in
theorem toPage_any (b0 : Bool) (f0 p0 v0 s0 : Int) (w : World) :
    Calls Try.prog 26 #[.agg #[.bool b0, .int .i64 f0, .int .i64 p0, .int .i64 v0, .int .i64 s0]] w fun e w' => e = .returned (.agg #[.bool b0, .int .i64 f0, .int .i64 p0, .int .i64 v0, .int .i64 s0]) ∧ Below w.heap.size w w' := by
  go_enter Try.func26, Try.ntmps26
  go_wp2
  refine bodyPost_ret (v := .agg #[.bool b0, .int .i64 f0, .int .i64 p0, .int .i64 v0, .int .i64 s0]) (by simp [results, Try.results26, go_sem]) rfl ⟨rfl, ?_⟩
  exact bel_3 _ _ _ _
end Go.Proofs.Ytimcegafjphkkaa
