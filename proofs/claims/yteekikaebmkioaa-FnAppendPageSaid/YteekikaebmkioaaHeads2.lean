/-auto What the program's and the reference's HeadOf return; isHead; the laws' toHeads. -/
import Derived.Test.YteekikaebmkioaaHeads
namespace Go.Proofs.Yteekikaebmkioaa
open Go.RowKit
set_option linter.unusedVariables false

theorem ho_1 (ds : List Bl) (g h k t : Int) (hv : headsValidF ds g h k = false) : headOfF ds g h k t = -1 := by rw [headOfF, hv]; rfl
theorem ho_2 (ds : List Bl) (g h k t : Int) (hv : headsValidF ds g h k = true) : headOfF ds g h k t = if t = 0 then g else if t = 1 then h else if t = 2 then k else -1 := by rw [headOfF, hv]; rfl
theorem ho_x (ds : List Bl) (g h k t : Int) (ht : ¬ (0 ≤ t ∧ t ≤ 2)) : headOfF ds g h k t = -1 := by
  rw [headOfF]; split
  · rw [if_neg (by omega), if_neg (by omega), if_neg (by omega)]
  · rfl
theorem inB02_no {x : Int} (h : ¬ (0 ≤ x ∧ x ≤ 2)) : inB x 0 2 = false := by simp only [inB, Bool.and_eq_false_iff, decide_eq_false_iff_not]; omega

set_option maxHeartbeats 1000000 in
theorem iHeadOf (A : Option Addr) (n c : Nat) (ds : List Bl) (g h k : Int) (t : Int) (w : World) (hd : DevAt w A n ds) :
    Calls Try.prog 47 #[.slice A n c, .agg #[.int .i64 g, .int .i64 h, .int .i64 k], .int .i64 t] w fun e w' => e = .returned (.int .i64 (headOfF ds g h k t)) ∧ Below w.heap.size w w' := by
  have HP := Lib.hid hd
  clear hd
  go_enter Try.func47, Try.ntmps47
  go_wp2_with fail
  refine (iHeadsValid _ _ _ ds _ _ _ _ (HP.out.keep (bel_1 _ _))).mono ?_
  rintro e w1 ⟨rfl, hb1⟩
  have HB1 := Lib.hid (bel_t (bel_1 _ _) hb1)
  have b0 : w1.cell? ⟨w.heap.size, 0, none⟩ = some (.int .i64 g) := stays_below hb1 _ _ _ (by simp [go_sem])
  have b1 : w1.cell? ⟨w.heap.size, 1, none⟩ = some (.int .i64 h) := stays_below hb1 _ _ _ (by simp [go_sem])
  have b2 : w1.cell? ⟨w.heap.size, 2, none⟩ = some (.int .i64 k) := stays_below hb1 _ _ _ (by simp [go_sem])
  clear hb1
  cases hv : headsValidF ds g h k
  · have HF := Lib.hid (ho_1 ds g h k t hv)
    clear hv
    go_wp2
    go_ret
    exact ⟨by rw [HF.out]; rfl, HB1.out⟩
  · have HF := Lib.hid (ho_2 ds g h k t hv)
    by_cases ht : 0 ≤ t ∧ t ≤ 2
    · obtain rfl | rfl | rfl : t = 0 ∨ t = 1 ∨ t = 2 := by omega
      all_goals
        clear hv ht
        go_wp2
        go_ret
        exact ⟨by rw [HF.out]; rfl, HB1.out⟩
    · have HG := Lib.hid (ho_x ds g h k t ht)
      have t0 : (t == 0) = false := by simp; omega
      have t1 : (t == 1) = false := by simp; omega
      have t2 : (t == 2) = false := by simp; omega
      clear hv ht
      go_wp2
      go_ret
      exact ⟨by rw [HG.out]; rfl, HB1.out⟩

set_option maxHeartbeats 1000000 in
theorem sHeadOf (A : Option Addr) (n c : Nat) (ds : List Bl) (g h k : Int) (t : Int) (w : World) (hd : DevAt w A n ds) :
    Calls Try.prog 48 #[.slice A n c, .agg #[.int .i64 g, .int .i64 h, .int .i64 k], .int .i64 t] w fun e w' => e = .returned (.int .i64 (headOfF ds g h k t)) ∧ Below w.heap.size w w' := by
  have HP := Lib.hid hd
  clear hd
  go_enter Try.func48, Try.ntmps48
  go_wp2_with fail
  refine (sHeadsValid _ _ _ ds _ _ _ _ (HP.out.keep (bel_1 _ _))).mono ?_
  rintro e w1 ⟨rfl, hb1⟩
  have HB1 := Lib.hid (bel_t (bel_1 _ _) hb1)
  have b0 : w1.cell? ⟨w.heap.size, 0, none⟩ = some (.int .i64 g) := stays_below hb1 _ _ _ (by simp [go_sem])
  have b1 : w1.cell? ⟨w.heap.size, 1, none⟩ = some (.int .i64 h) := stays_below hb1 _ _ _ (by simp [go_sem])
  have b2 : w1.cell? ⟨w.heap.size, 2, none⟩ = some (.int .i64 k) := stays_below hb1 _ _ _ (by simp [go_sem])
  clear hb1
  cases hv : headsValidF ds g h k
  · have HF := Lib.hid (ho_1 ds g h k t hv)
    clear hv
    go_wp2
    go_ret
    exact ⟨by rw [HF.out]; rfl, HB1.out⟩
  · have HF := Lib.hid (ho_2 ds g h k t hv)
    by_cases ht : 0 ≤ t ∧ t ≤ 2
    · obtain rfl | rfl | rfl : t = 0 ∨ t = 1 ∨ t = 2 := by omega
      all_goals
        clear hv ht
        go_wp2_with (go_at_call 59; refine (l1In_any _ _ _ _).mono ?_; rintro e w' ⟨rfl, rfl⟩; simp only [show inB 0 0 2 = true from rfl, show inB 1 0 2 = true from rfl, show inB 2 0 2 = true from rfl])
        go_ret
        exact ⟨by rw [HF.out]; rfl, bel_t HB1.out (bel_1 _ _)⟩
    · have HG := Lib.hid (ho_x ds g h k t ht)
      have hin := inB02_no ht
      clear hv ht
      go_wp2_with (go_at_call 59; refine (l1In_any _ _ _ _).mono ?_; rintro e w' ⟨rfl, rfl⟩)
      go_ret
      exact ⟨by rw [HG.out]; rfl, HB1.out⟩

theorem isHead_any (g h k x : Int) (w : World) :
    Calls Try.prog 72 #[.agg #[.int .i64 g, .int .i64 h, .int .i64 k], .int .i64 x] w fun e w' => e = .returned (.bool (x == g || x == h || x == k)) ∧ Below w.heap.size w w' := by
  cases e1 : (x == g)
  all_goals cases e2 : (x == h)
  all_goals cases e3 : (x == k)
  all_goals
    go_enter Try.func72, Try.ntmps72
    go_wp2
    go_ret
    exact ⟨rfl, bel_1 _ _⟩

end Go.Proofs.Yteekikaebmkioaa
