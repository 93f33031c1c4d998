/- What the program's and the reference's functions on sets and on the distance of words return, for every argument. -/
import Derived.Test.YtejppibmjckckaaSets
namespace Go.Proofs.Ytejppibmjckckaa
open Go.RowKit
set_option linter.unusedVariables false

set_option maxHeartbeats 800000 in
theorem iBitPut (s n : Int) (hs : Bool) (w : World) :
    Calls Try.prog 25 #[.int .i64 s, .int .i64 n, .bool hs] w fun e w' => e = .returned (.int .i64 (bitPutF s n hs)) ∧ w = w' := by
  by_cases hin : (0 ≤ s ∧ s ≤ 65535) ∧ 0 ≤ n ∧ n ≤ 15
  · obtain ⟨⟨h1, h2⟩, h3, h4⟩ := hin
    have H1 := Lib.hid (or_pow s n.toNat h1 (by omega) (by omega))
    have H2 := Lib.hid (andNot_pow s n.toNat h1 (by omega) (by omega))
    cases hs
    all_goals
      go_enter Try.func25, Try.ntmps25
      go_wp2
      go_ret
      refine ⟨ret_int ?_, rfl⟩
    · rw [H2.out]; simp [bitPutF, inB_t, h1, h2, h3, h4]
    · rw [H1.out]; simp [bitPutF, inB_t, h1, h2, h3, h4]
  · have HF := Lib.hid (show bitPutF s n hs = -1 by rw [bitPutF, if_neg]; simp [inB]; omega)
    by_cases h1 : 0 ≤ s <;> by_cases h2 : s ≤ 65535 <;> by_cases h3 : 0 ≤ n <;> by_cases h4 : n ≤ 15
    all_goals try (exfalso; omega)
    all_goals
      clear hin
      go_enter Try.func25, Try.ntmps25
      go_wp2
      go_ret
      exact ⟨by rw [HF.out]; rfl, rfl⟩

set_option maxHeartbeats 400000 in
theorem sBitPut (s n : Int) (hs : Bool) (w : World) :
    Calls Try.prog 33 #[.int .i64 s, .int .i64 n, .bool hs] w fun e w' => e = .returned (.int .i64 (bitPutF s n hs)) ∧ w = w' := by
  cases e1 : inB s 0 65535
  · have HF := Lib.hid (show bitPutF s n hs = -1 by rw [bitPutF, e1]; simp)
    go_enter Try.func33, Try.ntmps33
    go_wp2_with (go_at_call 57; refine (l1In_any _ _ _ _).mono ?_; rintro e w' ⟨rfl, rfl⟩)
    go_ret
    exact ⟨by rw [HF.out]; rfl, rfl⟩
  · cases e2 : inB n 0 15
    · have HF := Lib.hid (show bitPutF s n hs = -1 by rw [bitPutF, e2]; simp)
      go_enter Try.func33, Try.ntmps33
      go_wp2_with (go_at_call 57; refine (l1In_any _ _ _ _).mono ?_; rintro e w' ⟨rfl, rfl⟩)
      go_ret
      exact ⟨by rw [HF.out]; rfl, rfl⟩
    · obtain ⟨h1, h2⟩ := inB_iff.1 e1
      obtain ⟨h3, h4⟩ := inB_iff.1 e2
      have H1 := Lib.hid (or_pow s n.toNat h1 (by omega) (by omega))
      have H2 := Lib.hid (andNot_pow s n.toNat h1 (by omega) (by omega))
      have HF := Lib.hid (show bitPutF s n hs = (if hs then ((s.toNat ||| 2 ^ n.toNat : Nat) : Int) else ((s.toNat ^^^ (s.toNat &&& 2 ^ n.toNat) : Nat) : Int)) by rw [bitPutF, e1, e2]; simp)
      cases hs
      all_goals
        go_enter Try.func33, Try.ntmps33
        go_wp2_with (go_at_call 57; refine (l1In_any _ _ _ _).mono ?_; rintro e w' ⟨rfl, rfl⟩)
        go_ret
        refine ⟨ret_int ?_, rfl⟩
        rw [HF.out]
      · rw [H2.out]; simp
      · rw [H1.out]; simp

set_option maxHeartbeats 400000 in
theorem iBitCount (s : Int) (w : World) :
    Calls Try.prog 16 #[.int .i64 s] w fun e w' => e = .returned (.int .i64 (bitCountF s)) ∧ w = w' := by
  by_cases hin : 0 ≤ s ∧ s ≤ 65535
  · obtain ⟨h1, h2⟩ := hin
    have HF := Lib.hid (show bitCountF s = ((pc 16 s.toNat : Nat) : Int) by simp [bitCountF, inB_t, h1, h2])
    have HL := Lib.hid (pc_le 16 s.toNat)
    go_enter Try.func16, Try.ntmps16
    go_wp2
    go_loop [3, 4] (fun c r => ∃ (a : Nat) (m : Int), c = .int .i64 (a : Int) ∧ r = .int .i64 m ∧ 0 ≤ m ∧ m ≤ 65535 ∧ Hid (a + pc 16 m.toNat = pc 16 s.toNat)) (fun _ r => (intOf r).toNat)
    case atStart => exact ⟨0, s, rfl, rfl, h1, h2, by simp [Hid]⟩
    case round =>
      obtain ⟨a, m, rfl, rfl, hm0, hm, hH⟩ := hrel
      have ha : a ≤ 16 := by have := hH.out; have := HL.out; omega
      by_cases h0 : 0 < m
      · have HS := Lib.hid (pc_stepI m hm0 hm)
        go_wp2
        go_round
        case rel => exact ⟨a + m.toNat % 2, m / 2, by congr 1; omega, rfl, by omega, by omega, by have := hH.out; have := HS.out; unfold Hid; omega⟩
        case measure => simp [intOf]; omega
      · obtain rfl : m = 0 := by omega
        go_wp2
        go_ret
        exact ⟨ret_int (by rw [HF.out]; have := hH.out; rw [Int.toNat_zero, pc_zero] at this; omega), rfl⟩
  · have HF := Lib.hid (show bitCountF s = -1 by rw [bitCountF, if_neg]; simp [inB]; omega)
    by_cases h1 : 0 ≤ s
    · have h2 : ¬ s ≤ 65535 := by omega
      clear hin
      go_enter Try.func16, Try.ntmps16
      go_wp2
      go_ret
      exact ⟨by rw [HF.out]; rfl, rfl⟩
    · clear hin
      go_enter Try.func16, Try.ntmps16
      go_wp2
      go_ret
      exact ⟨by rw [HF.out]; rfl, rfl⟩

set_option maxHeartbeats 400000 in
theorem sBitCount (s : Int) (w : World) :
    Calls Try.prog 17 #[.int .i64 s] w fun e w' => e = .returned (.int .i64 (bitCountF s)) ∧ w = w' := by
  cases e1 : inB s 0 65535
  · have HF := Lib.hid (show bitCountF s = -1 by rw [bitCountF, e1]; simp)
    go_enter Try.func17, Try.ntmps17
    go_wp2_with (go_at_call 57; refine (l1In_any _ _ _ _).mono ?_; rintro e w' ⟨rfl, rfl⟩)
    go_ret
    exact ⟨by rw [HF.out]; rfl, rfl⟩
  · obtain ⟨h1, h2⟩ := inB_iff.1 e1
    have HF := Lib.hid (show bitCountF s = ((pc 16 s.toNat : Nat) : Int) by simp [bitCountF, inB_t, h1, h2])
    have HL := Lib.hid (pc_le 16 s.toNat)
    go_enter Try.func17, Try.ntmps17
    go_wp2_with (go_at_call 57; refine (l1In_any _ _ _ _).mono ?_; rintro e w' ⟨rfl, rfl⟩)
    clear e1
    go_loop [0, 3] (fun r c => ∃ (a : Nat) (m : Int), c = .int .i64 (a : Int) ∧ r = .int .i64 m ∧ 0 ≤ m ∧ m ≤ 65535 ∧ Hid (a + pc 16 m.toNat = pc 16 s.toNat)) (fun r _ => (intOf r).toNat)
    case atStart => exact ⟨0, s, rfl, rfl, h1, h2, by simp [Hid]⟩
    case round =>
      obtain ⟨a, m, rfl, rfl, hm0, hm, hH⟩ := hrel
      have ha : a ≤ 16 := by have := hH.out; have := HL.out; omega
      by_cases h0 : 0 < m
      · have HS := Lib.hid (pc_stepI m hm0 hm)
        go_wp2
        go_round
        case rel => exact ⟨a + m.toNat % 2, m / 2, by congr 1; omega, rfl, by omega, by omega, by have := hH.out; have := HS.out; unfold Hid; omega⟩
        case measure => simp [intOf]; omega
      · obtain rfl : m = 0 := by omega
        go_wp2
        go_ret
        exact ⟨ret_int (by rw [HF.out]; have := hH.out; rw [Int.toNat_zero, pc_zero] at this; omega), rfl⟩
end Go.Proofs.Ytejppibmjckckaa
