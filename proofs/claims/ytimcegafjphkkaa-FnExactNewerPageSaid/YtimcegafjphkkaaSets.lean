/- What the program's and the reference's functions on sets return, for every argument: the plain functions of the text Plain. -/
import Derived.Test.YtimcegafjphkkaaProg
import Derived.Test.YtimcegafjphkkaaPlain
import Derived.WalkKit
import Derived.Lib.Hide
namespace Go.Proofs.Ytimcegafjphkkaa
open Go.RowKit
set_option linter.unusedVariables false

set_option maxHeartbeats 400000 in
theorem l1In_any (n lo hi : Int) (w : World) :
    Calls Try.prog 39 #[.int .i64 n, .int .i64 lo, .int .i64 hi] w fun e w' => e = .returned (.bool (inB n lo hi)) ∧ w = w' := by
  by_cases h1 : lo ≤ n
  · by_cases h2 : n ≤ hi
    · go_enter Try.func39, Try.ntmps39
      go_wp2
      go_ret
      exact ⟨by simp [inB, h1, h2], rfl⟩
    · go_enter Try.func39, Try.ntmps39
      go_wp2
      go_ret
      exact ⟨by simp [inB, h1, h2], rfl⟩
  · go_enter Try.func39, Try.ntmps39
    go_wp2
    go_ret
    exact ⟨by simp [inB]; omega, rfl⟩

set_option maxHeartbeats 400000 in
theorem iBitHas (s n : Int) (w : World) :
    Calls Try.prog 16 #[.int .i64 s, .int .i64 n] w fun e w' => e = .returned (.bool (bitHasF s n)) ∧ w = w' := by
  by_cases h1 : 0 ≤ s
  · by_cases h2 : s ≤ 65535
    · by_cases h3 : 0 ≤ n
      · by_cases h4 : n ≤ 15
        · have HE := Lib.hid (and1_int s n h1 (by omega))
          go_enter Try.func16, Try.ntmps16
          go_wp2
          go_ret
          exact ⟨ret_bool (by rw [HE.out]; simp [bitHasF, inB_t, h1, h2, h3, h4]), rfl⟩
        · have HF := Lib.hid (show bitHasF s n = false by rw [bitHasF, inB_hi (n := n) (by omega)]; simp)
          go_enter Try.func16, Try.ntmps16
          go_wp2
          go_ret
          exact ⟨by rw [HF.out]; rfl, rfl⟩
      · have HF := Lib.hid (show bitHasF s n = false by rw [bitHasF, inB_lo (n := n) (by omega)]; simp)
        go_enter Try.func16, Try.ntmps16
        go_wp2
        go_ret
        exact ⟨by rw [HF.out]; rfl, rfl⟩
    · have HF := Lib.hid (show bitHasF s n = false by rw [bitHasF, inB_hi (n := s) (by omega)]; simp)
      go_enter Try.func16, Try.ntmps16
      go_wp2
      go_ret
      exact ⟨by rw [HF.out]; rfl, rfl⟩
  · have HF := Lib.hid (show bitHasF s n = false by rw [bitHasF, inB_lo (n := s) (by omega)]; simp)
    go_enter Try.func16, Try.ntmps16
    go_wp2
    go_ret
    exact ⟨by rw [HF.out]; rfl, rfl⟩

set_option maxHeartbeats 400000 in
theorem sBitHas (s n : Int) (w : World) :
    Calls Try.prog 15 #[.int .i64 s, .int .i64 n] w fun e w' => e = .returned (.bool (bitHasF s n)) ∧ w = w' := by
  cases e1 : inB s 0 65535
  · have HF := Lib.hid (show bitHasF s n = false by rw [bitHasF, e1]; simp)
    go_enter Try.func15, Try.ntmps15
    go_wp2_with (go_at_call 39; refine (l1In_any _ _ _ _).mono ?_; rintro e w' ⟨rfl, rfl⟩)
    go_ret
    exact ⟨by rw [HF.out]; rfl, rfl⟩
  · cases e2 : inB n 0 15
    · have HF := Lib.hid (show bitHasF s n = false by rw [bitHasF, e2]; simp)
      go_enter Try.func15, Try.ntmps15
      go_wp2_with (go_at_call 39; refine (l1In_any _ _ _ _).mono ?_; rintro e w' ⟨rfl, rfl⟩)
      go_ret
      exact ⟨by rw [HF.out]; rfl, rfl⟩
    · have h1 := inB_iff.1 e1
      have h2 := inB_iff.1 e2
      have HF := Lib.hid (show bitHasF s n = ((s / 2 ^ n.toNat) % 2 == 1) by rw [bitHasF, e1, e2, testBit_int s n h1.1]; simp)
      obtain ⟨h1a, h1b⟩ := h1
      obtain ⟨h2a, h2b⟩ := h2
      go_enter Try.func15, Try.ntmps15
      go_wp2_with (go_at_call 39; refine (l1In_any _ _ _ _).mono ?_; rintro e w' ⟨rfl, rfl⟩)
      go_ret
      exact ⟨by rw [HF.out]; exact ret_bool (by rw [IntWalk.rem_in _ _ (Int.ediv_nonneg h1a (Int.le_of_lt (Int.pow_pos (by decide))))]), rfl⟩
end Go.Proofs.Ytimcegafjphkkaa
