/- What the program's and the reference's functions on sets and on the distance of words return, for every argument. -/
import Derived.Test.YteekikaebmkioaaSets
namespace Go.Proofs.Yteekikaebmkioaa
open Go.RowKit
set_option linter.unusedVariables false

set_option maxHeartbeats 400000 in
theorem iBitCount (s : Int) (w : World) :
    Calls Try.prog 60 #[.int .i64 s] w fun e w' => e = .returned (.int .i64 (bitCountF s)) ∧ w = w' := by
  by_cases hin : 0 ≤ s ∧ s ≤ 65535
  · obtain ⟨h1, h2⟩ := hin
    have HF := Lib.hid (show bitCountF s = ((pc 16 s.toNat : Nat) : Int) by simp [bitCountF, inB_t, h1, h2])
    have HL := Lib.hid (pc_le 16 s.toNat)
    go_enter Try.func60, Try.ntmps60
    go_wp2
    go_loop [3, 4] (fun c r => ∃ (a : Nat) (m : Int), c = .int .i64 (a : Int) ∧ r = .int .i64 m ∧ 0 ≤ m ∧ m ≤ 65535 ∧ Hid (a + pc 16 m.toNat = pc 16 s.toNat)) (fun _ r => (intOf r).toNat)
    case atStart => exact ⟨0, s, rfl, rfl, h1, h2, by simp [Hid]⟩
    case round =>
      obtain ⟨a, m, rfl, rfl, hm0, hm, hH⟩ := hrel
      have ha : a ≤ 16 := by have := hH.out; have := HL.out; omega
      by_cases h0 : 0 < m
      · have HS := Lib.hid (pc_stepI m hm0 hm)
        go_wp2
        go_round
        case rel => exact ⟨a + m.toNat % 2, m / 2, by congr 1; omega, rfl, by omega, by omega, by have := hH.out; have := HS.out; unfold Hid; omega⟩
        case measure => simp [intOf]; omega
      · obtain rfl : m = 0 := by omega
        go_wp2
        go_ret
        exact ⟨ret_int (by rw [HF.out]; have := hH.out; rw [Int.toNat_zero, pc_zero] at this; omega), rfl⟩
  · have HF := Lib.hid (show bitCountF s = -1 by rw [bitCountF, if_neg]; simp [inB]; omega)
    by_cases h1 : 0 ≤ s
    · have h2 : ¬ s ≤ 65535 := by omega
      clear hin
      go_enter Try.func60, Try.ntmps60
      go_wp2
      go_ret
      exact ⟨by rw [HF.out]; rfl, rfl⟩
    · clear hin
      go_enter Try.func60, Try.ntmps60
      go_wp2
      go_ret
      exact ⟨by rw [HF.out]; rfl, rfl⟩
end Go.Proofs.Yteekikaebmkioaa
