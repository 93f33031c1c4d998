/- The laws' own 'alive' returns true. -/
import Derived.Test.YteekikaebmkioaaPages2
import Derived.Test.YteekikaebmkioaaSets2
namespace Go.Proofs.Yteekikaebmkioaa
open Go.RowKit
set_option linter.unusedVariables false

theorem count_10 : bitCountF 10 = 2 := by rw [bitCountF, inB_t (by decide) (by decide), if_pos rfl]; have : pc 16 (Int.toNat 10) = 2 := by unfold pc; decide +kernel
                                          rw [this]; rfl
theorem count_m1 : bitCountF (-1) = -1 := by rw [bitCountF, inB_lo (by decide)]; rfl
set_option maxHeartbeats 400000 in
theorem alive_any (w : World) : Calls Try.prog 18 #[] w fun e w' => e = .returned (.bool true) ∧ w = w' := by
  have k1 := count_10
  have k2 := count_m1
  go_enter Try.func18, Try.ntmps18
  go_wp2_with (go_at_call 60; refine (iBitCount _ _).mono ?_; rintro e w' ⟨rfl, rfl⟩)
  go_ret
  exact ⟨rfl, rfl⟩

end Go.Proofs.Yteekikaebmkioaa
