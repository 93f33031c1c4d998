/- The law FnExactFreePages: for every device the program's FreePages returns what the reference's returns, so the law returns true. No conditions. -/
import Derived.Test.YtbinphenccnhoaaRows
import Derived.Test.YtbinphenccnhoaaTypes
import Derived.Test.YtbinphenccnhoaaCopies2
import Derived.Test.YtbinphenccnhoaaDevices3
namespace Go.Proofs.Ytbinphenccnhoaa
open Go.RowKit
set_option linter.unusedVariables false

set_option maxHeartbeats 2000000 in
theorem walk_FnExactFreePages (x : Da) (w : World) (hx : DevAt w x.A x.n x.ds) :
    Calls Try.prog 8 #[x.val] w fun e w' => e = .returned (.bool true) ∧ Below w.heap.size w w' := by
  obtain ⟨A, n, c, ds⟩ := x
  simp only [Da.val] at *
  have HP := Lib.hid hx
  have hm := hx.2.1
  clear hx
  go_enter Try.func8, Try.ntmps8
  go_wp2_with fail
  refine (szBlockS_any _ _ _ ds _ _ HP.out (by omega) (by omega)).mono ?_
  rintro e w1 ⟨r, rfl, hr, hb1⟩
  by_cases hr0 : r < 0
  · go_wp2
    go_ret
    exact ⟨rfl, hb1⟩
  · obtain ⟨hn, hs⟩ := hr.resolve_left hr0
    have HS := Lib.hid hs
    have HB1 := Lib.hid hb1
    clear hr hs hb1
    go_wp2_with fail
    refine (toBlockS_any _ _ _ ds _ (HP.out.keep HB1.out) hn HS.out).mono ?_
    rintro e w2 ⟨g2, G2, rfl, hR2, hb2⟩
    have HB2 := Lib.hid (bel_t HB1.out hb2)
    have HQ2 := Lib.hid hR2
    clear hb2 hR2
    go_wp2_with fail
    refine (sFreePages _ _ _ ds _ (HQ2.out.at hm)).mono ?_
    rintro e w3 ⟨rfl, hb3⟩
    have HB3 := Lib.hid (bel_t HB2.out hb3)
    clear hb3 HQ2
    go_wp2_with fail
    refine (toBlockS_any _ _ _ ds _ (HP.out.keep HB3.out) hn HS.out).mono ?_
    rintro e w4 ⟨g4, G4, rfl, hR4, hb4⟩
    have HB4 := Lib.hid (bel_t HB3.out hb4)
    have HQ4 := Lib.hid hR4
    clear hb4 hR4
    go_wp2_with fail
    refine (iFreePages _ _ _ ds _ (HQ4.out.at hm)).mono ?_
    rintro e w5 ⟨rfl, hb5⟩
    have HB5 := Lib.hid (bel_t HB4.out hb5)
    have HQ5 := Lib.hid (HQ4.out.keep hb5)
    clear hb5 HQ4
    go_wp2_with fail
    refine (toBlockS_any _ _ _ ds _ (HP.out.keep HB5.out) hn HS.out).mono ?_
    rintro e w6 ⟨g6, G6, rfl, hR6, hb6⟩
    have HB6 := Lib.hid (bel_t HB5.out hb6)
    have HQ6 := Lib.hid hR6
    have HX6 := Lib.hid (HQ5.out.keep hb6)
    clear hb6 hR6 HQ5
    go_wp2_with fail
    refine (eqBlockS_refl _ _ _ _ _ ds _ (HX6.out.at hm) (HQ6.out.at hm)).mono ?_
    rintro e w7 ⟨rfl, hb7⟩
    go_wp2
    go_ret
    exact ⟨rfl, bel_t HB6.out hb7⟩

namespace fnExactFreePages
open Go.ChangeShapes Go.WideShapes Go.ChangeAt Go.RowKit
theorem own : ownKnob Try.prog.godebug = none := by kernel_rfl
theorem laidOut : laidOutB Try.prog = true := by kernel_rfl
theorem spec_ok : LawSpec Rows.fnExactFreePagesSpec 1 := ⟨rfl, fun H ds h => by
  match ds, h with
  | [_], _ => exact ⟨rfl, rfl, rfl⟩⟩
theorem rd42 : Try.prog.readableRec 42 = true ∧ 42 < Try.prog.types.size := ⟨by kernel_rfl, of_decide_eq_true (by kernel_rfl)⟩
set_option maxRecDepth 100000 in
theorem lifted (os : Os) (started : os.Started) (H : Type) (enc : TypeId × Value → H) :
    ReturnsInHanded {} Try.checked os 8 .any (Rows.fnExactFreePagesSpec.pre6 enc Try.prog Try.f8 Rows.fnExactFreePagesRow.domain false) (Rows.fnExactFreePagesSpec.post enc Try.prog Try.f8 false true false false) := by
  refine law_lifted (C := Try.checked) (tb := 4) own started (by kernel_rfl) Try.func8 laidOut ?_ spec_ok (by rfl) Try.underlying4
    (ChangeSpec.witness6 (enc := enc) (C := Try.checked) false ⟨#[], #[.slice none 0 0], []⟩ 8 (by kernel_rfl) (by kernel_rfl) (by kernel_rfl) (by kernel_rfl)) ?_
  · rw [Try.params8]
    intro t ht
    simp only [List.mem_cons, List.not_mem_nil, or_false] at ht
    subst ht
    exact rd42
  · intro W base args ds ps hval0 hA0
    have hval : ∀ (j : Nat) t v, Try.f8.params[j]? = some t → args[j]? = some v → Value.okWide Try.prog W .any base t v := hval0
    have hA : DataW.TrodAll enc Try.prog W 0 (fun _ => true) true Try.f8.params.toList args.toList ds ps := hA0
    clear hval0 hA0
    rw [Try.params8] at hA hval
    obtain ⟨v0, vs0, d0, ds0, p0, q0, hargs, rfl, rfl, h0, r0⟩ := trodAll_cons hA
    obtain ⟨rfl, rfl, rfl⟩ := trodAll_nil r0
    obtain rfl : args = #[v0] := by cases args; simp_all
    obtain ⟨x0, rfl, hx0⟩ := open_D Try.underlying42 tyLB (hval 0 42 v0 rfl rfl) h0
    exact walk_FnExactFreePages x0 W hx0

theorem over : Rows.fnExactFreePagesRow.holds Try.pinned (OpenSpec.ofChange Rows.fnExactFreePagesSpec) :=
  OpenClaim.holds_of_wide 8 Try.f8 rfl rfl rfl rfl rfl rfl rfl ⟨rfl, rfl, rfl, rfl, rfl⟩ rfl rfl rfl rfl rfl (by kernel_rfl) Try.func8 (by kernel_rfl)
    (of_decide_eq_true (by kernel_rfl)) (by unfold Func.isWrapper; first | (rw [if_pos (by decide +kernel)]; kernel_rfl) | (rw [if_neg (by decide +kernel)]; exact ⟨rfl, rfl⟩))
    (fun os started H enc _ => lifted os started H enc)

theorem proved : Rows.FnExactFreePagesSaid :=
  over
#print axioms proved
end fnExactFreePages
end Go.Proofs.Ytbinphenccnhoaa
