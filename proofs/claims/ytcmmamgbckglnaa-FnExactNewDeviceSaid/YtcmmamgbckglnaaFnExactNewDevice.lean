/- The law FnExactNewDevice: for every integer the program's NewDevice returns what the reference's returns, and keeps nothing of it, so the law returns true. No conditions. -/
import Derived.Test.YtcmmamgbckglnaaRows
import Derived.Test.YtcmmamgbckglnaaNewDev
import Derived.Test.YtcmmamgbckglnaaLawKit
namespace Go.Proofs.Ytcmmamgbckglnaa
open Go.RowKit
set_option linter.unusedVariables false

theorem nd_lens (m : Int) : (newDeviceF m).length ≤ 12 ∧ ∀ i, i < (newDeviceF m).length → (blAt (newDeviceF m) i).pages.length ≤ 1048576 := by
  by_cases hm : 1 ≤ m ∧ m ≤ 12
  · obtain ⟨n, rfl⟩ : ∃ n : Nat, m = (n : Int) := ⟨m.toNat, by omega⟩
    rw [nd_2 n (by omega), List.length_replicate]
    refine ⟨by omega, fun i hi => ?_⟩
    rw [rep_at n i _ hi]
    simp
  · rw [nd_1 m hm]; exact ⟨Nat.zero_le _, fun i hi => absurd hi (by simp)⟩

set_option maxHeartbeats 8000000 in
theorem walk_FnExactNewDevice (a0 : Int) (_w0 : (Lit.int .i64 a0).wf = true) (w : World) :
    Calls Try.prog 4 #[.int .i64 a0] w fun e w' => e = .returned (.bool true) ∧ Below w.heap.size w w' := by
  have hle := nd_lens a0
  obtain ⟨E, HE⟩ : ∃ r, Hid (newDeviceF a0 = r) := ⟨_, rfl⟩
  rw [HE.out] at hle
  have hnE : E.length ≤ 1048576 := by omega
  have hmE : E.length ≤ 9223372036854775807 := by omega
  have HSE := Lib.hid hle.2
  clear hle
  have HB0 : Hid (Below w.heap.size w w) := Lib.hid (Below.refl _ _)
  go_enter Try.func4, Try.ntmps4
  go_wp2_with fail
  refine (sNewDevice _ _).mono ?_
  rw [HE.out]
  rintro e w1 ⟨v1, rfl, hO1, hb1⟩
  have HV1 := Lib.hid hb1
  have HB1 := Lib.hid (bel_t HB0.out hb1)
  have hs1 := hb1.size
  clear hb1
  obtain ⟨A1, c1, rfl, hT1⟩ := devout hO1
  have S1 := Lib.hid hT1
  clear hO1 hT1
  go_wp2_with fail
  refine (iNewDevice _ _).mono ?_
  rw [HE.out]
  rintro e w2 ⟨v2, rfl, hO2, hb2⟩
  have HV2 := Lib.hid hb2
  have HB2 := Lib.hid (bel_t HB1.out hb2)
  have hs2 := hb2.size
  clear hb2
  replace S1 := Lib.hid (S1.out.keep HV2.out)
  obtain ⟨A2, c2, rfl, hT2⟩ := devout hO2
  have S2 := Lib.hid hT2
  clear hO2 hT2
  go_wp2_with fail
  refine (eqBlockS_refl _ _ _ _ _ E _ (S2.out.at hmE) (S1.out.at hmE)).mono ?_
  rintro e w3 ⟨rfl, hb3⟩
  have HV3 := Lib.hid hb3
  have HB3 := Lib.hid (bel_t HB2.out hb3)
  have hs3 := hb3.size
  clear hb3
  replace S1 := Lib.hid (S1.out.keep HV3.out)
  replace S2 := Lib.hid (S2.out.keep HV3.out)
  go_wp2_with fail
  refine (markO_any _ _ _ w1.heap.size w2.heap.size E _ S2.out hnE HSE.out).mono ?_
  rintro e w4 ⟨rfl, hS4, hC4⟩
  have HB4 := Lib.hid (hC4.2.2.2 _ _ HB3.out (by omega))
  replace S1 := Lib.hid (S1.out.chgI (by omega) hC4)
  replace S2 := Lib.hid hS4
  clear hS4 hC4
  have hr1 : ¬ (yAt E 1 E.length < 0) := by have := (yAt_b E 1 E.length E.length HSE.out (Nat.le_refl _)).1; omega
  go_wp2_with fail
  refine (heldBlockS_any _ _ _ E _ (S2.out.at hmE) hnE HSE.out).mono ?_
  rintro e w5 ⟨rfl, hb5⟩
  have HV5 := Lib.hid hb5
  have HB5 := Lib.hid (bel_t HB4.out hb5)
  have hs5 := hb5.size
  clear hb5
  replace S1 := Lib.hid (S1.out.keep HV5.out)
  replace S2 := Lib.hid (S2.out.keep HV5.out)
  go_wp2_with fail
  refine (iNewDevice _ _).mono ?_
  rw [HE.out]
  rintro e w6 ⟨v6, rfl, hO6, hb6⟩
  have HV6 := Lib.hid hb6
  have HB6 := Lib.hid (bel_t HB5.out hb6)
  have hs6 := hb6.size
  clear hb6
  replace S1 := Lib.hid (S1.out.keep HV6.out)
  replace S2 := Lib.hid (S2.out.keep HV6.out)
  obtain ⟨A6, c6, rfl, hT6⟩ := devout hO6
  have S6 := Lib.hid hT6
  clear hO6 hT6
  go_wp2_with fail
  refine (eqBlockS_refl _ _ _ _ _ E _ (S6.out.at hmE) (S1.out.at hmE)).mono ?_
  rintro e w7 ⟨rfl, hb7⟩
  have HV7 := Lib.hid hb7
  have HB7 := Lib.hid (bel_t HB6.out hb7)
  have hs7 := hb7.size
  clear hb7
  replace S1 := Lib.hid (S1.out.keep HV7.out)
  replace S2 := Lib.hid (S2.out.keep HV7.out)
  replace S6 := Lib.hid (S6.out.keep HV7.out)
  go_wp2_with fail
  refine (heldBlockS_any _ _ _ E _ (S2.out.at hmE) hnE HSE.out).mono ?_
  rintro e w8 ⟨rfl, hb8⟩
  have HV8 := Lib.hid hb8
  have HB8 := Lib.hid (bel_t HB7.out hb8)
  have hs8 := hb8.size
  clear hb8
  replace S1 := Lib.hid (S1.out.keep HV8.out)
  replace S2 := Lib.hid (S2.out.keep HV8.out)
  replace S6 := Lib.hid (S6.out.keep HV8.out)
  go_wp2
  go_ret
  exact ⟨rfl, HB8.out⟩

namespace fnExactNewDevice
open Go.ChangeShapes Go.WideShapes Go.ChangeAt Go.RowKit
theorem own : ownKnob Try.prog.godebug = none := by kernel_rfl
theorem laidOut : laidOutB Try.prog = true := by kernel_rfl
theorem spec_ok : LawSpec Rows.fnExactNewDeviceSpec 1 := ⟨rfl, fun H ds h => by
  match ds, h with
  | [_], _ => exact ⟨rfl, rfl, rfl⟩⟩
theorem rd3 : Try.prog.readableRec 3 = true ∧ 3 < Try.prog.types.size := ⟨by kernel_rfl, of_decide_eq_true (by kernel_rfl)⟩
set_option maxRecDepth 100000 in
theorem lifted (os : Os) (started : os.Started) (H : Type) (enc : TypeId × Value → H) :
    ReturnsInHanded {} Try.checked os 4 .any (Rows.fnExactNewDeviceSpec.pre6 enc Try.prog Try.f4 Rows.fnExactNewDeviceRow.domain false) (Rows.fnExactNewDeviceSpec.post enc Try.prog Try.f4 false true false false) := by
  refine law_lifted (C := Try.checked) (tb := 4) own started (by kernel_rfl) Try.func4 laidOut ?_ spec_ok (by rfl) Try.underlying4
    (ChangeSpec.witness6 (enc := enc) (C := Try.checked) false ⟨#[], #[.int .i64 0], []⟩ 8 (by kernel_rfl) (by kernel_rfl) (by kernel_rfl) (by kernel_rfl)) ?_
  · rw [Try.params4]
    intro t ht
    simp only [List.mem_cons, List.not_mem_nil, or_false] at ht
    subst ht
    exact rd3
  · intro W base args ds ps hval0 hA0
    have hval : ∀ (j : Nat) t v, Try.f4.params[j]? = some t → args[j]? = some v → Value.okWide Try.prog W .any base t v := hval0
    have hA : DataW.TrodAll enc Try.prog W 0 (fun _ => true) true Try.f4.params.toList args.toList ds ps := hA0
    clear hval0 hA0
    rw [Try.params4] at hA hval
    obtain ⟨v0, vs0, d0, ds0, p0, q0, hargs, rfl, rfl, h0, r0⟩ := trodAll_cons hA
    obtain ⟨rfl, rfl, rfl⟩ := trodAll_nil r0
    obtain rfl : args = #[v0] := by cases args; simp_all
    obtain ⟨a0, rfl, rfl, rfl, w0⟩ := open_int Try.underlying3 (hval 0 3 v0 rfl rfl) h0
    exact walk_FnExactNewDevice a0 w0 W

theorem over : Rows.fnExactNewDeviceRow.holds Try.pinned (OpenSpec.ofChange Rows.fnExactNewDeviceSpec) :=
  OpenClaim.holds_of_wide 4 Try.f4 rfl rfl rfl rfl rfl rfl rfl ⟨rfl, rfl, rfl, rfl, rfl⟩ rfl rfl rfl rfl rfl (by kernel_rfl) Try.func4 (by kernel_rfl)
    (of_decide_eq_true (by kernel_rfl)) (by unfold Func.isWrapper; first | (rw [if_pos (by decide +kernel)]; kernel_rfl) | (rw [if_neg (by decide +kernel)]; exact ⟨rfl, rfl⟩))
    (fun os started H enc _ => lifted os started H enc)

theorem proved : Rows.FnExactNewDeviceSaid :=
  over
#print axioms proved
end fnExactNewDevice
end Go.Proofs.Ytcmmamgbckglnaa
