/- The law FnExactEraseAt: for every device and number the program's EraseAt returns what the reference's returns, and keeps nothing of it, so the law returns true. No conditions. -/
import Derived.Test.YtbinphenccnhoaaRows
import Derived.Test.YtbinphenccnhoaaTypes
import Derived.Test.YtbinphenccnhoaaDevOut
namespace Go.Proofs.Ytbinphenccnhoaa
open Go.RowKit
set_option linter.unusedVariables false

set_option maxHeartbeats 8000000 in
theorem walk_FnExactEraseAt (x : Da) (a1 : Int) (w : World) (hx : DevAt w x.A x.n x.ds) (_w1 : (Lit.int .i64 a1).wf = true) :
    Calls Try.prog 9 #[x.val, .int .i64 a1] w fun e w' => e = .returned (.bool true) ∧ Below w.heap.size w w' := by
  obtain ⟨A, n, c, ds⟩ := x
  simp only [Da.val] at *
  have HP := Lib.hid hx
  have hm := hx.2.1
  have hlen := hx.1
  clear hx
  go_enter Try.func9, Try.ntmps9
  go_wp2_with fail
  refine (szBlockS_any _ _ _ ds _ _ HP.out (by omega) (by omega)).mono ?_
  rintro e w1 ⟨r, rfl, hr, hb1⟩
  by_cases hr0 : r < 0
  · go_wp2
    go_ret
    exact ⟨rfl, hb1⟩
  · obtain ⟨hn, hs⟩ := hr.resolve_left hr0
    have HS := Lib.hid hs
    have HB1 := Lib.hid hb1
    have hs1 := hb1.size
    have hle := ea_lens ds n a1 hlen HS.out
    clear hr hs hb1 hlen
    obtain ⟨⟨E, ok⟩, HE⟩ : ∃ r, Hid (eraseAtF ds a1 = r) := ⟨_, rfl⟩
    rw [HE.out] at hle
    simp only [] at hle
    have hnE : E.length ≤ 1048576 := by omega
    have hmE : E.length ≤ 9223372036854775807 := by omega
    have HSE := Lib.hid hle.2
    clear hle
    go_wp2_with fail
    refine (toBlockS_any _ _ _ ds _ (HP.out.keep HB1.out) hn HS.out).mono ?_
    rintro e w2 ⟨g2, G2, rfl, hR2, hb2⟩
    have HV2 := Lib.hid hb2
    have HB2 := Lib.hid (bel_t HB1.out hb2)
    have hs2 := hb2.size
    clear hb2
    have SP := Lib.hid (dvrow_o hR2)
    clear hR2
    go_wp2_with fail
    refine (sEraseAt _ _ _ ds a1 _ (SP.out.at hm)).mono ?_
    rw [HE.out]
    simp only []
    rintro e w3 ⟨v3, rfl, hO3, hb3⟩
    have HV3 := Lib.hid hb3
    have HB3 := Lib.hid (bel_t HB2.out hb3)
    have hs3 := hb3.size
    clear hb3
    replace SP := Lib.hid (SP.out.keep HV3.out)
    obtain ⟨A3, c3, rfl, hT3⟩ := devout hO3
    have S3 := Lib.hid hT3
    clear hO3 hT3 SP
    go_wp2_with fail
    refine (toBlockS_any _ _ _ ds _ (HP.out.keep HB3.out) hn HS.out).mono ?_
    rintro e w4 ⟨g4, G4, rfl, hR4, hb4⟩
    have HV4 := Lib.hid hb4
    have HB4 := Lib.hid (bel_t HB3.out hb4)
    have hs4 := hb4.size
    clear hb4
    replace S3 := Lib.hid (S3.out.keep HV4.out)
    have SX := Lib.hid (dvrow_o hR4)
    clear hR4
    go_wp2_with fail
    refine (iEraseAt _ _ _ ds a1 _ (SX.out.at hm)).mono ?_
    rw [HE.out]
    simp only []
    rintro e w5 ⟨v5, rfl, hO5, hb5⟩
    have HV5 := Lib.hid hb5
    have HB5 := Lib.hid (bel_t HB4.out hb5)
    have hs5 := hb5.size
    clear hb5
    replace S3 := Lib.hid (S3.out.keep HV5.out)
    replace SX := Lib.hid (SX.out.keep HV5.out)
    obtain ⟨A5, c5, rfl, hT5⟩ := devout hO5
    have S5 := Lib.hid hT5
    clear hO5 hT5
    go_wp2_with fail
    refine (eqBlockS_refl _ _ _ _ _ E _ (S5.out.at hmE) (S3.out.at hmE)).mono ?_
    rintro e w6 ⟨rfl, hb6⟩
    have HV6 := Lib.hid hb6
    have HB6 := Lib.hid (bel_t HB5.out hb6)
    have hs6 := hb6.size
    clear hb6
    replace S3 := Lib.hid (S3.out.keep HV6.out)
    replace SX := Lib.hid (SX.out.keep HV6.out)
    replace S5 := Lib.hid (S5.out.keep HV6.out)
    go_wp2_with fail
    refine (toBlockS_any _ _ _ ds _ (HP.out.keep HB6.out) hn HS.out).mono ?_
    rintro e w7 ⟨g7, G7, rfl, hR7, hb7⟩
    have HV7 := Lib.hid hb7
    have HB7 := Lib.hid (bel_t HB6.out hb7)
    have hs7 := hb7.size
    clear hb7
    replace S3 := Lib.hid (S3.out.keep HV7.out)
    replace SX := Lib.hid (SX.out.keep HV7.out)
    replace S5 := Lib.hid (S5.out.keep HV7.out)
    have SP := Lib.hid (dvrow_o hR7)
    clear hR7
    go_wp2_with fail
    refine (eqBlockS_refl _ _ _ _ _ ds _ (SX.out.at hm) (SP.out.at hm)).mono ?_
    rintro e w8 ⟨rfl, hb8⟩
    have HV8 := Lib.hid hb8
    have HB8 := Lib.hid (bel_t HB7.out hb8)
    have hs8 := hb8.size
    clear hb8
    replace S3 := Lib.hid (S3.out.keep HV8.out)
    replace SX := Lib.hid (SX.out.keep HV8.out)
    replace S5 := Lib.hid (S5.out.keep HV8.out)
    replace SP := Lib.hid (SP.out.keep HV8.out)
    clear SP
    go_wp2_with fail
    refine (markO_any _ _ _ w3.heap.size w4.heap.size ds _ SX.out hn HS.out).mono ?_
    rintro e w9 ⟨rfl, hS9, hC9⟩
    have HB9 := Lib.hid (hC9.2.2.2 _ _ HB8.out (by omega))
    have hs9 : w9.heap.size = w8.heap.size := hC9.1
    replace S3 := Lib.hid (S3.out.chgI (by omega) hC9)
    replace S5 := Lib.hid (S5.out.chgI (by omega) hC9)
    replace SX := Lib.hid hS9
    clear hS9 hC9
    have hr0 : ¬ (yAt ds 1 n < 0) := by have := (yAt_b ds 1 n n HS.out (Nat.le_refl _)).1; omega
    clear SX
    go_wp2_with fail
    refine (eqBlockS_refl _ _ _ _ _ E _ (S5.out.at hmE) (S3.out.at hmE)).mono ?_
    rintro e w10 ⟨rfl, hb10⟩
    have HV10 := Lib.hid hb10
    have HB10 := Lib.hid (bel_t HB9.out hb10)
    have hs10 := hb10.size
    clear hb10
    replace S3 := Lib.hid (S3.out.keep HV10.out)
    replace S5 := Lib.hid (S5.out.keep HV10.out)
    go_wp2_with fail
    refine (markO_any _ _ _ w4.heap.size w5.heap.size E _ S5.out hnE HSE.out).mono ?_
    rintro e w11 ⟨rfl, hS11, hC11⟩
    have HB11 := Lib.hid (hC11.2.2.2 _ _ HB10.out (by omega))
    have hs11 : w11.heap.size = w10.heap.size := hC11.1
    replace S3 := Lib.hid (S3.out.chgI (by omega) hC11)
    replace S5 := Lib.hid hS11
    clear hS11 hC11
    have hr1 : ¬ (yAt E 1 E.length < 0) := by have := (yAt_b E 1 E.length E.length HSE.out (Nat.le_refl _)).1; omega
    go_wp2_with fail
    refine (heldBlockS_any _ _ _ E _ (S5.out.at hmE) hnE HSE.out).mono ?_
    rintro e w12 ⟨rfl, hb12⟩
    have HV12 := Lib.hid hb12
    have HB12 := Lib.hid (bel_t HB11.out hb12)
    have hs12 := hb12.size
    clear hb12
    replace S3 := Lib.hid (S3.out.keep HV12.out)
    replace S5 := Lib.hid (S5.out.keep HV12.out)
    go_wp2_with fail
    refine (toBlockS_any _ _ _ ds _ (HP.out.keep HB12.out) hn HS.out).mono ?_
    rintro e w13 ⟨g13, G13, rfl, hR13, hb13⟩
    have HV13 := Lib.hid hb13
    have HB13 := Lib.hid (bel_t HB12.out hb13)
    have hs13 := hb13.size
    clear hb13
    replace S3 := Lib.hid (S3.out.keep HV13.out)
    replace S5 := Lib.hid (S5.out.keep HV13.out)
    have SP := Lib.hid (dvrow_o hR13)
    clear hR13
    go_wp2_with fail
    refine (iEraseAt _ _ _ ds a1 _ (SP.out.at hm)).mono ?_
    rw [HE.out]
    simp only []
    rintro e w14 ⟨v14, rfl, hO14, hb14⟩
    have HV14 := Lib.hid hb14
    have HB14 := Lib.hid (bel_t HB13.out hb14)
    have hs14 := hb14.size
    clear hb14
    replace S3 := Lib.hid (S3.out.keep HV14.out)
    replace S5 := Lib.hid (S5.out.keep HV14.out)
    replace SP := Lib.hid (SP.out.keep HV14.out)
    obtain ⟨A14, c14, rfl, hT14⟩ := devout hO14
    have S14 := Lib.hid hT14
    clear hO14 hT14 SP
    go_wp2_with fail
    refine (eqBlockS_refl _ _ _ _ _ E _ (S14.out.at hmE) (S3.out.at hmE)).mono ?_
    rintro e w15 ⟨rfl, hb15⟩
    have HV15 := Lib.hid hb15
    have HB15 := Lib.hid (bel_t HB14.out hb15)
    have hs15 := hb15.size
    clear hb15
    replace S3 := Lib.hid (S3.out.keep HV15.out)
    replace S5 := Lib.hid (S5.out.keep HV15.out)
    replace S14 := Lib.hid (S14.out.keep HV15.out)
    go_wp2_with fail
    refine (heldBlockS_any _ _ _ E _ (S5.out.at hmE) hnE HSE.out).mono ?_
    rintro e w16 ⟨rfl, hb16⟩
    have HV16 := Lib.hid hb16
    have HB16 := Lib.hid (bel_t HB15.out hb16)
    have hs16 := hb16.size
    clear hb16
    replace S3 := Lib.hid (S3.out.keep HV16.out)
    replace S5 := Lib.hid (S5.out.keep HV16.out)
    replace S14 := Lib.hid (S14.out.keep HV16.out)
    go_wp2
    go_ret
    exact ⟨rfl, HB16.out⟩

namespace fnExactEraseAt
open Go.ChangeShapes Go.WideShapes Go.ChangeAt Go.RowKit
theorem own : ownKnob Try.prog.godebug = none := by kernel_rfl
theorem laidOut : laidOutB Try.prog = true := by kernel_rfl
theorem spec_ok : LawSpec Rows.fnExactEraseAtSpec 2 := ⟨rfl, fun H ds h => by
  match ds, h with
  | [_, _], _ => exact ⟨rfl, rfl, rfl⟩⟩
theorem rd3 : Try.prog.readableRec 3 = true ∧ 3 < Try.prog.types.size := ⟨by kernel_rfl, of_decide_eq_true (by kernel_rfl)⟩
theorem rd42 : Try.prog.readableRec 42 = true ∧ 42 < Try.prog.types.size := ⟨by kernel_rfl, of_decide_eq_true (by kernel_rfl)⟩
set_option maxRecDepth 100000 in
theorem lifted (os : Os) (started : os.Started) (H : Type) (enc : TypeId × Value → H) :
    ReturnsInHanded {} Try.checked os 9 .any (Rows.fnExactEraseAtSpec.pre6 enc Try.prog Try.f9 Rows.fnExactEraseAtRow.domain false) (Rows.fnExactEraseAtSpec.post enc Try.prog Try.f9 false true false false) := by
  refine law_lifted (C := Try.checked) (tb := 4) own started (by kernel_rfl) Try.func9 laidOut ?_ spec_ok (by rfl) Try.underlying4
    (ChangeSpec.witness6 (enc := enc) (C := Try.checked) false ⟨#[], #[.slice none 0 0, .int .i64 0], []⟩ 8 (by kernel_rfl) (by kernel_rfl) (by kernel_rfl) (by kernel_rfl)) ?_
  · rw [Try.params9]
    intro t ht
    simp only [List.mem_cons, List.not_mem_nil, or_false] at ht
    rcases ht with rfl | rfl
    · exact rd42
    · exact rd3
  · intro W base args ds ps hval0 hA0
    have hval : ∀ (j : Nat) t v, Try.f9.params[j]? = some t → args[j]? = some v → Value.okWide Try.prog W .any base t v := hval0
    have hA : DataW.TrodAll enc Try.prog W 0 (fun _ => true) true Try.f9.params.toList args.toList ds ps := hA0
    clear hval0 hA0
    rw [Try.params9] at hA hval
    obtain ⟨v0, vs0, d0, ds0, p0, q0, hargs, rfl, rfl, h0, r0⟩ := trodAll_cons hA
    obtain ⟨v1, vs1, d1, ds1, p1, q1, rfl, rfl, rfl, h1, r1⟩ := trodAll_cons r0
    obtain ⟨rfl, rfl, rfl⟩ := trodAll_nil r1
    obtain rfl : args = #[v0, v1] := by cases args; simp_all
    obtain ⟨x0, rfl, hx0⟩ := open_D Try.underlying42 tyLB (hval 0 42 v0 rfl rfl) h0
    obtain ⟨a1, rfl, rfl, rfl, w1⟩ := open_int Try.underlying3 (hval 1 3 v1 rfl rfl) h1
    exact walk_FnExactEraseAt x0 a1 W hx0 w1

theorem over : Rows.fnExactEraseAtRow.holds Try.pinned (OpenSpec.ofChange Rows.fnExactEraseAtSpec) :=
  OpenClaim.holds_of_wide 9 Try.f9 rfl rfl rfl rfl rfl rfl rfl ⟨rfl, rfl, rfl, rfl, rfl⟩ rfl rfl rfl rfl rfl (by kernel_rfl) Try.func9 (by kernel_rfl)
    (of_decide_eq_true (by kernel_rfl)) (by unfold Func.isWrapper; first | (rw [if_pos (by decide +kernel)]; kernel_rfl) | (rw [if_neg (by decide +kernel)]; exact ⟨rfl, rfl⟩))
    (fun os started H enc _ => lifted os started H enc)

theorem proved : Rows.FnExactEraseAtSaid :=
  over
#print axioms proved
end fnExactEraseAt
end Go.Proofs.Ytbinphenccnhoaa
