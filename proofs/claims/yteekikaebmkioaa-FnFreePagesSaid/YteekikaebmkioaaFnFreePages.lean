/- The law FnFreePages: for every code, of whatever length, the law returns true. No conditions. -/
import Derived.Test.YteekikaebmkioaaRows
import Derived.Test.YteekikaebmkioaaOpenC
import Derived.Test.YteekikaebmkioaaAlive
import Derived.Test.YteekikaebmkioaaSame
import Derived.Test.YteekikaebmkioaaDraws7
namespace Go.Proofs.Yteekikaebmkioaa
open Go.RowKit
set_option linter.unusedVariables false

set_option maxRecDepth 100000 in
set_option maxHeartbeats 4000000 in
theorem walk_FnFreePages (x : Cd) (w : World) (hx : CodeArg w x) :
    Calls Try.prog 10 #[x.val] w fun e w' => e = .returned (.bool true) ∧ Below w.heap.size w w' := by
  have h1 := hx.1
  have h2 := hx.2.1
  unfold maxLen at h2
  simp only [Cd.val]
  by_cases hbig : 1048576 < x.n
  · go_enter Try.func10, Try.ntmps10
    go_wp2
    go_ret
    exact ⟨rfl, Below.refl _ _⟩
  · go_enter Try.func10, Try.ntmps10
    have HB0 : Hid (Below w.heap.size w w) := Lib.hid (Below.refl _ _)
    go_wp2_with fail
    refine (dFreePages x _ hx).mono ?_
    rintro e w1 ⟨A, m, c, ds, rfl, hmc, hm13, hP1, hb1⟩
    have HB1 := Lib.hid hb1
    have HP := Lib.hid hP1
    have hlen := hP1.1
    clear hb1 hP1
    obtain ⟨n, HN⟩ : ∃ n, Hid (freePagesF ds = n) := ⟨_, rfl⟩
    go_wp2_with fail
    refine (iFreePages _ _ _ ds _ HP.out).mono ?_
    rw [HN.out]
    rintro e w2 ⟨rfl, hb2⟩
    have HV2 := Lib.hid (hb2)
    have HB2 := Lib.hid (bel_t HB1.out HV2.out)
    replace HP := Lib.hid (HP.out.keep HV2.out)
    clear hb2
    go_wp2_with fail
    refine (sFreePages _ _ _ ds _ HP.out).mono ?_
    rw [HN.out]
    rintro e w3 ⟨rfl, hb3⟩
    have HV3 := Lib.hid (hb3)
    have HB3 := Lib.hid (bel_t HB2.out HV3.out)
    replace HP := Lib.hid (HP.out.keep HV3.out)
    clear hb3
    cases hv : deviceValidF ds
    · obtain rfl : n = -1 := HN.out.symm.trans (fp_1 ds hv)
      clear hv
      go_wp2_with (go_at_call 18; refine (alive_any _).mono ?_; rintro e w' ⟨rfl, rfl⟩)
      go_ret
      exact ⟨rfl, HB3.out⟩
    · have HV := Lib.hid hv
      have hn : n = (freeAt ds (4 * m) : Int) := HN.out.symm.trans ((fp_2 ds m hlen hv).trans (fp_4 ds m m hlen hv (Nat.le_refl _)))
      have HNN := Lib.hid hn
      have hn0 : 0 ≤ n := by omega
      have hn1 : ¬ n < 0 := by omega
      have hn52 : n ≤ 52 := by have := freeAt_le ds (4 * m); omega
      have hm13I : (m : Int) ≤ 13 := by omega
      clear hv hn
      go_wp2_with fail
      go_loopw [5, 6] (fun x5 x6 wr => ∃ (q : Nat) (f : Int), q ≤ 4 * m ∧ x5 = .int .i64 f ∧ x6 = .int .i64 (q : Int) ∧ Hid (f = (q : Int) - (freeAt ds q : Int)) ∧ Hid (Below w.heap.size w wr) ∧ Hid (DevAt wr A m ds)) (fun _ x6 _ => 4 * m - (intOf x6).toNat)
      case atStart => exact ⟨0, 0, by omega, rfl, rfl, (by show (0 : Int) = _; rw [freeAt_zero]; rfl), HB3.out, HP.out⟩
      case round =>
        obtain ⟨q, f, hq, rfl, rfl, HF, HB, HD⟩ := hrel
        have hf0 : 0 ≤ f := by rw [HF.out]; have := freeAt_le ds q; omega
        have hf1 : f ≤ 52 := by rw [HF.out]; omega
        by_cases hqm : q = 4 * m
        · have hqI : ¬ (q : Int) < 4 * (m : Int) := by omega
          have hsum : n + f = 4 * (m : Int) := by rw [HF.out, HNN.out, hqm]; omega
          go_wp2
          go_ret
          exact ⟨by simp, HB.out⟩
        · have hqI : (q : Int) < 4 * (m : Int) := by omega
          have hrp := rp_at ds m q hlen HV.out (by omega)
          go_wp2_with fail
          refine (iReadPage _ _ _ ds _ _ HD.out).mono ?_
          rw [hrp]
          rintro e w5 ⟨rfl, hb5⟩
          have HB5 := Lib.hid (bel_t HB.out hb5)
          have HD5 := Lib.hid (HD.out.keep hb5)
          clear hb5 hrp
          cases hfull : (pgAt (blAt ds (q / 4)).pages (q % 4)).full
          · have HF5 : Hid (f = ((q + 1 : Nat) : Int) - (freeAt ds (q + 1) : Int)) := Lib.hid (by rw [freeAt_f ds q hfull, HF.out]; omega)
            simp only [Pg.val]
            go_wp2
            go_round
            case rel => exact ⟨q + 1, f, by omega, rfl, by go_num, HF5.out, bel_t HB5.out (bel_1 _ _), HD5.out.keep (bel_1 _ _)⟩
            case measure => simp [intOf]; omega
          · have HF5 : Hid (f + 1 = ((q + 1 : Nat) : Int) - (freeAt ds (q + 1) : Int)) := Lib.hid (by rw [freeAt_t ds q hfull, HF.out]; omega)
            simp only [Pg.val]
            go_wp2
            go_round
            case rel => exact ⟨q + 1, f + 1, by omega, by go_num, by go_num, HF5.out, bel_t HB5.out (bel_1 _ _), HD5.out.keep (bel_1 _ _)⟩
            case measure => simp [intOf]; omega

namespace fnFreePages
open Go.ChangeShapes Go.WideShapes Go.ChangeAt Go.RowKit
theorem own : ownKnob Try.prog.godebug = none := by kernel_rfl
theorem laidOut : laidOutB Try.prog = true := by kernel_rfl
theorem spec_ok : LawSpec Rows.fnFreePagesSpec 1 := ⟨rfl, fun H ds h => by
  match ds, h with
  | [_], _ => exact ⟨rfl, rfl, rfl⟩⟩
theorem rd22 : Try.prog.readableRec 22 = true ∧ 22 < Try.prog.types.size := ⟨by kernel_rfl, of_decide_eq_true (by kernel_rfl)⟩
set_option maxRecDepth 100000 in
theorem lifted (os : Os) (started : os.Started) (H : Type) (enc : TypeId × Value → H) :
    ReturnsInHanded {} Try.checked os 10 .any (Rows.fnFreePagesSpec.pre6 enc Try.prog Try.f10 Rows.fnFreePagesRow.domain false) (Rows.fnFreePagesSpec.post enc Try.prog Try.f10 false true false false) := by
  refine law_lifted (C := Try.checked) (tb := 4) own started (by kernel_rfl) Try.func10 laidOut ?_ spec_ok (by rfl) Try.underlying4
    (ChangeSpec.witness6 (enc := enc) (C := Try.checked) false ⟨#[], #[.slice none 0 0], []⟩ 8 (by kernel_rfl) (by kernel_rfl) (by kernel_rfl) (by kernel_rfl)) ?_
  · rw [Try.params10]
    intro t ht
    simp only [List.mem_cons, List.not_mem_nil, or_false] at ht
    subst ht
    exact rd22
  · intro W base args ds ps hval0 hA0
    have hval : ∀ (j : Nat) t v, Try.f10.params[j]? = some t → args[j]? = some v → Value.okWide Try.prog W .any base t v := hval0
    have hA : DataW.TrodAll enc Try.prog W 0 (fun _ => true) true Try.f10.params.toList args.toList ds ps := hA0
    clear hval0 hA0
    rw [Try.params10] at hA hval
    obtain ⟨v0, vs0, d0, ds0, p0, q0, hargs, rfl, rfl, h0, r0⟩ := trodAll_cons hA
    obtain ⟨rfl, rfl, rfl⟩ := trodAll_nil r0
    obtain rfl : args = #[v0] := by cases args; simp_all
    obtain ⟨x0, rfl, hx0⟩ := open_c Try.underlying22 Try.underlying5 (by kernel_rfl) (hval 0 22 v0 rfl rfl) h0
    exact walk_FnFreePages x0 W hx0

theorem over : Rows.fnFreePagesRow.holds Try.pinned (OpenSpec.ofChange Rows.fnFreePagesSpec) :=
  OpenClaim.holds_of_wide 10 Try.f10 rfl rfl rfl rfl rfl rfl rfl ⟨rfl, rfl, rfl, rfl, rfl⟩ rfl rfl rfl rfl rfl (by kernel_rfl) Try.func10 (by kernel_rfl)
    (of_decide_eq_true (by kernel_rfl)) (by unfold Func.isWrapper; first | (rw [if_pos (by decide +kernel)]; kernel_rfl) | (rw [if_neg (by decide +kernel)]; exact ⟨rfl, rfl⟩))
    (fun os started H enc _ => lifted os started H enc)

theorem proved : Rows.FnFreePagesSaid :=
  over
#print axioms proved
end fnFreePages
end Go.Proofs.Yteekikaebmkioaa
