/- The law FnCodeWord: for every code, of whatever length, the law returns true. No conditions. -/
import Derived.Test.YtejppibmjckckaaRows
import Derived.Test.YtejppibmjckckaaOpenC
import Derived.Test.YtejppibmjckckaaDraws3
import Derived.Test.YtejppibmjckckaaSetLaws3
namespace Go.Proofs.Ytejppibmjckckaa
open Go.RowKit
set_option linter.unusedVariables false

set_option maxRecDepth 100000 in
set_option maxHeartbeats 4000000 in
theorem walk_FnCodeWord (x : Cd) (w : World) (hx : CodeArg w x) :
    Calls Try.prog 13 #[x.val] w fun e w' => e = .returned (.bool true) ∧ Below w.heap.size w w' := by
  have h1 := hx.1
  have h2 := hx.2.1
  unfold maxLen at h2
  simp only [Cd.val]
  by_cases hbig : 1048576 < x.n
  · go_enter Try.func13, Try.ntmps13
    go_wp2
    go_ret
    exact ⟨rfl, Below.refl _ _⟩
  · go_enter Try.func13, Try.ntmps13
    go_wp2_with fail
    refine (dCodeWord x _ hx).mono ?_
    rintro e w1 ⟨s, rfl, hb1⟩
    by_cases hin : 0 ≤ s ∧ s ≤ 255
    · obtain ⟨q1, q2, q3, Hx, Ha, Hf⟩ := code_laws s hin
      have hmod : 0 ≤ (s + 1) % 256 ∧ (s + 1) % 256 ≤ 255 := by omega
      have kx := Hx.out
      have ka := Ha.out
      go_wp2_with fail
      refine (iCode _ _).mono ?_
      rintro e w2 ⟨rfl, hb2⟩
      go_wp2_with fail
      refine (sCode _ _).mono ?_
      rintro e w3 ⟨rfl, hb3⟩
      go_wp2_with fail
      refine (iFix _ _).mono ?_
      rintro e w4 ⟨rfl, hb4⟩
      rw [kx]
      go_wp2_with fail
      refine (iCode _ _).mono ?_
      rintro e w5 ⟨rfl, hb5⟩
      go_wp2_with fail
      refine (iApart _ _ _).mono ?_
      rintro e w6 ⟨rfl, rfl⟩
      have HB := Lib.hid (bel_t (bel_t (bel_t (bel_t hb1 hb2) hb3) hb4) hb5)
      go_wp2
      go_loopw [7] (fun p wr => ∃ j : Nat, j ≤ 12 ∧ p = .int .i64 ((j : Int) + 1) ∧ Hid (Below w.heap.size w wr)) (fun p _ => 13 - (intOf p).toNat)
      case atStart => exact ⟨0, by omega, rfl, HB.out⟩
      case round =>
        obtain ⟨j, hj, rfl, HW⟩ := hrel
        by_cases hlt : j < 12
        · have kf := Hf.out j hlt
          go_wp2_with fail
          refine (iFlip _ _ _).mono ?_
          rintro e w7 ⟨rfl, rfl⟩
          go_wp2_with fail
          refine (iFix _ _).mono ?_
          rintro e w8 ⟨rfl, hb8⟩
          rw [kf]
          have HW2 := Lib.hid (bel_t HW.out hb8)
          go_wp2
          go_roundw
          case rel => exact ⟨j + 1, by omega, by go_num, HW2.out⟩
          case measure => simp [intOf]; omega
        · obtain rfl : j = 12 := by omega
          go_wp2
          go_ret
          exact ⟨rfl, HW.out⟩
    · have k1 : codeF s = -1 := code_out s hin
      go_wp2_with fail
      refine (iCode _ _).mono ?_
      rintro e w2 ⟨rfl, hb2⟩
      go_wp2_with fail
      refine (sCode _ _).mono ?_
      rintro e w3 ⟨rfl, hb3⟩
      rw [k1]
      go_wp2_with (go_at_call 19; refine (alive_any _).mono ?_; rintro e w' ⟨rfl, rfl⟩)
      go_ret
      exact ⟨rfl, bel_t (bel_t hb1 hb2) hb3⟩

namespace fnCodeWord
open Go.ChangeShapes Go.WideShapes Go.ChangeAt Go.RowKit
theorem own : ownKnob Try.prog.godebug = none := by kernel_rfl
theorem laidOut : laidOutB Try.prog = true := by kernel_rfl
theorem spec_ok : LawSpec Rows.fnCodeWordSpec 1 := ⟨rfl, fun H ds h => by
  match ds, h with
  | [_], _ => exact ⟨rfl, rfl, rfl⟩⟩
theorem rd22 : Try.prog.readableRec 22 = true ∧ 22 < Try.prog.types.size := ⟨by kernel_rfl, of_decide_eq_true (by kernel_rfl)⟩
set_option maxRecDepth 100000 in
theorem lifted (os : Os) (started : os.Started) (H : Type) (enc : TypeId × Value → H) :
    ReturnsInHanded {} Try.checked os 13 .any (Rows.fnCodeWordSpec.pre6 enc Try.prog Try.f13 Rows.fnCodeWordRow.domain false) (Rows.fnCodeWordSpec.post enc Try.prog Try.f13 false true false false) := by
  refine law_lifted (C := Try.checked) (tb := 4) own started (by kernel_rfl) Try.func13 laidOut ?_ spec_ok (by rfl) Try.underlying4
    (ChangeSpec.witness6 (enc := enc) (C := Try.checked) false ⟨#[], #[.slice none 0 0], []⟩ 8 (by kernel_rfl) (by kernel_rfl) (by kernel_rfl) (by kernel_rfl)) ?_
  · rw [Try.params13]
    intro t ht
    simp only [List.mem_cons, List.not_mem_nil, or_false] at ht
    subst ht
    exact rd22
  · intro W base args ds ps hval0 hA0
    have hval : ∀ (j : Nat) t v, Try.f13.params[j]? = some t → args[j]? = some v → Value.okWide Try.prog W .any base t v := hval0
    have hA : DataW.TrodAll enc Try.prog W 0 (fun _ => true) true Try.f13.params.toList args.toList ds ps := hA0
    clear hval0 hA0
    rw [Try.params13] at hA hval
    obtain ⟨v0, vs0, d0, ds0, p0, q0, hargs, rfl, rfl, h0, r0⟩ := trodAll_cons hA
    obtain ⟨rfl, rfl, rfl⟩ := trodAll_nil r0
    obtain rfl : args = #[v0] := by cases args; simp_all
    obtain ⟨x0, rfl, hx0⟩ := open_c Try.underlying22 Try.underlying5 (by kernel_rfl) (hval 0 22 v0 rfl rfl) h0
    exact walk_FnCodeWord x0 W hx0

theorem over : Rows.fnCodeWordRow.holds Try.pinned (OpenSpec.ofChange Rows.fnCodeWordSpec) :=
  OpenClaim.holds_of_wide 13 Try.f13 rfl rfl rfl rfl rfl rfl rfl ⟨rfl, rfl, rfl, rfl, rfl⟩ rfl rfl rfl rfl rfl (by kernel_rfl) Try.func13 (by kernel_rfl)
    (of_decide_eq_true (by kernel_rfl)) (by unfold Func.isWrapper; first | (rw [if_pos (by decide +kernel)]; kernel_rfl) | (rw [if_neg (by decide +kernel)]; exact ⟨rfl, rfl⟩))
    (fun os started H enc _ => lifted os started H enc)

theorem proved : Rows.FnCodeWordSaid :=
  over
#print axioms proved
end fnCodeWord
end Go.Proofs.Ytejppibmjckckaa
