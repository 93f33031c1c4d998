/- The law FnFixWord: for every code, of whatever length, the law returns true. No conditions. -/
import Derived.Test.YtejppibmjckckaaRows
import Derived.Test.YtejppibmjckckaaOpenC
import Derived.Test.YtejppibmjckckaaDraws3
import Derived.Test.YtejppibmjckckaaSetLaws3
namespace Go.Proofs.Ytejppibmjckckaa
open Go.RowKit
set_option linter.unusedVariables false

set_option maxRecDepth 100000 in
set_option maxHeartbeats 4000000 in
theorem walk_FnFixWord (x : Cd) (w : World) (hx : CodeArg w x) :
    Calls Try.prog 14 #[x.val] w fun e w' => e = .returned (.bool true) ∧ Below w.heap.size w w' := by
  have h1 := hx.1
  have h2 := hx.2.1
  unfold maxLen at h2
  simp only [Cd.val]
  by_cases hbig : 1048576 < x.n
  · go_enter Try.func14, Try.ntmps14
    go_wp2
    go_ret
    exact ⟨rfl, Below.refl _ _⟩
  · go_enter Try.func14, Try.ntmps14
    go_wp2_with fail
    refine (dFixWord x _ hx).mono ?_
    rintro e w1 ⟨s, rfl, hb1⟩
    obtain ⟨⟨fa, fb⟩, HF⟩ : ∃ p : Int × Int, Hid (fixF s = p) := ⟨_, rfl⟩
    have HL := Lib.hid (fix_laws s)
    rw [HF.out] at HL
    go_wp2_with fail
    refine (iFix _ _).mono ?_
    rintro e w2 ⟨rfl, hb2⟩
    rw [HF.out]
    go_wp2_with fail
    refine (sFix _ _).mono ?_
    rintro e w3 ⟨rfl, hb3⟩
    rw [HF.out]
    rcases HL.out with ⟨k1, k2⟩ | ⟨k1, k2, k3⟩ | ⟨k1, k2, k3⟩
    · subst k1 k2
      go_wp2_with (go_at_call 19; refine (alive_any _).mono ?_; rintro e w' ⟨rfl, rfl⟩)
      go_ret
      exact ⟨rfl, bel_t (bel_t hb1 hb2) hb3⟩
    · subst k2
      go_wp2_with fail
      refine (iCode _ _).mono ?_
      rintro e w4 ⟨rfl, hb4⟩
      rw [k3]
      clear k3
      go_wp2
      go_ret
      exact ⟨rfl, bel_t (bel_t (bel_t hb1 hb2) hb3) hb4⟩
    · have k4 : (fb == 0) = false := by rw [beq_eq_false_iff_ne]; omega
      have K3 := Lib.hid k3
      clear k3
      go_wp2_with fail
      refine (iCode _ _).mono ?_
      rintro e w4 ⟨rfl, hb4⟩
      go_wp2_with fail
      refine (iFlip _ _ _).mono ?_
      rintro e w5 ⟨rfl, rfl⟩
      rw [K3.out]
      go_wp2
      go_ret
      exact ⟨rfl, bel_t (bel_t (bel_t hb1 hb2) hb3) hb4⟩

namespace fnFixWord
open Go.ChangeShapes Go.WideShapes Go.ChangeAt Go.RowKit
theorem own : ownKnob Try.prog.godebug = none := by kernel_rfl
theorem laidOut : laidOutB Try.prog = true := by kernel_rfl
theorem spec_ok : LawSpec Rows.fnFixWordSpec 1 := ⟨rfl, fun H ds h => by
  match ds, h with
  | [_], _ => exact ⟨rfl, rfl, rfl⟩⟩
theorem rd22 : Try.prog.readableRec 22 = true ∧ 22 < Try.prog.types.size := ⟨by kernel_rfl, of_decide_eq_true (by kernel_rfl)⟩
set_option maxRecDepth 100000 in
theorem lifted (os : Os) (started : os.Started) (H : Type) (enc : TypeId × Value → H) :
    ReturnsInHanded {} Try.checked os 14 .any (Rows.fnFixWordSpec.pre6 enc Try.prog Try.f14 Rows.fnFixWordRow.domain false) (Rows.fnFixWordSpec.post enc Try.prog Try.f14 false true false false) := by
  refine law_lifted (C := Try.checked) (tb := 4) own started (by kernel_rfl) Try.func14 laidOut ?_ spec_ok (by rfl) Try.underlying4
    (ChangeSpec.witness6 (enc := enc) (C := Try.checked) false ⟨#[], #[.slice none 0 0], []⟩ 8 (by kernel_rfl) (by kernel_rfl) (by kernel_rfl) (by kernel_rfl)) ?_
  · rw [Try.params14]
    intro t ht
    simp only [List.mem_cons, List.not_mem_nil, or_false] at ht
    subst ht
    exact rd22
  · intro W base args ds ps hval0 hA0
    have hval : ∀ (j : Nat) t v, Try.f14.params[j]? = some t → args[j]? = some v → Value.okWide Try.prog W .any base t v := hval0
    have hA : DataW.TrodAll enc Try.prog W 0 (fun _ => true) true Try.f14.params.toList args.toList ds ps := hA0
    clear hval0 hA0
    rw [Try.params14] at hA hval
    obtain ⟨v0, vs0, d0, ds0, p0, q0, hargs, rfl, rfl, h0, r0⟩ := trodAll_cons hA
    obtain ⟨rfl, rfl, rfl⟩ := trodAll_nil r0
    obtain rfl : args = #[v0] := by cases args; simp_all
    obtain ⟨x0, rfl, hx0⟩ := open_c Try.underlying22 Try.underlying5 (by kernel_rfl) (hval 0 22 v0 rfl rfl) h0
    exact walk_FnFixWord x0 W hx0

theorem over : Rows.fnFixWordRow.holds Try.pinned (OpenSpec.ofChange Rows.fnFixWordSpec) :=
  OpenClaim.holds_of_wide 14 Try.f14 rfl rfl rfl rfl rfl rfl rfl ⟨rfl, rfl, rfl, rfl, rfl⟩ rfl rfl rfl rfl rfl (by kernel_rfl) Try.func14 (by kernel_rfl)
    (of_decide_eq_true (by kernel_rfl)) (by unfold Func.isWrapper; first | (rw [if_pos (by decide +kernel)]; kernel_rfl) | (rw [if_neg (by decide +kernel)]; exact ⟨rfl, rfl⟩))
    (fun os started H enc _ => lifted os started H enc)

theorem proved : Rows.FnFixWordSaid :=
  over
#print axioms proved
end fnFixWord
end Go.Proofs.Ytejppibmjckckaa
