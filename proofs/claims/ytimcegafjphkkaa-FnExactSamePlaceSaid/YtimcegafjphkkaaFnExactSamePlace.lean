/- The law FnExactSamePlace: for every two pages the program's SamePlace returns what the reference's returns, so the law returns true. No conditions. -/
import Derived.Test.YtimcegafjphkkaaRows
import Derived.Test.YtimcegafjphkkaaLawKit
import Derived.Test.YtimcegafjphkkaaRegs2
import Derived.Deep.RegionHeld3
namespace Go.Proofs.Ytimcegafjphkkaa
open Go.RowKit
set_option linter.unusedVariables false

set_option maxHeartbeats 1000000 in
theorem walk_FnExactSamePlace (a0 : Pg) (a1 : Pg) (w : World) :
    Calls Try.prog 11 #[a0.val, a1.val] w fun e w' => e = .returned (.bool true) ∧ Below w.heap.size w w' := by
  obtain ⟨b0, f0, p0, v0, s0⟩ := a0
  obtain ⟨b1, f1, p1, v1, s1⟩ := a1
  simp only [Pg.val]
  go_enter Try.func11, Try.ntmps11
  go_wp2_with fail
  go_region_held3 (fun w' => w'.cell? ⟨w.heap.size, 0, none⟩ = some (.bool b0) ∧ w'.cell? ⟨w.heap.size, 1, none⟩ = some (.int .i64 f0) ∧ w'.cell? ⟨w.heap.size, 2, none⟩ = some (.int .i64 p0) ∧ w'.cell? ⟨w.heap.size, 3, none⟩ = some (.int .i64 v0) ∧ w'.cell? ⟨w.heap.size, 4, none⟩ = some (.int .i64 s0) ∧ w'.cell? ⟨w.heap.size + 1, 0, none⟩ = some (.bool b1) ∧ w'.cell? ⟨w.heap.size + 1, 1, none⟩ = some (.int .i64 f1) ∧ w'.cell? ⟨w.heap.size + 1, 2, none⟩ = some (.int .i64 p1) ∧ w'.cell? ⟨w.heap.size + 1, 3, none⟩ = some (.int .i64 v1) ∧ w'.cell? ⟨w.heap.size + 1, 4, none⟩ = some (.int .i64 s1) ∧ Below (w.heap.size + 2) ((w.alloc (.cells #[.bool b0, .int .i64 f0, .int .i64 p0, .int .i64 v0, .int .i64 s0] 30)).alloc (.cells #[.bool b1, .int .i64 f1, .int .i64 p1, .int .i64 v1, .int .i64 s1] 30)) w')
    ((refine ppMk _ _ _ _ _ _ _ _ _ _ _ _ ?_; first | exact (Below.refl _ _).drew | (go_split_ands; assumption) | exact reg_drew (by go_split_ands; assumption) | exact reg_call (by go_split_ands; assumption) hb1 (by simp) | exact reg_alloc (by go_split_ands; assumption) (by simp) _ | exact reg_swap (by go_split_ands; assumption) (by omega) _))
    (first | (go_at_call 26; refine (toPage_any _ _ _ _ _ _).mono ?_; rintro e w1 ⟨rfl, hb1⟩; have hz1 : w.heap.size + 2 ≤ w1.heap.size := reg_size (by go_split_ands; assumption) hb1 (by simp)) | (go_at_call 30; refine (sSame _ _ _ _ _ _ _ _ _ _ _).mono ?_; rintro e w1 ⟨rfl, hb1⟩; have hz1 : w.heap.size + 2 ≤ w1.heap.size := reg_size (by go_split_ands; assumption) hb1 (by simp)))
  go_wp2_with fail
  go_region_held3 (fun w' => w'.cell? ⟨w.heap.size, 0, none⟩ = some (.bool b0) ∧ w'.cell? ⟨w.heap.size, 1, none⟩ = some (.int .i64 f0) ∧ w'.cell? ⟨w.heap.size, 2, none⟩ = some (.int .i64 p0) ∧ w'.cell? ⟨w.heap.size, 3, none⟩ = some (.int .i64 v0) ∧ w'.cell? ⟨w.heap.size, 4, none⟩ = some (.int .i64 s0) ∧ w'.cell? ⟨w.heap.size + 1, 0, none⟩ = some (.bool b1) ∧ w'.cell? ⟨w.heap.size + 1, 1, none⟩ = some (.int .i64 f1) ∧ w'.cell? ⟨w.heap.size + 1, 2, none⟩ = some (.int .i64 p1) ∧ w'.cell? ⟨w.heap.size + 1, 3, none⟩ = some (.int .i64 v1) ∧ w'.cell? ⟨w.heap.size + 1, 4, none⟩ = some (.int .i64 s1) ∧ Below (w.heap.size + 2) ((w.alloc (.cells #[.bool b0, .int .i64 f0, .int .i64 p0, .int .i64 v0, .int .i64 s0] 30)).alloc (.cells #[.bool b1, .int .i64 f1, .int .i64 p1, .int .i64 v1, .int .i64 s1] 30)) w')
    ((refine ppMk _ _ _ _ _ _ _ _ _ _ _ _ ?_; first | exact (Below.refl _ _).drew | (go_split_ands; assumption) | exact reg_drew (by go_split_ands; assumption) | exact reg_call (by go_split_ands; assumption) hb1 (by simp) | exact reg_alloc (by go_split_ands; assumption) (by simp) _ | exact reg_swap (by go_split_ands; assumption) (by omega) _))
    (first | (go_at_call 26; refine (toPage_any _ _ _ _ _ _).mono ?_; rintro e w1 ⟨rfl, hb1⟩; have hz1 : w.heap.size + 2 ≤ w1.heap.size := reg_size (by go_split_ands; assumption) hb1 (by simp)) | (go_at_call 31; refine (iSame _ _ _ _ _ _ _ _ _ _ _).mono ?_; rintro e w1 ⟨rfl, hb1⟩; have hz1 : w.heap.size + 2 ≤ w1.heap.size := reg_size (by go_split_ands; assumption) hb1 (by simp)))
  go_wp2
  go_ret
  exact ⟨rfl, bel_t (bel_2 _ _ _) (by go_split_ands; (first | assumption | exact Below.mono (by assumption) (by simp)))⟩

namespace fnExactSamePlace
open Go.ChangeShapes Go.WideShapes Go.ChangeAt Go.RowKit
theorem own : ownKnob Try.prog.godebug = none := by kernel_rfl
theorem laidOut : laidOutB Try.prog = true := by kernel_rfl
theorem spec_ok : LawSpec Rows.fnExactSamePlaceSpec 2 := ⟨rfl, fun H ds h => by
  match ds, h with
  | [_, _], _ => exact ⟨rfl, rfl, rfl⟩⟩
theorem rd30 : Try.prog.readableRec 30 = true ∧ 30 < Try.prog.types.size := ⟨by kernel_rfl, of_decide_eq_true (by kernel_rfl)⟩
set_option maxRecDepth 100000 in
theorem lifted (os : Os) (started : os.Started) (H : Type) (enc : TypeId × Value → H) :
    ReturnsInHanded {} Try.checked os 11 .any (Rows.fnExactSamePlaceSpec.pre6 enc Try.prog Try.f11 Rows.fnExactSamePlaceRow.domain false) (Rows.fnExactSamePlaceSpec.post enc Try.prog Try.f11 false true false false) := by
  refine law_lifted (C := Try.checked) (tb := 4) own started (by kernel_rfl) Try.func11 laidOut ?_ spec_ok (by rfl) Try.underlying4
    (ChangeSpec.witness6 (enc := enc) (C := Try.checked) false ⟨#[], #[.agg #[.bool false, .int .i64 0, .int .i64 0, .int .i64 0, .int .i64 0], .agg #[.bool false, .int .i64 0, .int .i64 0, .int .i64 0, .int .i64 0]], []⟩ 8 (by kernel_rfl) (by kernel_rfl) (by kernel_rfl) (by kernel_rfl)) ?_
  · rw [Try.params11]
    intro t ht
    simp only [List.mem_cons, List.not_mem_nil, or_false] at ht
    rcases ht with rfl | rfl
    · exact rd30
    · exact rd30
  · intro W base args ds ps hval0 hA0
    have hval : ∀ (j : Nat) t v, Try.f11.params[j]? = some t → args[j]? = some v → Value.okWide Try.prog W .any base t v := hval0
    have hA : DataW.TrodAll enc Try.prog W 0 (fun _ => true) true Try.f11.params.toList args.toList ds ps := hA0
    clear hval0 hA0
    rw [Try.params11] at hA hval
    obtain ⟨v0, vs0, d0, ds0, p0, q0, hargs, rfl, rfl, h0, r0⟩ := trodAll_cons hA
    obtain ⟨v1, vs1, d1, ds1, p1, q1, rfl, rfl, rfl, h1, r1⟩ := trodAll_cons r0
    obtain ⟨rfl, rfl, rfl⟩ := trodAll_nil r1
    obtain rfl : args = #[v0, v1] := by cases args; simp_all
    obtain ⟨a0, rfl⟩ := open_page Try.underlying30 (by kernel_rfl) (by kernel_rfl) Try.underlying4 Try.underlying3 (hval 0 30 v0 rfl rfl) h0
    obtain ⟨a1, rfl⟩ := open_page Try.underlying30 (by kernel_rfl) (by kernel_rfl) Try.underlying4 Try.underlying3 (hval 1 30 v1 rfl rfl) h1
    exact walk_FnExactSamePlace a0 a1 W

theorem over : Rows.fnExactSamePlaceRow.holds Try.pinned (OpenSpec.ofChange Rows.fnExactSamePlaceSpec) :=
  OpenClaim.holds_of_wide 11 Try.f11 rfl rfl rfl rfl rfl rfl rfl ⟨rfl, rfl, rfl, rfl, rfl⟩ rfl rfl rfl rfl rfl (by kernel_rfl) Try.func11 (by kernel_rfl)
    (of_decide_eq_true (by kernel_rfl)) (by unfold Func.isWrapper; first | (rw [if_pos (by decide +kernel)]; kernel_rfl) | (rw [if_neg (by decide +kernel)]; exact ⟨rfl, rfl⟩))
    (fun os started H enc _ => lifted os started H enc)

theorem proved : Rows.FnExactSamePlaceSaid :=
  over
#print axioms proved
end fnExactSamePlace
end Go.Proofs.Ytimcegafjphkkaa
