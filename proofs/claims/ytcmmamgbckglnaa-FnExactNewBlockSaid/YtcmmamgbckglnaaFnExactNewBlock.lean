/- The law FnExactNewBlock: for every integer the program's NewBlock returns what the reference's returns, and keeps nothing of it, so the law returns true. No conditions. -/
import Derived.Test.YtcmmamgbckglnaaRows
import Derived.Test.YtcmmamgbckglnaaTypes
import Derived.Test.YtcmmamgbckglnaaMarks
import Derived.Test.YtcmmamgbckglnaaWrite
namespace Go.Proofs.Ytcmmamgbckglnaa
open Go.RowKit
set_option linter.unusedVariables false

theorem nb_len (x : Int) : (newBlockF x).pages.length ≤ 4 := by
  by_cases h : 0 ≤ x ∧ x ≤ 100
  · rw [nb_1 x h]; simp
  · rw [nb_2 x h]; simp

set_option maxHeartbeats 4000000 in
theorem walk_FnExactNewBlock (a0 : Int) (_w0 : (Lit.int .i64 a0).wf = true) (w : World) :
    Calls Try.prog 3 #[.int .i64 a0] w fun e w' => e = .returned (.bool true) ∧ Below w.heap.size w w' := by
  obtain ⟨nb, HNB⟩ : ∃ nb, Hid (newBlockF a0 = nb) := ⟨_, rfl⟩
  have hlen : nb.pages.length ≤ 4 := by rw [← HNB.out]; exact nb_len a0
  have HB0 : Hid (Below w.heap.size w w) := Lib.hid (Below.refl _ _)
  go_enter Try.func3, Try.ntmps3
  go_wp2_with fail
  refine (sNewBlock _ _).mono ?_
  rw [HNB.out]
  rintro e w1 ⟨v1, rfl, ⟨A1, n1, c1, q1, rfl, hn1, hq1, hS1⟩, hb1⟩
  have HV1 := Lib.hid (hb1)
  have HB1 := Lib.hid (bel_t HB0.out HV1.out)
  obtain rfl : n1 = nb.pages.length := (hS1.at hn1).1.symm
  obtain ⟨p1, hp1, hT1⟩ := hS1.norm w1.heap.size
  have S1 := Lib.hid hT1
  have hp1' : p1 ≤ w1.heap.size := by omega
  clear hS1 hT1
  go_wp2_with fail
  refine (iNewBlock _ _).mono ?_
  rw [HNB.out]
  rintro e w2 ⟨v2, rfl, ⟨A2, n2, c2, q2, rfl, hn2, hq2, hS2⟩, hb2⟩
  have HV2 := Lib.hid (bel_t (bel_1 _ _) hb2)
  have HB2 := Lib.hid (bel_t HB1.out HV2.out)
  replace S1 := Lib.hid (S1.out.keep HV2.out)
  have aa0 : w2.cell? ⟨w1.heap.size, 0, none⟩ = some (.int .i64 nb.wear) := stays_below hb2 _ _ _ (by simp [go_sem])
  have aa1 : w2.cell? ⟨w1.heap.size, 1, none⟩ = some (.slice A1 nb.pages.length c1) := stays_below hb2 _ _ _ (by simp [go_sem])
  have zaa : w1.heap.size < w2.heap.size := block_lt_of_cell aa0
  obtain rfl : n2 = nb.pages.length := (hS2.at hn2).1.symm
  have hq2' : w1.heap.size < q2 := by have := hq2; simp at this; omega
  obtain ⟨p2, hp2, hT2⟩ := hS2.norm (w2.heap.size + 1)
  have S2 := Lib.hid hT2
  have hw1 : w.heap.size ≤ w1.heap.size := HB1.out.size
  have hw2 : w1.heap.size < w2.heap.size := zaa
  have hp2' : w1.heap.size < p2 := by omega
  have hp2n : p2 ≠ w2.heap.size := by omega
  clear hS2 hT2 hp1
  go_wp2_with fail
  refine (eqBlock_refl _ _ _ _ _ _ nb.pages _ ((S2.out.keep (bel_1 _ _)).at hn2) ((S1.out.keep (bel_1 _ _)).at hn1)).mono ?_
  rintro e w3 ⟨rfl, hb3⟩
  have HV3 := Lib.hid (bel_t (bel_1 _ _) hb3)
  have HB3 := Lib.hid (bel_t HB2.out HV3.out)
  replace aa0 := stays_below HV3.out _ _ _ aa0
  replace aa1 := stays_below HV3.out _ _ _ aa1
  have zaa0_3 : w1.heap.size < w3.heap.size := block_lt_of_cell aa0
  replace S1 := Lib.hid (S1.out.keep HV3.out)
  replace S2 := Lib.hid (S2.out.keep HV3.out)
  have bb0 : w3.cell? ⟨w2.heap.size, 0, none⟩ = some (.int .i64 nb.wear) := stays_below hb3 _ _ _ (by simp [go_sem])
  have bb1 : w3.cell? ⟨w2.heap.size, 1, none⟩ = some (.slice A2 nb.pages.length c2) := stays_below hb3 _ _ _ (by simp [go_sem])
  have zbb : w2.heap.size < w3.heap.size := block_lt_of_cell bb0
  have hp2m : p2 < w3.heap.size ∨ nb.pages.length = 0 := by omega
  go_wp2_with fail
  refine (markBlock_any _ A2 nb.pages.length c2 p2 nb.pages 1 _ S2.out (by omega) (by omega) (by omega) (by omega)).mono ?_
  rintro e w4 ⟨rfl, hS4, wm4, hm4, hC4⟩
  have HB4 := Lib.hid (hC4.2.2.2 _ _ (bel_t HB3.out hm4) (by omega))
  replace aa0 := (hC4.2.1 _ _ (by omega)).trans (stays_below hm4 _ _ _ aa0)
  replace aa1 := (hC4.2.1 _ _ (by omega)).trans (stays_below hm4 _ _ _ aa1)
  replace bb0 := (hC4.2.1 _ _ (by omega)).trans (stays_below hm4 _ _ _ bb0)
  replace bb1 := (hC4.2.1 _ _ (by omega)).trans (stays_below hm4 _ _ _ bb1)
  replace S1 := Lib.hid ((S1.out.keep hm4).chg (by omega) hC4)
  replace S2 := Lib.hid hS4
  clear hS4 hm4
  have hr1 : ¬ (1 + 5 * (nb.pages.length : Int) < 0) := by omega
  go_wp2_with fail
  refine (heldBlock_any _ _ _ _ _ _ (S2.out.at hn2) (by omega) (by omega) (by omega)).mono ?_
  rintro e w5 ⟨rfl, hb5⟩
  have HV5 := Lib.hid (hb5)
  have HB5 := Lib.hid (bel_t HB4.out HV5.out)
  replace aa0 := stays_below HV5.out _ _ _ aa0
  replace aa1 := stays_below HV5.out _ _ _ aa1
  replace bb0 := stays_below HV5.out _ _ _ bb0
  replace bb1 := stays_below HV5.out _ _ _ bb1
  have zaa0_5 : w1.heap.size < w5.heap.size := block_lt_of_cell aa0
  have zbb0_5 : w2.heap.size < w5.heap.size := block_lt_of_cell bb0
  replace S1 := Lib.hid (S1.out.keep HV5.out)
  replace S2 := Lib.hid (S2.out.keep HV5.out)
  go_wp2_with fail
  refine (iNewBlock _ _).mono ?_
  rw [HNB.out]
  rintro e w6 ⟨v6, rfl, ⟨A6, n6, c6, q6, rfl, hn6, hq6, hS6⟩, hb6⟩
  have HV6 := Lib.hid (hb6)
  have HB6 := Lib.hid (bel_t HB5.out HV6.out)
  replace aa0 := stays_below HV6.out _ _ _ aa0
  replace aa1 := stays_below HV6.out _ _ _ aa1
  replace bb0 := stays_below HV6.out _ _ _ bb0
  replace bb1 := stays_below HV6.out _ _ _ bb1
  have zaa0_6 : w1.heap.size < w6.heap.size := block_lt_of_cell aa0
  have zbb0_6 : w2.heap.size < w6.heap.size := block_lt_of_cell bb0
  replace S1 := Lib.hid (S1.out.keep HV6.out)
  replace S2 := Lib.hid (S2.out.keep HV6.out)
  obtain rfl : n6 = nb.pages.length := (hS6.at hn6).1.symm
  have S6 := Lib.hid hS6
  clear hS6
  go_wp2_with fail
  refine (eqBlock_refl _ _ _ _ _ _ nb.pages _ ((S6.out.keep (bel_1 _ _)).at hn6) ((S1.out.keep (bel_1 _ _)).at hn1)).mono ?_
  rintro e w7 ⟨rfl, hb7⟩
  have HV7 := Lib.hid (bel_t (bel_1 _ _) hb7)
  have HB7 := Lib.hid (bel_t HB6.out HV7.out)
  replace aa0 := stays_below HV7.out _ _ _ aa0
  replace aa1 := stays_below HV7.out _ _ _ aa1
  replace bb0 := stays_below HV7.out _ _ _ bb0
  replace bb1 := stays_below HV7.out _ _ _ bb1
  have zaa0_7 : w1.heap.size < w7.heap.size := block_lt_of_cell aa0
  have zbb0_7 : w2.heap.size < w7.heap.size := block_lt_of_cell bb0
  replace S1 := Lib.hid (S1.out.keep HV7.out)
  replace S2 := Lib.hid (S2.out.keep HV7.out)
  replace S6 := Lib.hid (S6.out.keep HV7.out)
  go_wp2_with fail
  refine (heldBlock_any _ _ _ _ _ _ (S2.out.at hn2) (by omega) (by omega) (by omega)).mono ?_
  rintro e w8 ⟨rfl, hb8⟩
  have HV8 := Lib.hid (hb8)
  have HB8 := Lib.hid (bel_t HB7.out HV8.out)
  replace aa0 := stays_below HV8.out _ _ _ aa0
  replace aa1 := stays_below HV8.out _ _ _ aa1
  replace bb0 := stays_below HV8.out _ _ _ bb0
  replace bb1 := stays_below HV8.out _ _ _ bb1
  have zaa0_8 : w1.heap.size < w8.heap.size := block_lt_of_cell aa0
  have zbb0_8 : w2.heap.size < w8.heap.size := block_lt_of_cell bb0
  replace S1 := Lib.hid (S1.out.keep HV8.out)
  replace S2 := Lib.hid (S2.out.keep HV8.out)
  replace S6 := Lib.hid (S6.out.keep HV8.out)
  go_wp2
  go_ret
  exact ⟨rfl, HB8.out⟩

namespace fnExactNewBlock
open Go.ChangeShapes Go.WideShapes Go.ChangeAt Go.RowKit
theorem own : ownKnob Try.prog.godebug = none := by kernel_rfl
theorem laidOut : laidOutB Try.prog = true := by kernel_rfl
theorem spec_ok : LawSpec Rows.fnExactNewBlockSpec 1 := ⟨rfl, fun H ds h => by
  match ds, h with
  | [_], _ => exact ⟨rfl, rfl, rfl⟩⟩
theorem rd3 : Try.prog.readableRec 3 = true ∧ 3 < Try.prog.types.size := ⟨by kernel_rfl, of_decide_eq_true (by kernel_rfl)⟩
set_option maxRecDepth 100000 in
theorem lifted (os : Os) (started : os.Started) (H : Type) (enc : TypeId × Value → H) :
    ReturnsInHanded {} Try.checked os 3 .any (Rows.fnExactNewBlockSpec.pre6 enc Try.prog Try.f3 Rows.fnExactNewBlockRow.domain false) (Rows.fnExactNewBlockSpec.post enc Try.prog Try.f3 false true false false) := by
  refine law_lifted (C := Try.checked) (tb := 4) own started (by kernel_rfl) Try.func3 laidOut ?_ spec_ok (by rfl) Try.underlying4
    (ChangeSpec.witness6 (enc := enc) (C := Try.checked) false ⟨#[], #[.int .i64 0], []⟩ 8 (by kernel_rfl) (by kernel_rfl) (by kernel_rfl) (by kernel_rfl)) ?_
  · rw [Try.params3]
    intro t ht
    simp only [List.mem_cons, List.not_mem_nil, or_false] at ht
    subst ht
    exact rd3
  · intro W base args ds ps hval0 hA0
    have hval : ∀ (j : Nat) t v, Try.f3.params[j]? = some t → args[j]? = some v → Value.okWide Try.prog W .any base t v := hval0
    have hA : DataW.TrodAll enc Try.prog W 0 (fun _ => true) true Try.f3.params.toList args.toList ds ps := hA0
    clear hval0 hA0
    rw [Try.params3] at hA hval
    obtain ⟨v0, vs0, d0, ds0, p0, q0, hargs, rfl, rfl, h0, r0⟩ := trodAll_cons hA
    obtain ⟨rfl, rfl, rfl⟩ := trodAll_nil r0
    obtain rfl : args = #[v0] := by cases args; simp_all
    obtain ⟨a0, rfl, rfl, rfl, w0⟩ := open_int Try.underlying3 (hval 0 3 v0 rfl rfl) h0
    exact walk_FnExactNewBlock a0 w0 W

theorem over : Rows.fnExactNewBlockRow.holds Try.pinned (OpenSpec.ofChange Rows.fnExactNewBlockSpec) :=
  OpenClaim.holds_of_wide 3 Try.f3 rfl rfl rfl rfl rfl rfl rfl ⟨rfl, rfl, rfl, rfl, rfl⟩ rfl rfl rfl rfl rfl (by kernel_rfl) Try.func3 (by kernel_rfl)
    (of_decide_eq_true (by kernel_rfl)) (by unfold Func.isWrapper; first | (rw [if_pos (by decide +kernel)]; kernel_rfl) | (rw [if_neg (by decide +kernel)]; exact ⟨rfl, rfl⟩))
    (fun os started H enc _ => lifted os started H enc)

theorem proved : Rows.FnExactNewBlockSaid :=
  over
#print axioms proved
end fnExactNewBlock
end Go.Proofs.Ytcmmamgbckglnaa
