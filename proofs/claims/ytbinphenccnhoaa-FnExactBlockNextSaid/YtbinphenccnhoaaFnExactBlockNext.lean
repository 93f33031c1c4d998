/- The law FnExactBlockNext: for every block the program's BlockNext returns what the reference's returns, so the law returns true. No conditions. -/
import Derived.Test.YtbinphenccnhoaaRows
import Derived.Test.YtbinphenccnhoaaTypes
import Derived.Test.YtbinphenccnhoaaCopies
import Derived.Test.YtbinphenccnhoaaBlocks2
namespace Go.Proofs.Ytbinphenccnhoaa
open Go.RowKit
set_option linter.unusedVariables false

set_option maxHeartbeats 2000000 in
theorem walk_FnExactBlockNext (x : Ba) (w : World) (hx : PgsAt w x.A x.n x.ps) :
    Calls Try.prog 4 #[x.val] w fun e w' => e = .returned (.bool true) ∧ Below w.heap.size w w' := by
  obtain ⟨z, A, n, c, ps⟩ := x
  simp only [Ba.val] at *
  have HP := Lib.hid hx
  have hm := hx.2.1
  clear hx
  have HB0 := Lib.hid (bel_1 w (.cells #[.int .i64 z, .slice A n c] 24))
  have B0 : Hid ((w.alloc (.cells #[.int .i64 z, .slice A n c] 24)).cell? ⟨w.heap.size, 0, none⟩ = some (.int .i64 z)) := Lib.hid (by simp [go_sem])
  have B1 : Hid ((w.alloc (.cells #[.int .i64 z, .slice A n c] 24)).cell? ⟨w.heap.size, 1, none⟩ = some (.slice A n c)) := Lib.hid (by simp [go_sem])
  have hsW : w.heap.size < (w.alloc (.cells #[.int .i64 z, .slice A n c] 24)).heap.size := by simp
  by_cases hn : 1048576 < n
  · go_enter Try.func4, Try.ntmps4
    go_wp2_with fail
    refine (szBlock_any _ _ _ _ _ _ (by omega) (by omega) hm).mono ?_
    rw [if_pos (by omega)]
    rintro e w1 ⟨rfl, hb1⟩
    go_wp2
    go_ret
    exact ⟨rfl, bel_t HB0.out hb1⟩
  · go_enter Try.func4, Try.ntmps4
    go_wp2_with fail
    refine (szBlock_any _ _ _ _ _ _ (by omega) (by omega) hm).mono ?_
    generalize w.alloc (.cells #[.int .i64 z, .slice A n c] 24) = W at *
    rw [if_neg (by omega)]
    rintro e w1 ⟨rfl, hb1⟩
    have hv1 : ¬ (1048576 - (n : Int) < 0) := by omega
    have HB1 := Lib.hid (bel_t HB0.out hb1)
    have b0 := stays_below hb1 _ _ _ B0.out
    have b1 := stays_below hb1 _ _ _ B1.out
    clear hb1 HB0 B0 B1 hsW
    go_wp2_with fail
    refine (toBlock_any _ _ _ _ ps _ (HP.out.keep HB1.out) (by omega)).mono ?_
    rintro e w2 ⟨g2, rfl, hg2, HR2, hb2⟩
    have HB2 := Lib.hid (bel_t HB1.out hb2)
    have HQ2 := Lib.hid HR2
    replace b0 := stays_below hb2 _ _ _ b0
    replace b1 := stays_below hb2 _ _ _ b1
    clear hb2 HR2
    go_wp2_with fail
    refine (sBlockNext _ _ _ _ ps _ (HQ2.out.at hm)).mono ?_
    rintro e w3 ⟨rfl, hb3⟩
    have HB3 := Lib.hid (bel_t HB2.out hb3)
    replace b0 := stays_below hb3 _ _ _ b0
    replace b1 := stays_below hb3 _ _ _ b1
    clear hb3 HQ2
    go_wp2_with fail
    refine (toBlock_any _ _ _ _ ps _ (HP.out.keep HB3.out) (by omega)).mono ?_
    rintro e w4 ⟨g4, rfl, hg4, HR4, hb4⟩
    have HB4 := Lib.hid (bel_t HB3.out hb4)
    have HQ4 := Lib.hid HR4
    replace b0 := stays_below hb4 _ _ _ b0
    replace b1 := stays_below hb4 _ _ _ b1
    clear hb4 HR4
    go_wp2_with fail
    refine (iBlockNext _ _ _ _ ps _ ((HQ4.out.keep (bel_1 _ _)).at hm)).mono ?_
    rintro e w5 ⟨rfl, hb5⟩
    have HV5 := Lib.hid (bel_t (bel_1 _ _) hb5)
    have HB5 := Lib.hid (bel_t HB4.out HV5.out)
    have HQ5 := Lib.hid (HQ4.out.keep HV5.out)
    have x0 : w5.cell? ⟨w4.heap.size, 0, none⟩ = some (.int .i64 z) := stays_below hb5 _ _ _ (by simp [go_sem])
    have x1 : w5.cell? ⟨w4.heap.size, 1, none⟩ = some (.slice (some ⟨g4, 0, none⟩) n n) := stays_below hb5 _ _ _ (by simp [go_sem])
    replace b0 := stays_below HV5.out _ _ _ b0
    replace b1 := stays_below HV5.out _ _ _ b1
    clear hb5 HQ4 HV5
    have hs0 : w.heap.size < w5.heap.size := block_lt_of_cell b0
    have hs4 : w4.heap.size < w5.heap.size := block_lt_of_cell x0
    go_wp2_with fail
    refine reg_begin (by kernel_rfl) (fun hHeld => ?_)
    refine reg_take 0 22 (v := ?_) rfl rfl (by kernel_rfl) (by kernel_rfl) (by kernel_rfl) (fun _ _ _ h => h) (Or.inl ⟨by rfl, ?_⟩) hHeld ?_
    rotate_left 1
    · intro wS hSw; have hqS := bcellB hSw; go_simp <;> with_reducible rfl
    simp only [put_lit, List.set_cons_zero, List.set_cons_succ]
    refine reg_take 1 23 (v := ?_) rfl rfl (by kernel_rfl) (by kernel_rfl) (by kernel_rfl) (fun _ _ _ h => h) (Or.inl ⟨by rfl, ?_⟩) hHeld ?_
    rotate_left 1
    · intro wS hSw; have hqS := bcellB hSw; go_simp <;> with_reducible rfl
    simp only [put_lit, List.set_cons_zero, List.set_cons_succ]
    refine wpAnyH_ready (rs := [2]) (by kernel_rfl) (by simp) ?_
    refine AllReadyH.cons rfl (fun K hK => ?_) AllReadyH.nil
    go_simp
    refine (toBlock_any _ _ _ _ ps _ (HP.out.keep (bel_t HB5.out hHeld)) (by omega)).mono ?_
    rintro e w1 ⟨g6, rfl, hg6, HR6, hb1⟩
    go_wp2_with fail
    refine hK.out _ _ ?_ (fun hHeld => ?_)
    · exact reg_call hHeld hb1 (Nat.le_refl _)
    clear hK K
    (try simp only [put_lit, List.set_cons_zero, List.set_cons_succ])
    refine wpAnyH_ready (rs := [3]) (by kernel_rfl) (by simp) ?_
    refine AllReadyH.cons rfl (fun K hK => ?_) AllReadyH.nil
    go_simp
    refine (eqBlock_refl _ _ _ _ _ _ ps _ ((HQ5.out.keep hHeld).at hm) (HR6.at hm)).mono ?_
    rintro e w2 ⟨rfl, hb2⟩
    go_wp2_with fail
    refine hK.out _ _ ?_ (fun hHeld => ?_)
    · exact reg_call hHeld hb2 (Nat.le_refl _)
    clear hK K
    (try simp only [put_lit, List.set_cons_zero, List.set_cons_succ])
    refine reg_take 4 26 (v := ?_) rfl rfl (by kernel_rfl) (by kernel_rfl) (by kernel_rfl) (fun _ _ _ h => h) (Or.inl ⟨by rfl, ?_⟩) hHeld ?_
    rotate_left 1
    · intro wS hSw; go_simp <;> with_reducible rfl
    simp only [put_lit, List.set_cons_zero, List.set_cons_succ]
    refine wpAnyH_done (by kernel_rfl) ?_ _
    go_wp2
    go_ret
    exact ⟨rfl, bel_t HB5.out hHeld⟩

namespace fnExactBlockNext
open Go.ChangeShapes Go.WideShapes Go.ChangeAt Go.RowKit
theorem own : ownKnob Try.prog.godebug = none := by kernel_rfl
theorem laidOut : laidOutB Try.prog = true := by kernel_rfl
theorem spec_ok : LawSpec Rows.fnExactBlockNextSpec 1 := ⟨rfl, fun H ds h => by
  match ds, h with
  | [_], _ => exact ⟨rfl, rfl, rfl⟩⟩
theorem rd24 : Try.prog.readableRec 24 = true ∧ 24 < Try.prog.types.size := ⟨by kernel_rfl, of_decide_eq_true (by kernel_rfl)⟩
set_option maxRecDepth 100000 in
theorem lifted (os : Os) (started : os.Started) (H : Type) (enc : TypeId × Value → H) :
    ReturnsInHanded {} Try.checked os 4 .any (Rows.fnExactBlockNextSpec.pre6 enc Try.prog Try.f4 Rows.fnExactBlockNextRow.domain false) (Rows.fnExactBlockNextSpec.post enc Try.prog Try.f4 false true false false) := by
  refine law_lifted (C := Try.checked) (tb := 4) own started (by kernel_rfl) Try.func4 laidOut ?_ spec_ok (by rfl) Try.underlying4
    (ChangeSpec.witness6 (enc := enc) (C := Try.checked) false ⟨#[], #[.agg #[.int .i64 0, .slice none 0 0]], []⟩ 8 (by kernel_rfl) (by kernel_rfl) (by kernel_rfl) (by kernel_rfl)) ?_
  · rw [Try.params4]
    intro t ht
    simp only [List.mem_cons, List.not_mem_nil, or_false] at ht
    subst ht
    exact rd24
  · intro W base args ds ps hval0 hA0
    have hval : ∀ (j : Nat) t v, Try.f4.params[j]? = some t → args[j]? = some v → Value.okWide Try.prog W .any base t v := hval0
    have hA : DataW.TrodAll enc Try.prog W 0 (fun _ => true) true Try.f4.params.toList args.toList ds ps := hA0
    clear hval0 hA0
    rw [Try.params4] at hA hval
    obtain ⟨v0, vs0, d0, ds0, p0, q0, hargs, rfl, rfl, h0, r0⟩ := trodAll_cons hA
    obtain ⟨rfl, rfl, rfl⟩ := trodAll_nil r0
    obtain rfl : args = #[v0] := by cases args; simp_all
    obtain ⟨x0, rfl, hx0⟩ := open_B tyLB (hval 0 24 v0 rfl rfl) h0
    exact walk_FnExactBlockNext x0 W hx0

theorem over : Rows.fnExactBlockNextRow.holds Try.pinned (OpenSpec.ofChange Rows.fnExactBlockNextSpec) :=
  OpenClaim.holds_of_wide 4 Try.f4 rfl rfl rfl rfl rfl rfl rfl ⟨rfl, rfl, rfl, rfl, rfl⟩ rfl rfl rfl rfl rfl (by kernel_rfl) Try.func4 (by kernel_rfl)
    (of_decide_eq_true (by kernel_rfl)) (by unfold Func.isWrapper; first | (rw [if_pos (by decide +kernel)]; kernel_rfl) | (rw [if_neg (by decide +kernel)]; exact ⟨rfl, rfl⟩))
    (fun os started H enc _ => lifted os started H enc)

theorem proved : Rows.FnExactBlockNextSaid :=
  over
#print axioms proved
end fnExactBlockNext
end Go.Proofs.Ytbinphenccnhoaa
