/- The law FnExactFreshBlock: for every device and heads the program's FreshBlock returns what the reference's returns, so the law returns true. No conditions. -/
import Derived.Test.YtbinphenccnhoaaRows
import Derived.Test.YtbinphenccnhoaaTypes
import Derived.Test.YtbinphenccnhoaaCopies2
import Derived.Test.YtbinphenccnhoaaFresh
namespace Go.Proofs.Ytbinphenccnhoaa
open Go.RowKit
set_option linter.unusedVariables false

set_option maxHeartbeats 2000000 in
theorem walk_FnExactFreshBlock (x : Da) (y : Hd) (w : World) (hx : DevAt w x.A x.n x.ds) (_hy : True) :
    Calls Try.prog 13 #[x.val, y.val] w fun e w' => e = .returned (.bool true) ∧ Below w.heap.size w w' := by
  obtain ⟨A, n, c, ds⟩ := x
  obtain ⟨g, h, k⟩ := y
  simp only [Da.val, Hd.val] at *
  have HP := Lib.hid hx
  have hm := hx.2.1
  clear hx
  go_enter Try.func13, Try.ntmps13
  go_wp2_with fail
  refine (szBlockS_any _ _ _ ds _ _ (HP.out.keep (bel_1 _ _)) (by omega) (by omega)).mono ?_
  rintro e w1 ⟨r, rfl, hr, hb1⟩
  have b0 : w1.cell? ⟨w.heap.size, 0, none⟩ = some (.int .i64 g) := stays_below hb1 _ _ _ (by simp [go_sem])
  have b1 : w1.cell? ⟨w.heap.size, 1, none⟩ = some (.int .i64 h) := stays_below hb1 _ _ _ (by simp [go_sem])
  have b2 : w1.cell? ⟨w.heap.size, 2, none⟩ = some (.int .i64 k) := stays_below hb1 _ _ _ (by simp [go_sem])
  have HB1 := Lib.hid (bel_t (bel_1 _ _) hb1)
  have hz1 : w.heap.size < w1.heap.size := block_lt_of_cell b0
  by_cases hr0 : r < 0
  · go_wp2
    go_ret
    exact ⟨rfl, HB1.out⟩
  · obtain ⟨hn, hs⟩ := hr.resolve_left hr0
    have HS := Lib.hid hs
    clear hr hs hb1
    go_wp2_with fail
    refine reg_begin (by kernel_rfl) (fun hHeld => ?_)
    refine reg_take 0 14 (v := ?_) rfl rfl (by kernel_rfl) (by kernel_rfl) (by kernel_rfl) (fun _ _ _ h => h) (Or.inl ⟨by rfl, ?_⟩) hHeld ?_
    rotate_left 1
    · intro wS hSw; go_simp <;> with_reducible rfl
    simp only [put_lit, List.set_cons_zero, List.set_cons_succ]
    refine reg_take 2 16 (v := ?_) rfl rfl (by kernel_rfl) (by kernel_rfl) (by kernel_rfl) (fun _ _ _ h => h) (Or.inl ⟨by rfl, ?_⟩) hHeld ?_
    rotate_left 1
    · intro wS hSw; have hqS := bcellB hSw; go_simp <;> with_reducible rfl
    simp only [put_lit, List.set_cons_zero, List.set_cons_succ]
    refine wpAnyH_ready (rs := [1]) (by kernel_rfl) (by simp) ?_
    refine AllReadyH.cons rfl (fun K hK => ?_) AllReadyH.nil
    go_simp
    refine (toBlockS_any _ _ _ ds _ (HP.out.keep (bel_t HB1.out hHeld)) hn HS.out).mono ?_
    rintro e w51 ⟨g2, G2, rfl, hR2, hb51⟩
    have HQ51 := Lib.hid hR2
    clear hR2
    go_wp2_with fail
    refine hK.out _ _ ?_ (fun hHeld => ?_)
    · exact reg_call hHeld hb51 (Nat.le_refl _)
    clear hK K
    (try simp only [put_lit, List.set_cons_zero, List.set_cons_succ])
    refine wpAnyH_ready (rs := [3]) (by kernel_rfl) (by simp) ?_
    refine AllReadyH.cons rfl (fun K hK => ?_) AllReadyH.nil
    go_simp
    refine (toHeads_any _ _ _ _).mono ?_
    rintro e w52 ⟨rfl, hb52⟩
    have HQ52 := Lib.hid (HQ51.out.keep hb52)
    go_wp2_with fail
    refine hK.out _ _ ?_ (fun hHeld => ?_)
    · exact reg_call hHeld hb52 (Nat.le_refl _)
    clear hK K
    (try simp only [put_lit, List.set_cons_zero, List.set_cons_succ])
    refine wpAnyH_ready (rs := [4]) (by kernel_rfl) (by simp) ?_
    refine AllReadyH.cons rfl (fun K hK => ?_) AllReadyH.nil
    go_simp
    refine (sFreshBlock _ _ _ ds _ _ _ _ (HQ52.out.at hm)).mono ?_
    rintro e w53 ⟨rfl, hb53⟩
    go_wp2_with fail
    refine hK.out _ _ ?_ (fun hHeld => ?_)
    · exact reg_call hHeld hb53 (Nat.le_refl _)
    clear hK K
    (try simp only [put_lit, List.set_cons_zero, List.set_cons_succ])
    refine reg_take 5 6 (v := ?_) rfl rfl (by kernel_rfl) (by kernel_rfl) (by kernel_rfl) (fun _ _ _ h => h) (Or.inl ⟨by rfl, ?_⟩) hHeld ?_
    rotate_left 1
    · intro wS hSw; go_simp <;> with_reducible rfl
    simp only [put_lit, List.set_cons_zero, List.set_cons_succ]
    refine wpAnyH_done (by kernel_rfl) ?_ _
    skip
    have HB3 := Lib.hid (bel_t HB1.out hHeld)
    replace b0 := stays_below hHeld _ _ _ b0
    replace b1 := stays_below hHeld _ _ _ b1
    replace b2 := stays_below hHeld _ _ _ b2
    clear hHeld hz1 HQ51 HQ52 hb51 hb52 hb53 HB1
    go_wp2_with fail
    refine (toBlockS_any _ _ _ ds _ (HP.out.keep HB3.out) hn HS.out).mono ?_
    rintro e w4 ⟨g4, G4, rfl, hR4, hb4⟩
    have HB4 := Lib.hid (bel_t HB3.out hb4)
    have HQ4 := Lib.hid hR4
    replace b0 := stays_below hb4 _ _ _ b0
    replace b1 := stays_below hb4 _ _ _ b1
    replace b2 := stays_below hb4 _ _ _ b2
    clear hb4 hR4
    go_wp2_with fail
    refine (toHeads_any _ _ _ _).mono ?_
    rintro e w8 ⟨rfl, hb8⟩
    have HB8 := Lib.hid (bel_t HB4.out hb8)
    have HQ8 := Lib.hid (HQ4.out.keep hb8)
    clear hb8 HQ4 b0 b1 b2
    go_wp2_with fail
    refine (iFreshBlock _ _ _ ds _ _ _ _ (HQ8.out.at hm)).mono ?_
    rintro e w5 ⟨rfl, hb5⟩
    have HB5 := Lib.hid (bel_t HB8.out hb5)
    have HQ5 := Lib.hid (HQ8.out.keep hb5)
    clear hb5 HQ8
    go_wp2_with fail
    refine (toBlockS_any _ _ _ ds _ (HP.out.keep HB5.out) hn HS.out).mono ?_
    rintro e w6 ⟨g6, G6, rfl, hR6, hb6⟩
    have HB6 := Lib.hid (bel_t HB5.out hb6)
    have HQ6 := Lib.hid hR6
    have HX6 := Lib.hid (HQ5.out.keep hb6)
    clear hb6 hR6 HQ5
    go_wp2_with fail
    refine (eqBlockS_refl _ _ _ _ _ ds _ (HX6.out.at hm) (HQ6.out.at hm)).mono ?_
    rintro e w7 ⟨rfl, hb7⟩
    go_wp2
    go_ret
    exact ⟨rfl, bel_t HB6.out hb7⟩

namespace fnExactFreshBlock
open Go.ChangeShapes Go.WideShapes Go.ChangeAt Go.RowKit
theorem own : ownKnob Try.prog.godebug = none := by kernel_rfl
theorem laidOut : laidOutB Try.prog = true := by kernel_rfl
theorem spec_ok : LawSpec Rows.fnExactFreshBlockSpec 2 := ⟨rfl, fun H ds h => by
  match ds, h with
  | [_, _], _ => exact ⟨rfl, rfl, rfl⟩⟩
theorem rd42 : Try.prog.readableRec 42 = true ∧ 42 < Try.prog.types.size := ⟨by kernel_rfl, of_decide_eq_true (by kernel_rfl)⟩
theorem rd61 : Try.prog.readableRec 61 = true ∧ 61 < Try.prog.types.size := ⟨by kernel_rfl, of_decide_eq_true (by kernel_rfl)⟩
set_option maxRecDepth 100000 in
theorem lifted (os : Os) (started : os.Started) (H : Type) (enc : TypeId × Value → H) :
    ReturnsInHanded {} Try.checked os 13 .any (Rows.fnExactFreshBlockSpec.pre6 enc Try.prog Try.f13 Rows.fnExactFreshBlockRow.domain false) (Rows.fnExactFreshBlockSpec.post enc Try.prog Try.f13 false true false false) := by
  refine law_lifted (C := Try.checked) (tb := 4) own started (by kernel_rfl) Try.func13 laidOut ?_ spec_ok (by rfl) Try.underlying4
    (ChangeSpec.witness6 (enc := enc) (C := Try.checked) false ⟨#[], #[.slice none 0 0, .agg #[.int .i64 0, .int .i64 0, .int .i64 0]], []⟩ 8 (by kernel_rfl) (by kernel_rfl) (by kernel_rfl) (by kernel_rfl)) ?_
  · rw [Try.params13]
    intro t ht
    simp only [List.mem_cons, List.not_mem_nil, or_false] at ht
    rcases ht with rfl | rfl
    · exact rd42
    · exact rd61
  · intro W base args ds ps hval0 hA0
    have hval : ∀ (j : Nat) t v, Try.f13.params[j]? = some t → args[j]? = some v → Value.okWide Try.prog W .any base t v := hval0
    have hA : DataW.TrodAll enc Try.prog W 0 (fun _ => true) true Try.f13.params.toList args.toList ds ps := hA0
    clear hval0 hA0
    rw [Try.params13] at hA hval
    obtain ⟨v0, vs0, d0, ds0, p0, q0, hargs, rfl, rfl, h0, r0⟩ := trodAll_cons hA
    obtain ⟨v1, vs1, d1, ds1, p1, q1, rfl, rfl, rfl, h1, r1⟩ := trodAll_cons r0
    obtain ⟨rfl, rfl, rfl⟩ := trodAll_nil r1
    obtain rfl : args = #[v0, v1] := by cases args; simp_all
    obtain ⟨x0, rfl, hx0⟩ := open_D Try.underlying42 tyLB (hval 0 42 v0 rfl rfl) h0
    obtain ⟨x1, rfl, hx1⟩ := open_H tyLH (hval 1 61 v1 rfl rfl) h1
    exact walk_FnExactFreshBlock x0 x1 W hx0 hx1

theorem over : Rows.fnExactFreshBlockRow.holds Try.pinned (OpenSpec.ofChange Rows.fnExactFreshBlockSpec) :=
  OpenClaim.holds_of_wide 13 Try.f13 rfl rfl rfl rfl rfl rfl rfl ⟨rfl, rfl, rfl, rfl, rfl⟩ rfl rfl rfl rfl rfl (by kernel_rfl) Try.func13 (by kernel_rfl)
    (of_decide_eq_true (by kernel_rfl)) (by unfold Func.isWrapper; first | (rw [if_pos (by decide +kernel)]; kernel_rfl) | (rw [if_neg (by decide +kernel)]; exact ⟨rfl, rfl⟩))
    (fun os started H enc _ => lifted os started H enc)

theorem proved : Rows.FnExactFreshBlockSaid :=
  over
#print axioms proved
end fnExactFreshBlock
end Go.Proofs.Ytbinphenccnhoaa
