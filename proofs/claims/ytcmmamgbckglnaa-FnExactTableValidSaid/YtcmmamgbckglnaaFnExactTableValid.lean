/- The law FnExactTableValid: for every table the program's TableValid returns what the reference's returns, so the law returns true. No conditions. -/
import Derived.Test.YtcmmamgbckglnaaRows
import Derived.Test.YtcmmamgbckglnaaTables
namespace Go.Proofs.Ytcmmamgbckglnaa
open Go.RowKit
set_option linter.unusedVariables false

set_option maxHeartbeats 2000000 in
theorem walk_FnExactTableValid (x : Ta) (w : World) (hx : TabAt w x.A x.n x.ts) :
    Calls Try.prog 6 #[x.val] w fun e w' => e = .returned (.bool true) ∧ Below w.heap.size w w' := by
  obtain ⟨A, n, c, ts⟩ := x
  simp only [Ta.val] at *
  have HP := Lib.hid hx
  have hm := hx.2.1
  clear hx
  have HB0 := Lib.hid (bel_1 w (.cells #[.slice A n c] 43))
  have B0 : Hid ((w.alloc (.cells #[.slice A n c] 43)).cell? ⟨w.heap.size, 0, none⟩ = some (.slice A n c)) := Lib.hid (by simp [go_sem])
  go_enter Try.func6, Try.ntmps6
  go_wp2_with fail
  refine (szTable_any _ _ _ ts _ _ (HP.out.keep (bel_1 _ _)) (by omega) (by omega)).mono ?_
  generalize w.alloc (.cells #[.slice A n c] 43) = W at *
  rintro e w1 ⟨r, rfl, hr, hb1⟩
  have HB1 := Lib.hid (bel_t HB0.out hb1)
  have b0 := stays_below hb1 _ _ _ B0.out
  clear hb1 HB0 B0
  by_cases hr0 : r < 0
  · go_wp2
    go_ret
    exact ⟨rfl, HB1.out⟩
  · obtain ⟨hn, hs⟩ := hr.resolve_left hr0
    have HS := Lib.hid hs
    clear hr hs
    go_wp2_with fail
    refine (toTable_any _ _ _ ts _ (HP.out.keep HB1.out) hn HS.out).mono ?_
    rintro e w2 ⟨A2, c2, rfl, hT2, hb2⟩
    have HB2 := Lib.hid (bel_t HB1.out hb2)
    have HQ2 := Lib.hid hT2
    replace b0 := stays_below hb2 _ _ _ b0
    clear hb2 hT2
    go_wp2_with fail
    refine (sTableValid _ _ _ ts _ HQ2.out).mono ?_
    rintro e w3 ⟨rfl, hb3⟩
    have HB3 := Lib.hid (bel_t HB2.out hb3)
    replace b0 := stays_below hb3 _ _ _ b0
    clear hb3 HQ2
    go_wp2_with fail
    refine (toTable_any _ _ _ ts _ (HP.out.keep HB3.out) hn HS.out).mono ?_
    rintro e w4 ⟨A4, c4, rfl, hT4, hb4⟩
    have HB4 := Lib.hid (bel_t HB3.out hb4)
    have HQ4 := Lib.hid hT4
    replace b0 := stays_below hb4 _ _ _ b0
    clear hb4 hT4
    go_wp2_with fail
    refine (iTableValid _ _ _ ts _ (HQ4.out.keep (bel_1 _ _))).mono ?_
    rintro e w5 ⟨rfl, hb5⟩
    have HV5 := Lib.hid (bel_t (bel_1 _ _) hb5)
    have HB5 := Lib.hid (bel_t HB4.out HV5.out)
    have HQ5 := Lib.hid (HQ4.out.keep HV5.out)
    have x0 : w5.cell? ⟨w4.heap.size, 0, none⟩ = some (.slice A4 n c4) := stays_below hb5 _ _ _ (by simp [go_sem])
    replace b0 := stays_below HV5.out _ _ _ b0
    clear hb5 HQ4 HV5
    have hs0 : w.heap.size < w5.heap.size := block_lt_of_cell b0
    have hs4 : w4.heap.size < w5.heap.size := block_lt_of_cell x0
    go_wp2_with fail
    refine reg_begin (by kernel_rfl) (fun hHeld => ?_)
    refine reg_take 0 22 (v := ?_) rfl rfl (by kernel_rfl) (by kernel_rfl) (by kernel_rfl) (fun _ _ _ h => h) (Or.inl ⟨by rfl, ?_⟩) hHeld ?_
    rotate_left 1
    · intro wS hSw; have hqS := bcellB hSw; go_simp <;> with_reducible rfl
    simp only [put_lit, List.set_cons_zero, List.set_cons_succ]
    refine reg_take 1 23 (v := ?_) rfl rfl (by kernel_rfl) (by kernel_rfl) (by kernel_rfl) (fun _ _ _ h => h) (Or.inl ⟨by rfl, ?_⟩) hHeld ?_
    rotate_left 1
    · intro wS hSw; have hqS := bcellB hSw; go_simp <;> with_reducible rfl
    simp only [put_lit, List.set_cons_zero, List.set_cons_succ]
    refine wpAnyH_ready (rs := [2]) (by kernel_rfl) (by simp) ?_
    refine AllReadyH.cons rfl (fun K hK => ?_) AllReadyH.nil
    go_simp
    refine (toTable_any _ _ _ ts _ (HP.out.keep (bel_t HB5.out hHeld)) hn HS.out).mono ?_
    rintro e w81 ⟨A6, c6, rfl, hT6, hb81⟩
    go_wp2_with fail
    refine hK.out _ _ ?_ (fun hHeld => ?_)
    · exact reg_call hHeld hb81 (Nat.le_refl _)
    clear hK K
    (try simp only [put_lit, List.set_cons_zero, List.set_cons_succ])
    refine wpAnyH_ready (rs := [3]) (by kernel_rfl) (by simp) ?_
    refine AllReadyH.cons rfl (fun K hK => ?_) AllReadyH.nil
    go_simp
    refine (eqTable_refl _ _ _ _ _ ts _ (HQ5.out.keep hHeld) hT6).mono ?_
    rintro e w82 ⟨rfl, hb82⟩
    go_wp2_with fail
    refine hK.out _ _ ?_ (fun hHeld => ?_)
    · exact reg_call hHeld hb82 (Nat.le_refl _)
    clear hK K
    (try simp only [put_lit, List.set_cons_zero, List.set_cons_succ])
    refine reg_take 4 26 (v := ?_) rfl rfl (by kernel_rfl) (by kernel_rfl) (by kernel_rfl) (fun _ _ _ h => h) (Or.inl ⟨by rfl, ?_⟩) hHeld ?_
    rotate_left 1
    · intro wS hSw; go_simp <;> with_reducible rfl
    simp only [put_lit, List.set_cons_zero, List.set_cons_succ]
    refine wpAnyH_done (by kernel_rfl) ?_ _
    go_wp2
    go_ret
    exact ⟨rfl, bel_t HB5.out hHeld⟩

namespace fnExactTableValid
open Go.ChangeShapes Go.WideShapes Go.ChangeAt Go.RowKit
theorem own : ownKnob Try.prog.godebug = none := by kernel_rfl
theorem laidOut : laidOutB Try.prog = true := by kernel_rfl
theorem spec_ok : LawSpec Rows.fnExactTableValidSpec 1 := ⟨rfl, fun H ds h => by
  match ds, h with
  | [_], _ => exact ⟨rfl, rfl, rfl⟩⟩
theorem rd43 : Try.prog.readableRec 43 = true ∧ 43 < Try.prog.types.size := ⟨by kernel_rfl, of_decide_eq_true (by kernel_rfl)⟩
set_option maxRecDepth 100000 in
theorem lifted (os : Os) (started : os.Started) (H : Type) (enc : TypeId × Value → H) :
    ReturnsInHanded {} Try.checked os 6 .any (Rows.fnExactTableValidSpec.pre6 enc Try.prog Try.f6 Rows.fnExactTableValidRow.domain false) (Rows.fnExactTableValidSpec.post enc Try.prog Try.f6 false true false false) := by
  refine law_lifted (C := Try.checked) (tb := 4) own started (by kernel_rfl) Try.func6 laidOut ?_ spec_ok (by rfl) Try.underlying4
    (ChangeSpec.witness6 (enc := enc) (C := Try.checked) false ⟨#[], #[.agg #[.slice none 0 0]], []⟩ 8 (by kernel_rfl) (by kernel_rfl) (by kernel_rfl) (by kernel_rfl)) ?_
  · rw [Try.params6]
    intro t ht
    simp only [List.mem_cons, List.not_mem_nil, or_false] at ht
    subst ht
    exact rd43
  · intro W base args ds ps hval0 hA0
    have hval : ∀ (j : Nat) t v, Try.f6.params[j]? = some t → args[j]? = some v → Value.okWide Try.prog W .any base t v := hval0
    have hA : DataW.TrodAll enc Try.prog W 0 (fun _ => true) true Try.f6.params.toList args.toList ds ps := hA0
    clear hval0 hA0
    rw [Try.params6] at hA hval
    obtain ⟨v0, vs0, d0, ds0, p0, q0, hargs, rfl, rfl, h0, r0⟩ := trodAll_cons hA
    obtain ⟨rfl, rfl, rfl⟩ := trodAll_nil r0
    obtain rfl : args = #[v0] := by cases args; simp_all
    obtain ⟨x0, rfl, hx0⟩ := open_T tyLT (hval 0 43 v0 rfl rfl) h0
    exact walk_FnExactTableValid x0 W hx0

theorem over : Rows.fnExactTableValidRow.holds Try.pinned (OpenSpec.ofChange Rows.fnExactTableValidSpec) :=
  OpenClaim.holds_of_wide 6 Try.f6 rfl rfl rfl rfl rfl rfl rfl ⟨rfl, rfl, rfl, rfl, rfl⟩ rfl rfl rfl rfl rfl (by kernel_rfl) Try.func6 (by kernel_rfl)
    (of_decide_eq_true (by kernel_rfl)) (by unfold Func.isWrapper; first | (rw [if_pos (by decide +kernel)]; kernel_rfl) | (rw [if_neg (by decide +kernel)]; exact ⟨rfl, rfl⟩))
    (fun os started H enc _ => lifted os started H enc)

theorem proved : Rows.FnExactTableValidSaid :=
  over
#print axioms proved
end fnExactTableValid
end Go.Proofs.Ytcmmamgbckglnaa
