/- The law FnExactTableGet: for every table, file and place the program's TableGet returns what the reference's returns, so the law returns true. No conditions. -/
import Derived.Test.YtcmmamgbckglnaaRows
import Derived.Test.YtcmmamgbckglnaaTables
namespace Go.Proofs.Ytcmmamgbckglnaa
open Go.RowKit
set_option linter.unusedVariables false

set_option maxHeartbeats 2000000 in
theorem walk_FnExactTableGet (x : Ta) (a1 a2 : Int) (w : World) (hx : TabAt w x.A x.n x.ts) (_w1 : (Lit.int .i64 a1).wf = true) (_w2 : (Lit.int .i64 a2).wf = true) :
    Calls Try.prog 7 #[x.val, .int .i64 a1, .int .i64 a2] w fun e w' => e = .returned (.bool true) ∧ Below w.heap.size w w' := by
  obtain ⟨A, n, c, ts⟩ := x
  simp only [Ta.val] at *
  have HP := Lib.hid hx
  have hm := hx.2.1
  clear hx
  have HB0 := Lib.hid (bel_1 w (.cells #[.slice A n c] 43))
  have B0 : Hid ((w.alloc (.cells #[.slice A n c] 43)).cell? ⟨w.heap.size, 0, none⟩ = some (.slice A n c)) := Lib.hid (by simp [go_sem])
  go_enter Try.func7, Try.ntmps7
  go_wp2_with fail
  refine (szTable_any _ _ _ ts _ _ (HP.out.keep (bel_1 _ _)) (by omega) (by omega)).mono ?_
  generalize w.alloc (.cells #[.slice A n c] 43) = W at *
  rintro e w1 ⟨r, rfl, hr, hb1⟩
  have HB1 := Lib.hid (bel_t HB0.out hb1)
  have b0 := stays_below hb1 _ _ _ B0.out
  clear hb1 HB0 B0
  by_cases hr0 : r < 0
  · go_wp2
    go_ret
    exact ⟨rfl, HB1.out⟩
  · obtain ⟨hn, hs⟩ := hr.resolve_left hr0
    have HS := Lib.hid hs
    clear hr hs
    go_wp2_with fail
    refine (toTable_any _ _ _ ts _ (HP.out.keep HB1.out) hn HS.out).mono ?_
    rintro e w2 ⟨A2, c2, rfl, hT2, hb2⟩
    have HB2 := Lib.hid (bel_t HB1.out hb2)
    have HQ2 := Lib.hid hT2
    replace b0 := stays_below hb2 _ _ _ b0
    clear hb2 hT2
    go_wp2_with fail
    refine (sTableGet _ _ _ ts a1 a2 _ HQ2.out).mono ?_
    rintro e w3 ⟨rfl, hb3⟩
    have HB3 := Lib.hid (bel_t HB2.out hb3)
    replace b0 := stays_below hb3 _ _ _ b0
    clear hb3 HQ2
    go_wp2_with fail
    refine (toTable_any _ _ _ ts _ (HP.out.keep HB3.out) hn HS.out).mono ?_
    rintro e w4 ⟨A4, c4, rfl, hT4, hb4⟩
    have HB4 := Lib.hid (bel_t HB3.out hb4)
    have HQ4 := Lib.hid hT4
    replace b0 := stays_below hb4 _ _ _ b0
    clear hb4 hT4
    go_wp2_with fail
    refine (iTableGet _ _ _ ts a1 a2 _ (HQ4.out.keep (bel_1 _ _))).mono ?_
    rintro e w5 ⟨rfl, hb5⟩
    have HV5 := Lib.hid (bel_t (bel_1 _ _) hb5)
    have HB5 := Lib.hid (bel_t HB4.out HV5.out)
    have HQ5 := Lib.hid (HQ4.out.keep HV5.out)
    have x0 : w5.cell? ⟨w4.heap.size, 0, none⟩ = some (.slice A4 n c4) := stays_below hb5 _ _ _ (by simp [go_sem])
    replace b0 := stays_below HV5.out _ _ _ b0
    clear hb5 HQ4 HV5
    have hs0 : w.heap.size < w5.heap.size := block_lt_of_cell b0
    have hs4 : w4.heap.size < w5.heap.size := block_lt_of_cell x0
    go_wp2_with fail
    refine reg_begin (by kernel_rfl) (fun hHeld => ?_)
    refine reg_take 0 30 (v := ?_) rfl rfl (by kernel_rfl) (by kernel_rfl) (by kernel_rfl) (fun _ _ _ h => h) (Or.inl ⟨by rfl, ?_⟩) hHeld ?_
    rotate_left 1
    · intro wS hSw; have hqS := bcellB hSw; go_simp <;> with_reducible rfl
    simp only [put_lit, List.set_cons_zero, List.set_cons_succ]
    refine reg_take 1 31 (v := ?_) rfl rfl (by kernel_rfl) (by kernel_rfl) (by kernel_rfl) (fun _ _ _ h => h) (Or.inl ⟨by rfl, ?_⟩) hHeld ?_
    rotate_left 1
    · intro wS hSw; have hqS := bcellB hSw; go_simp <;> with_reducible rfl
    simp only [put_lit, List.set_cons_zero, List.set_cons_succ]
    refine wpAnyH_ready (rs := [2]) (by kernel_rfl) (by simp) ?_
    refine AllReadyH.cons rfl (fun K hK => ?_) AllReadyH.nil
    go_simp
    refine (toTable_any _ _ _ ts _ (HP.out.keep (bel_t HB5.out hHeld)) hn HS.out).mono ?_
    rintro e w81 ⟨A6, c6, rfl, hT6, hb81⟩
    go_wp2_with fail
    refine hK.out _ _ ?_ (fun hHeld => ?_)
    · exact reg_call hHeld hb81 (Nat.le_refl _)
    clear hK K
    (try simp only [put_lit, List.set_cons_zero, List.set_cons_succ])
    refine wpAnyH_ready (rs := [3]) (by kernel_rfl) (by simp) ?_
    refine AllReadyH.cons rfl (fun K hK => ?_) AllReadyH.nil
    go_simp
    refine (eqTable_refl _ _ _ _ _ ts _ (HQ5.out.keep hHeld) hT6).mono ?_
    rintro e w82 ⟨rfl, hb82⟩
    go_wp2_with fail
    refine hK.out _ _ ?_ (fun hHeld => ?_)
    · exact reg_call hHeld hb82 (Nat.le_refl _)
    clear hK K
    (try simp only [put_lit, List.set_cons_zero, List.set_cons_succ])
    refine reg_take 4 34 (v := ?_) rfl rfl (by kernel_rfl) (by kernel_rfl) (by kernel_rfl) (fun _ _ _ h => h) (Or.inl ⟨by rfl, ?_⟩) hHeld ?_
    rotate_left 1
    · intro wS hSw; go_simp <;> with_reducible rfl
    simp only [put_lit, List.set_cons_zero, List.set_cons_succ]
    refine wpAnyH_done (by kernel_rfl) ?_ _
    go_wp2
    go_ret
    exact ⟨rfl, bel_t HB5.out hHeld⟩

namespace fnExactTableGet
open Go.ChangeShapes Go.WideShapes Go.ChangeAt Go.RowKit
theorem own : ownKnob Try.prog.godebug = none := by kernel_rfl
theorem laidOut : laidOutB Try.prog = true := by kernel_rfl
theorem spec_ok : LawSpec Rows.fnExactTableGetSpec 3 := ⟨rfl, fun H ds h => by
  match ds, h with
  | [_, _, _], _ => exact ⟨rfl, rfl, rfl⟩⟩
theorem rd3 : Try.prog.readableRec 3 = true ∧ 3 < Try.prog.types.size := ⟨by kernel_rfl, of_decide_eq_true (by kernel_rfl)⟩
theorem rd43 : Try.prog.readableRec 43 = true ∧ 43 < Try.prog.types.size := ⟨by kernel_rfl, of_decide_eq_true (by kernel_rfl)⟩
set_option maxRecDepth 100000 in
theorem lifted (os : Os) (started : os.Started) (H : Type) (enc : TypeId × Value → H) :
    ReturnsInHanded {} Try.checked os 7 .any (Rows.fnExactTableGetSpec.pre6 enc Try.prog Try.f7 Rows.fnExactTableGetRow.domain false) (Rows.fnExactTableGetSpec.post enc Try.prog Try.f7 false true false false) := by
  refine law_lifted (C := Try.checked) (tb := 4) own started (by kernel_rfl) Try.func7 laidOut ?_ spec_ok (by rfl) Try.underlying4
    (ChangeSpec.witness6 (enc := enc) (C := Try.checked) false ⟨#[], #[.agg #[.slice none 0 0], .int .i64 0, .int .i64 0], []⟩ 8 (by kernel_rfl) (by kernel_rfl) (by kernel_rfl) (by kernel_rfl)) ?_
  · rw [Try.params7]
    intro t ht
    simp only [List.mem_cons, List.not_mem_nil, or_false] at ht
    rcases ht with rfl | rfl | rfl
    · exact rd43
    · exact rd3
    · exact rd3
  · intro W base args ds ps hval0 hA0
    have hval : ∀ (j : Nat) t v, Try.f7.params[j]? = some t → args[j]? = some v → Value.okWide Try.prog W .any base t v := hval0
    have hA : DataW.TrodAll enc Try.prog W 0 (fun _ => true) true Try.f7.params.toList args.toList ds ps := hA0
    clear hval0 hA0
    rw [Try.params7] at hA hval
    obtain ⟨v0, vs0, d0, ds0, p0, q0, hargs, rfl, rfl, h0, r0⟩ := trodAll_cons hA
    obtain ⟨v1, vs1, d1, ds1, p1, q1, rfl, rfl, rfl, h1, r1⟩ := trodAll_cons r0
    obtain ⟨v2, vs2, d2, ds2, p2, q2, rfl, rfl, rfl, h2, r2⟩ := trodAll_cons r1
    obtain ⟨rfl, rfl, rfl⟩ := trodAll_nil r2
    obtain rfl : args = #[v0, v1, v2] := by cases args; simp_all
    obtain ⟨x0, rfl, hx0⟩ := open_T tyLT (hval 0 43 v0 rfl rfl) h0
    obtain ⟨a1, rfl, rfl, rfl, w1⟩ := open_int Try.underlying3 (hval 1 3 v1 rfl rfl) h1
    obtain ⟨a2, rfl, rfl, rfl, w2⟩ := open_int Try.underlying3 (hval 2 3 v2 rfl rfl) h2
    exact walk_FnExactTableGet x0 a1 a2 W hx0 w1 w2

theorem over : Rows.fnExactTableGetRow.holds Try.pinned (OpenSpec.ofChange Rows.fnExactTableGetSpec) :=
  OpenClaim.holds_of_wide 7 Try.f7 rfl rfl rfl rfl rfl rfl rfl ⟨rfl, rfl, rfl, rfl, rfl⟩ rfl rfl rfl rfl rfl (by kernel_rfl) Try.func7 (by kernel_rfl)
    (of_decide_eq_true (by kernel_rfl)) (by unfold Func.isWrapper; first | (rw [if_pos (by decide +kernel)]; kernel_rfl) | (rw [if_neg (by decide +kernel)]; exact ⟨rfl, rfl⟩))
    (fun os started H enc _ => lifted os started H enc)

theorem proved : Rows.FnExactTableGetSaid :=
  over
#print axioms proved
end fnExactTableGet
end Go.Proofs.Ytcmmamgbckglnaa
