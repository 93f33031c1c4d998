/- The law FnExactReadPage: for every device and number the program's ReadPage returns what the reference's returns, so the law returns true. No conditions. -/
import Derived.Test.YtbinphenccnhoaaRows
import Derived.Test.YtbinphenccnhoaaTypes
import Derived.Test.YtbinphenccnhoaaCopies2
import Derived.Test.YtbinphenccnhoaaDevices2
namespace Go.Proofs.Ytbinphenccnhoaa
open Go.RowKit
set_option linter.unusedVariables false

set_option maxHeartbeats 2000000 in
theorem walk_FnExactReadPage (x : Da) (a1 : Int) (w : World) (hx : DevAt w x.A x.n x.ds) (_w1 : (Lit.int .i64 a1).wf = true) :
    Calls Try.prog 7 #[x.val, .int .i64 a1] w fun e w' => e = .returned (.bool true) ∧ Below w.heap.size w w' := by
  obtain ⟨A, n, c, ds⟩ := x
  simp only [Da.val] at *
  have HP := Lib.hid hx
  have hm := hx.2.1
  clear hx
  go_enter Try.func7, Try.ntmps7
  go_wp2_with fail
  refine (szBlockS_any _ _ _ ds _ _ HP.out (by omega) (by omega)).mono ?_
  rintro e w1 ⟨r, rfl, hr, hb1⟩
  by_cases hr0 : r < 0
  · go_wp2
    go_ret
    exact ⟨rfl, hb1⟩
  · obtain ⟨hn, hs⟩ := hr.resolve_left hr0
    have HS := Lib.hid hs
    have HB1 := Lib.hid hb1
    clear hr hs hb1
    go_wp2_with fail
    refine (toBlockS_any _ _ _ ds _ (HP.out.keep HB1.out) hn HS.out).mono ?_
    rintro e w2 ⟨g2, G2, rfl, hR2, hb2⟩
    have HB2 := Lib.hid (bel_t HB1.out hb2)
    have HQ2 := Lib.hid hR2
    clear hb2 hR2
    go_wp2_with fail
    obtain ⟨⟨⟨f, fi, pl, va, st⟩, ok⟩, HN⟩ : ∃ r : Pg × Bool, Hid (readPageF ds a1 = r) := ⟨_, rfl⟩
    have HE := Lib.hid (pgEq_refl ⟨f, fi, pl, va, st⟩)
    refine (sReadPage _ _ _ ds a1 _ (HQ2.out.at hm)).mono ?_
    rw [HN.out]
    simp only [Pg.val]
    rintro e w3 ⟨rfl, hb3⟩
    have HB3 := Lib.hid (bel_t HB2.out hb3)
    clear hb3 HQ2
    go_wp2_with fail
    refine (toBlockS_any _ _ _ ds _ (HP.out.keep (bel_t HB3.out (bel_1 _ _))) hn HS.out).mono ?_
    rintro e w4 ⟨g4, G4, rfl, hR4, hb4⟩
    have HB4 := Lib.hid (bel_t (bel_t HB3.out (bel_1 _ _)) hb4)
    have HQ4 := Lib.hid hR4
    have p0 : w4.cell? ⟨w3.heap.size, 0, none⟩ = some (.bool f) := stays_below hb4 _ _ _ (by simp [go_sem])
    have p1 : w4.cell? ⟨w3.heap.size, 1, none⟩ = some (.int .i64 fi) := stays_below hb4 _ _ _ (by simp [go_sem])
    have p2 : w4.cell? ⟨w3.heap.size, 2, none⟩ = some (.int .i64 pl) := stays_below hb4 _ _ _ (by simp [go_sem])
    have p3 : w4.cell? ⟨w3.heap.size, 3, none⟩ = some (.int .i64 va) := stays_below hb4 _ _ _ (by simp [go_sem])
    have p4 : w4.cell? ⟨w3.heap.size, 4, none⟩ = some (.int .i64 st) := stays_below hb4 _ _ _ (by simp [go_sem])
    clear hb4 hR4
    go_wp2_with fail
    refine (iReadPage _ _ _ ds a1 _ (HQ4.out.at hm)).mono ?_
    rw [HN.out]
    simp only [Pg.val]
    rintro e w8 ⟨rfl, hb8⟩
    have HB8 := Lib.hid (bel_t HB4.out hb8)
    have HQ8 := Lib.hid (HQ4.out.keep hb8)
    replace p0 := stays_below hb8 _ _ _ p0
    replace p1 := stays_below hb8 _ _ _ p1
    replace p2 := stays_below hb8 _ _ _ p2
    replace p3 := stays_below hb8 _ _ _ p3
    replace p4 := stays_below hb8 _ _ _ p4
    have hs3 : w3.heap.size < w8.heap.size := block_lt_of_cell p0
    clear hb8 HQ4 HB4
    go_wp2_with fail
    refine (eqPage_any _ _ _ _ _ _ _ _ _ _ _).mono ?_
    rw [HE.out]
    rintro e w5 ⟨rfl, hb5⟩
    have HV5 := Lib.hid (bel_t (bel_1 _ _) hb5)
    have HB5 := Lib.hid (bel_t HB8.out HV5.out)
    have HQ5 := Lib.hid (HQ8.out.keep HV5.out)
    clear hb5 HQ8 HB8 HV5
    go_wp2_with fail
    refine (toBlockS_any _ _ _ ds _ (HP.out.keep HB5.out) hn HS.out).mono ?_
    rintro e w6 ⟨g6, G6, rfl, hR6, hb6⟩
    have HB6 := Lib.hid (bel_t HB5.out hb6)
    have HQ6 := Lib.hid hR6
    have HX6 := Lib.hid (HQ5.out.keep hb6)
    clear hb6 hR6 HQ5
    go_wp2_with fail
    refine (eqBlockS_refl _ _ _ _ _ ds _ (HX6.out.at hm) (HQ6.out.at hm)).mono ?_
    rintro e w7 ⟨rfl, hb7⟩
    go_wp2
    go_ret
    exact ⟨rfl, bel_t HB6.out hb7⟩

namespace fnExactReadPage
open Go.ChangeShapes Go.WideShapes Go.ChangeAt Go.RowKit
theorem own : ownKnob Try.prog.godebug = none := by kernel_rfl
theorem laidOut : laidOutB Try.prog = true := by kernel_rfl
theorem spec_ok : LawSpec Rows.fnExactReadPageSpec 2 := ⟨rfl, fun H ds h => by
  match ds, h with
  | [_, _], _ => exact ⟨rfl, rfl, rfl⟩⟩
theorem rd3 : Try.prog.readableRec 3 = true ∧ 3 < Try.prog.types.size := ⟨by kernel_rfl, of_decide_eq_true (by kernel_rfl)⟩
theorem rd42 : Try.prog.readableRec 42 = true ∧ 42 < Try.prog.types.size := ⟨by kernel_rfl, of_decide_eq_true (by kernel_rfl)⟩
set_option maxRecDepth 100000 in
theorem lifted (os : Os) (started : os.Started) (H : Type) (enc : TypeId × Value → H) :
    ReturnsInHanded {} Try.checked os 7 .any (Rows.fnExactReadPageSpec.pre6 enc Try.prog Try.f7 Rows.fnExactReadPageRow.domain false) (Rows.fnExactReadPageSpec.post enc Try.prog Try.f7 false true false false) := by
  refine law_lifted (C := Try.checked) (tb := 4) own started (by kernel_rfl) Try.func7 laidOut ?_ spec_ok (by rfl) Try.underlying4
    (ChangeSpec.witness6 (enc := enc) (C := Try.checked) false ⟨#[], #[.slice none 0 0, .int .i64 0], []⟩ 8 (by kernel_rfl) (by kernel_rfl) (by kernel_rfl) (by kernel_rfl)) ?_
  · rw [Try.params7]
    intro t ht
    simp only [List.mem_cons, List.not_mem_nil, or_false] at ht
    rcases ht with rfl | rfl
    · exact rd42
    · exact rd3
  · intro W base args ds ps hval0 hA0
    have hval : ∀ (j : Nat) t v, Try.f7.params[j]? = some t → args[j]? = some v → Value.okWide Try.prog W .any base t v := hval0
    have hA : DataW.TrodAll enc Try.prog W 0 (fun _ => true) true Try.f7.params.toList args.toList ds ps := hA0
    clear hval0 hA0
    rw [Try.params7] at hA hval
    obtain ⟨v0, vs0, d0, ds0, p0, q0, hargs, rfl, rfl, h0, r0⟩ := trodAll_cons hA
    obtain ⟨v1, vs1, d1, ds1, p1, q1, rfl, rfl, rfl, h1, r1⟩ := trodAll_cons r0
    obtain ⟨rfl, rfl, rfl⟩ := trodAll_nil r1
    obtain rfl : args = #[v0, v1] := by cases args; simp_all
    obtain ⟨x0, rfl, hx0⟩ := open_D Try.underlying42 tyLB (hval 0 42 v0 rfl rfl) h0
    obtain ⟨a1, rfl, rfl, rfl, w1⟩ := open_int Try.underlying3 (hval 1 3 v1 rfl rfl) h1
    exact walk_FnExactReadPage x0 a1 W hx0 w1

theorem over : Rows.fnExactReadPageRow.holds Try.pinned (OpenSpec.ofChange Rows.fnExactReadPageSpec) :=
  OpenClaim.holds_of_wide 7 Try.f7 rfl rfl rfl rfl rfl rfl rfl ⟨rfl, rfl, rfl, rfl, rfl⟩ rfl rfl rfl rfl rfl (by kernel_rfl) Try.func7 (by kernel_rfl)
    (of_decide_eq_true (by kernel_rfl)) (by unfold Func.isWrapper; first | (rw [if_pos (by decide +kernel)]; kernel_rfl) | (rw [if_neg (by decide +kernel)]; exact ⟨rfl, rfl⟩))
    (fun os started H enc _ => lifted os started H enc)

theorem proved : Rows.FnExactReadPageSaid :=
  over
#print axioms proved
end fnExactReadPage
end Go.Proofs.Ytbinphenccnhoaa
