/- The law FnEraseBlock: for every code, of whatever length, the law returns true. No conditions. -/
import Derived.Test.YteekikaebmkioaaRows
import Derived.Test.YteekikaebmkioaaOpenC
import Derived.Test.YteekikaebmkioaaAlive
import Derived.Test.YteekikaebmkioaaSame
import Derived.Test.YteekikaebmkioaaDraws5
import Derived.Test.YteekikaebmkioaaWrite
namespace Go.Proofs.Yteekikaebmkioaa
open Go.RowKit
set_option linter.unusedVariables false

set_option maxRecDepth 100000 in
set_option maxHeartbeats 4000000 in
theorem walk_FnEraseBlock (x : Cd) (w : World) (hx : CodeArg w x) :
    Calls Try.prog 6 #[x.val] w fun e w' => e = .returned (.bool true) ∧ Below w.heap.size w w' := by
  have h1 := hx.1
  have h2 := hx.2.1
  unfold maxLen at h2
  simp only [Cd.val]
  by_cases hbig : 1048576 < x.n
  · go_enter Try.func6, Try.ntmps6
    go_wp2
    go_ret
    exact ⟨rfl, Below.refl _ _⟩
  · go_enter Try.func6, Try.ntmps6
    have HB0 : Hid (Below w.heap.size w w) := Lib.hid (Below.refl _ _)
    go_wp2_with fail
    refine (dEraseBlock x _ hx).mono ?_
    rintro e w1 ⟨z, A, m, c, ps, rfl, hmc, hm4, hP1, hb1⟩
    have HB1 := Lib.hid hb1
    have HP := Lib.hid hP1
    clear hb1 hP1
    obtain ⟨⟨eb, ok⟩, HE⟩ : ∃ r, Hid (eraseBlockF ⟨z, ps⟩ = r) := ⟨_, rfl⟩
    go_wp2_with fail
    refine (iEraseBlock _ _ _ _ ps _ (HP.out.keep (bel_1 _ _))).mono ?_
    rw [HE.out]
    simp only []
    rintro e w2 ⟨v2, rfl, ⟨A2, n2, c2, q2, rfl, hn2, hq2, hS2⟩, hb2⟩
    have HV2 := Lib.hid (bel_t (bel_1 _ _) hb2)
    have HB2 := Lib.hid (bel_t HB1.out HV2.out)
    replace HP := Lib.hid (HP.out.keep HV2.out)
    have b0 : w2.cell? ⟨w1.heap.size, 0, none⟩ = some (.int .i64 z) := stays_below hb2 _ _ _ (by simp [go_sem])
    have b1 : w2.cell? ⟨w1.heap.size, 1, none⟩ = some (.slice A m c) := stays_below hb2 _ _ _ (by simp [go_sem])
    have zb0_2 : w1.heap.size < w2.heap.size := block_lt_of_cell b0
    clear hb2
    have HX := Lib.hid (hS2.at hn2)
    clear hS2 hq2
    go_wp2_with fail
    refine (sEraseBlock _ _ _ _ ps _ (HP.out.keep (bel_1 _ _))).mono ?_
    rw [HE.out]
    simp only []
    rintro e w3 ⟨v3, rfl, ⟨A3, n3, c3, q3, rfl, hn3, hq3, hS3⟩, hb3⟩
    have HV3 := Lib.hid (bel_t (bel_1 _ _) hb3)
    have HB3 := Lib.hid (bel_t HB2.out HV3.out)
    replace b0 := stays_below HV3.out _ _ _ b0
    replace b1 := stays_below HV3.out _ _ _ b1
    replace HP := Lib.hid (HP.out.keep HV3.out)
    replace HX := Lib.hid (HX.out.keep HV3.out)
    have x0 : w3.cell? ⟨w2.heap.size, 0, none⟩ = some (.int .i64 eb.wear) := stays_below hb3 _ _ _ (by simp [go_sem])
    have x1 : w3.cell? ⟨w2.heap.size, 1, none⟩ = some (.slice A2 n2 c2) := stays_below hb3 _ _ _ (by simp [go_sem])
    have zb0_3 : w1.heap.size < w3.heap.size := block_lt_of_cell b0
    have zx0_3 : w2.heap.size < w3.heap.size := block_lt_of_cell x0
    clear hb3
    have HY := Lib.hid (hS3.at hn3)
    clear hS3 hq3
    go_wp2_with fail
    refine (sameBlock_any _ _ _ _ _ _ _ _ eb.pages eb.pages _ (HX.out.keep (bel_1 _ _)) (HY.out.keep (bel_1 _ _))).mono ?_
    rintro e w4 ⟨r4, rfl, hr4, hb4⟩
    have HV4 := Lib.hid (bel_t (bel_1 _ _) hb4)
    have HB4 := Lib.hid (bel_t HB3.out HV4.out)
    replace b0 := stays_below HV4.out _ _ _ b0
    replace b1 := stays_below HV4.out _ _ _ b1
    replace x0 := stays_below HV4.out _ _ _ x0
    replace x1 := stays_below HV4.out _ _ _ x1
    replace HP := Lib.hid (HP.out.keep HV4.out)
    replace HX := Lib.hid (HX.out.keep HV4.out)
    replace HY := Lib.hid (HY.out.keep HV4.out)
    have y0 : w4.cell? ⟨w3.heap.size, 0, none⟩ = some (.int .i64 eb.wear) := stays_below hb4 _ _ _ (by simp [go_sem])
    have y1 : w4.cell? ⟨w3.heap.size, 1, none⟩ = some (.slice A3 n3 c3) := stays_below hb4 _ _ _ (by simp [go_sem])
    have zb0_4 : w1.heap.size < w4.heap.size := block_lt_of_cell b0
    have zx0_4 : w2.heap.size < w4.heap.size := block_lt_of_cell x0
    have zy0_4 : w3.heap.size < w4.heap.size := block_lt_of_cell y0
    clear hb4
    obtain rfl := hr4 rfl rfl
    clear hr4
    cases hv : blockValidF ⟨z, ps⟩
    · obtain ⟨rfl, rfl⟩ : Bl.zero = eb ∧ false = ok := by have := (eb_1 _ hv).symm.trans HE.out; injection this with e1 e2; exact ⟨e1, e2⟩
      simp only [Bl.zero] at *
      clear hv
      go_wp2_with fail
      refine (sameBlock_any _ _ _ _ _ _ _ _ [] ps _ HX.out HP.out).mono ?_
      rintro e w5 ⟨r5, rfl, hr5, hb5⟩
      have HV5 := Lib.hid (hb5)
      have HB5 := Lib.hid (bel_t HB4.out HV5.out)
      replace b0 := stays_below HV5.out _ _ _ b0
      replace b1 := stays_below HV5.out _ _ _ b1
      replace x0 := stays_below HV5.out _ _ _ x0
      replace x1 := stays_below HV5.out _ _ _ x1
      replace y0 := stays_below HV5.out _ _ _ y0
      replace y1 := stays_below HV5.out _ _ _ y1
      replace HP := Lib.hid (HP.out.keep HV5.out)
      replace HX := Lib.hid (HX.out.keep HV5.out)
      replace HY := Lib.hid (HY.out.keep HV5.out)
      have zb0_5 : w1.heap.size < w5.heap.size := block_lt_of_cell b0
      have zx0_5 : w2.heap.size < w5.heap.size := block_lt_of_cell x0
      have zy0_5 : w3.heap.size < w5.heap.size := block_lt_of_cell y0
      clear hb5
      clear hr5
      cases r5
      · skip
        go_wp2_with fail
        refine (sameBlock_any _ _ _ _ _ _ _ _ [] [] _ HX.out (PgsAt.nil _)).mono ?_
        rintro e w6 ⟨r6, rfl, hr6, hb6⟩
        have HV6 := Lib.hid (hb6)
        have HB6 := Lib.hid (bel_t HB5.out HV6.out)
        replace b0 := stays_below HV6.out _ _ _ b0
        replace b1 := stays_below HV6.out _ _ _ b1
        replace x0 := stays_below HV6.out _ _ _ x0
        replace x1 := stays_below HV6.out _ _ _ x1
        replace y0 := stays_below HV6.out _ _ _ y0
        replace y1 := stays_below HV6.out _ _ _ y1
        replace HP := Lib.hid (HP.out.keep HV6.out)
        replace HX := Lib.hid (HX.out.keep HV6.out)
        replace HY := Lib.hid (HY.out.keep HV6.out)
        have zb0_6 : w1.heap.size < w6.heap.size := block_lt_of_cell b0
        have zx0_6 : w2.heap.size < w6.heap.size := block_lt_of_cell x0
        have zy0_6 : w3.heap.size < w6.heap.size := block_lt_of_cell y0
        clear hb6
        obtain rfl := hr6 rfl rfl
        go_wp2_with (go_at_call 18; refine (alive_any _).mono ?_; rintro e w' ⟨rfl, rfl⟩)
        go_ret
        exact ⟨rfl, HB6.out⟩
      · skip
        go_wp2_with (go_at_call 18; refine (alive_any _).mono ?_; rintro e w' ⟨rfl, rfl⟩)
        go_ret
        exact ⟨rfl, HB5.out⟩
    · by_cases hz : z = 100
      · obtain ⟨rfl, rfl⟩ : (⟨z, ps⟩ : Bl) = eb ∧ false = ok := by have := (eb_2 z ps hv hz).symm.trans HE.out; injection this with e1 e2; exact ⟨e1, e2⟩
        simp only [] at *
        clear hv
        go_wp2_with fail
        refine (sameBlock_any _ _ _ _ _ _ _ _ ps ps _ HX.out HP.out).mono ?_
        rintro e w5 ⟨r5, rfl, hr5, hb5⟩
        have HV5 := Lib.hid (hb5)
        have HB5 := Lib.hid (bel_t HB4.out HV5.out)
        replace b0 := stays_below HV5.out _ _ _ b0
        replace b1 := stays_below HV5.out _ _ _ b1
        replace x0 := stays_below HV5.out _ _ _ x0
        replace x1 := stays_below HV5.out _ _ _ x1
        replace y0 := stays_below HV5.out _ _ _ y0
        replace y1 := stays_below HV5.out _ _ _ y1
        replace HP := Lib.hid (HP.out.keep HV5.out)
        replace HX := Lib.hid (HX.out.keep HV5.out)
        replace HY := Lib.hid (HY.out.keep HV5.out)
        have zb0_5 : w1.heap.size < w5.heap.size := block_lt_of_cell b0
        have zx0_5 : w2.heap.size < w5.heap.size := block_lt_of_cell x0
        have zy0_5 : w3.heap.size < w5.heap.size := block_lt_of_cell y0
        clear hb5
        obtain rfl := hr5 rfl rfl
        go_wp2_with (go_at_call 18; refine (alive_any _).mono ?_; rintro e w' ⟨rfl, rfl⟩)
        go_ret
        exact ⟨rfl, HB5.out⟩
      · obtain ⟨he, rfl⟩ : newBlockF (z + 1) = eb ∧ true = ok := by have := (eb_3 z ps hv hz).symm.trans HE.out; injection this with e1 e2; exact ⟨e1, e2⟩
        have hw : 0 ≤ z ∧ z ≤ 100 := bv_wear _ hv
        have hz1 : 0 ≤ z + 1 ∧ z + 1 ≤ 100 := by omega
        rw [nb_1 _ hz1] at he
        subst he
        simp only [] at *
        have HVN := Lib.hid (bv_new (z + 1) hz1)
        have HNN := Lib.hid (bn_new (z + 1) hz1)
        clear hv
        go_wp2_with fail
        refine (iBlockValid _ _ _ _ _ _ HX.out).mono ?_
        rw [HVN.out]
        rintro e w5 ⟨rfl, hb5⟩
        have HV5 := Lib.hid (hb5)
        have HB5 := Lib.hid (bel_t HB4.out HV5.out)
        replace b0 := stays_below HV5.out _ _ _ b0
        replace b1 := stays_below HV5.out _ _ _ b1
        replace x0 := stays_below HV5.out _ _ _ x0
        replace x1 := stays_below HV5.out _ _ _ x1
        replace y0 := stays_below HV5.out _ _ _ y0
        replace y1 := stays_below HV5.out _ _ _ y1
        replace HP := Lib.hid (HP.out.keep HV5.out)
        replace HX := Lib.hid (HX.out.keep HV5.out)
        replace HY := Lib.hid (HY.out.keep HV5.out)
        have zb0_5 : w1.heap.size < w5.heap.size := block_lt_of_cell b0
        have zx0_5 : w2.heap.size < w5.heap.size := block_lt_of_cell x0
        have zy0_5 : w3.heap.size < w5.heap.size := block_lt_of_cell y0
        clear hb5
        go_wp2_with fail
        refine (iBlockNext _ _ _ _ _ _ HX.out).mono ?_
        rw [HNN.out]
        rintro e w6 ⟨rfl, hb6⟩
        have HV6 := Lib.hid (hb6)
        have HB6 := Lib.hid (bel_t HB5.out HV6.out)
        replace b0 := stays_below HV6.out _ _ _ b0
        replace b1 := stays_below HV6.out _ _ _ b1
        replace x0 := stays_below HV6.out _ _ _ x0
        replace x1 := stays_below HV6.out _ _ _ x1
        replace y0 := stays_below HV6.out _ _ _ y0
        replace y1 := stays_below HV6.out _ _ _ y1
        replace HP := Lib.hid (HP.out.keep HV6.out)
        replace HX := Lib.hid (HX.out.keep HV6.out)
        replace HY := Lib.hid (HY.out.keep HV6.out)
        have zb0_6 : w1.heap.size < w6.heap.size := block_lt_of_cell b0
        have zx0_6 : w2.heap.size < w6.heap.size := block_lt_of_cell x0
        have zy0_6 : w3.heap.size < w6.heap.size := block_lt_of_cell y0
        clear hb6
        go_wp2
        go_ret
        exact ⟨rfl, HB6.out⟩

namespace fnEraseBlock
open Go.ChangeShapes Go.WideShapes Go.ChangeAt Go.RowKit
theorem own : ownKnob Try.prog.godebug = none := by kernel_rfl
theorem laidOut : laidOutB Try.prog = true := by kernel_rfl
theorem spec_ok : LawSpec Rows.fnEraseBlockSpec 1 := ⟨rfl, fun H ds h => by
  match ds, h with
  | [_], _ => exact ⟨rfl, rfl, rfl⟩⟩
theorem rd22 : Try.prog.readableRec 22 = true ∧ 22 < Try.prog.types.size := ⟨by kernel_rfl, of_decide_eq_true (by kernel_rfl)⟩
set_option maxRecDepth 100000 in
theorem lifted (os : Os) (started : os.Started) (H : Type) (enc : TypeId × Value → H) :
    ReturnsInHanded {} Try.checked os 6 .any (Rows.fnEraseBlockSpec.pre6 enc Try.prog Try.f6 Rows.fnEraseBlockRow.domain false) (Rows.fnEraseBlockSpec.post enc Try.prog Try.f6 false true false false) := by
  refine law_lifted (C := Try.checked) (tb := 4) own started (by kernel_rfl) Try.func6 laidOut ?_ spec_ok (by rfl) Try.underlying4
    (ChangeSpec.witness6 (enc := enc) (C := Try.checked) false ⟨#[], #[.slice none 0 0], []⟩ 8 (by kernel_rfl) (by kernel_rfl) (by kernel_rfl) (by kernel_rfl)) ?_
  · rw [Try.params6]
    intro t ht
    simp only [List.mem_cons, List.not_mem_nil, or_false] at ht
    subst ht
    exact rd22
  · intro W base args ds ps hval0 hA0
    have hval : ∀ (j : Nat) t v, Try.f6.params[j]? = some t → args[j]? = some v → Value.okWide Try.prog W .any base t v := hval0
    have hA : DataW.TrodAll enc Try.prog W 0 (fun _ => true) true Try.f6.params.toList args.toList ds ps := hA0
    clear hval0 hA0
    rw [Try.params6] at hA hval
    obtain ⟨v0, vs0, d0, ds0, p0, q0, hargs, rfl, rfl, h0, r0⟩ := trodAll_cons hA
    obtain ⟨rfl, rfl, rfl⟩ := trodAll_nil r0
    obtain rfl : args = #[v0] := by cases args; simp_all
    obtain ⟨x0, rfl, hx0⟩ := open_c Try.underlying22 Try.underlying5 (by kernel_rfl) (hval 0 22 v0 rfl rfl) h0
    exact walk_FnEraseBlock x0 W hx0

theorem over : Rows.fnEraseBlockRow.holds Try.pinned (OpenSpec.ofChange Rows.fnEraseBlockSpec) :=
  OpenClaim.holds_of_wide 6 Try.f6 rfl rfl rfl rfl rfl rfl rfl ⟨rfl, rfl, rfl, rfl, rfl⟩ rfl rfl rfl rfl rfl (by kernel_rfl) Try.func6 (by kernel_rfl)
    (of_decide_eq_true (by kernel_rfl)) (by unfold Func.isWrapper; first | (rw [if_pos (by decide +kernel)]; kernel_rfl) | (rw [if_neg (by decide +kernel)]; exact ⟨rfl, rfl⟩))
    (fun os started H enc _ => lifted os started H enc)

theorem proved : Rows.FnEraseBlockSaid :=
  over
#print axioms proved
end fnEraseBlock
end Go.Proofs.Yteekikaebmkioaa
