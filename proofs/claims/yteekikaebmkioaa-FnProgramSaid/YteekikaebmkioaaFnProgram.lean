/- The law FnProgram: for every code, of whatever length, the law returns true. No conditions. -/
import Derived.Test.YteekikaebmkioaaRows
import Derived.Test.YteekikaebmkioaaOpenC
import Derived.Test.YteekikaebmkioaaAlive
import Derived.Test.YteekikaebmkioaaSame
import Derived.Test.YteekikaebmkioaaDraws7
import Derived.Test.YteekikaebmkioaaPageEq
import Derived.Test.YteekikaebmkioaaSame2
namespace Go.Proofs.Yteekikaebmkioaa
open Go.RowKit
set_option linter.unusedVariables false

theorem pr_no (ds : List Bl) (n : Nat) (x : Int) (p : Pg) (hl : ds.length = n) (h : ¬ (deviceValidF ds = true ∧ (0 ≤ x ∧ x < n) ∧ pageValidF p = true ∧ p.full = true)) : programF ds x p = ([], -1) := by
  cases h1 : deviceValidF ds
  · exact pr_1 ds x p h1
  · by_cases h2 : 0 ≤ x ∧ x < n
    · cases h3 : pageValidF p
      · exact pr_3 ds x p h3
      · cases h4 : p.full
        · exact pr_4 ds x p h4
        · exact absurd ⟨h1, h2, h3, h4⟩ h
    · exact pr_2 ds n x p hl h2

theorem pr_len13 (ds : List Bl) (n : Nat) (x : Int) (p : Pg) (hl : ds.length = n) : (programF ds x p).1.length ≤ n := by
  by_cases h : deviceValidF ds = true ∧ (0 ≤ x ∧ x < n) ∧ pageValidF p = true ∧ p.full = true
  · obtain ⟨h1, h2, h3, h4⟩ := h
    obtain ⟨k, rfl⟩ : ∃ k : Nat, x = (k : Int) := ⟨x.toNat, by omega⟩
    rcases hw : writeBlockF (blAt ds k) p with ⟨b, v⟩
    by_cases h0 : v < 0
    · rw [pr_5 ds n k p hl h1 (by omega) h3 h4 b v hw h0]; exact Nat.le_of_eq hl
    · rw [pr_6 ds n k p hl h1 (by omega) h3 h4 b v hw h0]; dsimp only; rw [List.length_set]; exact Nat.le_of_eq hl
  · rw [pr_no ds n x p hl h]; exact Nat.zero_le _

set_option maxRecDepth 100000 in
set_option maxHeartbeats 4000000 in
theorem walk_FnProgram (x : Cd) (w : World) (hx : CodeArg w x) :
    Calls Try.prog 9 #[x.val] w fun e w' => e = .returned (.bool true) ∧ Below w.heap.size w w' := by
  have h1 := hx.1
  have h2 := hx.2.1
  unfold maxLen at h2
  simp only [Cd.val]
  by_cases hbig : 1048576 < x.n
  · go_enter Try.func9, Try.ntmps9
    go_wp2
    go_ret
    exact ⟨rfl, Below.refl _ _⟩
  · go_enter Try.func9, Try.ntmps9
    have HB0 : Hid (Below w.heap.size w w) := Lib.hid (Below.refl _ _)
    go_wp2_with fail
    refine (dProgram x _ hx).mono ?_
    rintro e w1 ⟨A, m, c, ds, a, ⟨f, fi, pl, va, st⟩, rfl, hmc, hm13, hP1, hb1⟩
    have HB1 := Lib.hid hb1
    have HP := Lib.hid hP1
    have hlen := hP1.1
    clear hb1 hP1
    simp only [Pg.val]
    obtain ⟨⟨E, at_⟩, HE⟩ : ∃ r, Hid (programF ds a ⟨f, fi, pl, va, st⟩ = r) := ⟨_, rfl⟩
    have hm13I : (m : Int) ≤ 13 := by omega
    have hE13 : E.length ≤ 13 := by have h9 := pr_len13 ds m a ⟨f, fi, pl, va, st⟩ hlen; rw [HE.out] at h9; dsimp only at h9; omega
    go_wp2_with fail
    refine (iProgram _ _ _ ds a _ _ _ _ _ _ (HP.out.keep (bel_1 _ _))).mono ?_
    rw [HE.out]
    simp only []
    rintro e w2 ⟨v2, rfl, hO2, hb2⟩
    have HV2 := Lib.hid (bel_t (bel_1 _ _) hb2)
    have HB2 := Lib.hid (bel_t HB1.out HV2.out)
    replace HP := Lib.hid (HP.out.keep HV2.out)
    have p0 : w2.cell? ⟨w1.heap.size, 0, none⟩ = some (.bool f) := stays_below hb2 _ _ _ (by simp [go_sem])
    have p1 : w2.cell? ⟨w1.heap.size, 1, none⟩ = some (.int .i64 fi) := stays_below hb2 _ _ _ (by simp [go_sem])
    have p2 : w2.cell? ⟨w1.heap.size, 2, none⟩ = some (.int .i64 pl) := stays_below hb2 _ _ _ (by simp [go_sem])
    have p3 : w2.cell? ⟨w1.heap.size, 3, none⟩ = some (.int .i64 va) := stays_below hb2 _ _ _ (by simp [go_sem])
    have p4 : w2.cell? ⟨w1.heap.size, 4, none⟩ = some (.int .i64 st) := stays_below hb2 _ _ _ (by simp [go_sem])
    have zp0_2 : w1.heap.size < w2.heap.size := block_lt_of_cell p0
    clear hb2
    obtain ⟨A2, c2, rfl, hT2⟩ := devout hO2
    have hmHX : E.length ≤ 9223372036854775807 := by have := hE13; omega
    have HX := Lib.hid (hT2.at hmHX)
    clear hO2 hT2
    go_wp2_with fail
    refine (sProgram _ _ _ ds a _ _ _ _ _ _ HP.out).mono ?_
    rw [HE.out]
    simp only []
    rintro e w3 ⟨v3, rfl, hO3, hb3⟩
    have HV3 := Lib.hid (hb3)
    have HB3 := Lib.hid (bel_t HB2.out HV3.out)
    replace p0 := stays_below HV3.out _ _ _ p0
    replace p1 := stays_below HV3.out _ _ _ p1
    replace p2 := stays_below HV3.out _ _ _ p2
    replace p3 := stays_below HV3.out _ _ _ p3
    replace p4 := stays_below HV3.out _ _ _ p4
    replace HP := Lib.hid (HP.out.keep HV3.out)
    replace HX := Lib.hid (HX.out.keep HV3.out)
    have zp0_3 : w1.heap.size < w3.heap.size := block_lt_of_cell p0
    clear hb3
    obtain ⟨A3, c3, rfl, hT3⟩ := devout hO3
    have hmHY : E.length ≤ 9223372036854775807 := by have := hE13; omega
    have HY := Lib.hid (hT3.at hmHY)
    clear hO3 hT3
    go_wp2_with fail
    refine (sameDevice_any _ _ _ _ _ _ E E _ HX.out HY.out).mono ?_
    rintro e w4 ⟨r4, rfl, hr4, hb4⟩
    have HV4 := Lib.hid (hb4)
    have HB4 := Lib.hid (bel_t HB3.out HV4.out)
    replace p0 := stays_below HV4.out _ _ _ p0
    replace p1 := stays_below HV4.out _ _ _ p1
    replace p2 := stays_below HV4.out _ _ _ p2
    replace p3 := stays_below HV4.out _ _ _ p3
    replace p4 := stays_below HV4.out _ _ _ p4
    replace HP := Lib.hid (HP.out.keep HV4.out)
    replace HX := Lib.hid (HX.out.keep HV4.out)
    replace HY := Lib.hid (HY.out.keep HV4.out)
    have zp0_4 : w1.heap.size < w4.heap.size := block_lt_of_cell p0
    clear hb4
    obtain rfl := hr4 rfl
    clear hr4 HY
    by_cases hval : deviceValidF ds = true ∧ (0 ≤ a ∧ a < m) ∧ pageValidF ⟨f, fi, pl, va, st⟩ = true ∧ f = true
    · obtain ⟨hv, ⟨ha0, ha1⟩, hp, rfl⟩ := hval
      obtain ⟨k, rfl⟩ : ∃ k : Nat, a = (k : Int) := ⟨a.toNat, by omega⟩
      have hk : k < m := by omega
      by_cases h0 : blockNextF (blAt ds k) < 0
      · have hbn := bn_none _ (dv_at ds m k hlen hv hk) h0
        have he := HE.out.symm.trans (pr_5 ds m k _ hlen hv hk hp rfl _ _ (wb_5 _ _ (-1) (dv_at ds m k hlen hv hk) hp rfl hbn.1 (by omega)) (by omega))
        simp only [Prod.mk.injEq] at he
        obtain ⟨rfl, rfl⟩ := he
        rw [hlen] at HX
        clear hbn h0 hv hp HE
        go_wp2_with fail
        refine (sameDevice_any _ _ _ _ _ _ E E _ HX.out HP.out).mono ?_
        rintro e w5 ⟨r5, rfl, hr5, hb5⟩
        have HV5 := Lib.hid (hb5)
        have HB5 := Lib.hid (bel_t HB4.out HV5.out)
        replace p0 := stays_below HV5.out _ _ _ p0
        replace p1 := stays_below HV5.out _ _ _ p1
        replace p2 := stays_below HV5.out _ _ _ p2
        replace p3 := stays_below HV5.out _ _ _ p3
        replace p4 := stays_below HV5.out _ _ _ p4
        replace HP := Lib.hid (HP.out.keep HV5.out)
        replace HX := Lib.hid (HX.out.keep HV5.out)
        have zp0_5 : w1.heap.size < w5.heap.size := block_lt_of_cell p0
        clear hb5
        obtain rfl := hr5 rfl
        go_wp2_with (go_at_call 18; refine (alive_any _).mono ?_; rintro e w' ⟨rfl, rfl⟩)
        go_ret
        exact ⟨rfl, HB5.out⟩
      · obtain ⟨j, hj⟩ : ∃ j : Nat, blockNextF (blAt ds k) = (j : Int) := ⟨(blockNextF (blAt ds k)).toNat, by omega⟩
        have HPT : Hid (Put ds m k j ⟨true, fi, pl, va, st⟩) := Lib.hid ⟨hlen, hv, hk, hp, rfl, hj⟩
        have he := HE.out.symm.trans HPT.out.eq
        simp only [Prod.mk.injEq] at he
        obtain ⟨rfl, rfl⟩ := he
        have hEl : (putF ds k j ⟨true, fi, pl, va, st⟩).length = m := HPT.out.length
        have HEV := Lib.hid HPT.out.valid
        have HDV := Lib.hid hv
        rw [hEl] at HX ⊢
        have hj4 := HPT.out.j4
        have hat0 : (0 : Int) ≤ (k : Int) * 4 + (j : Int) := by omega
        have hat1 : ¬ (k : Int) * 4 + (j : Int) < 0 := by omega
        clear h0 hv hp hj HE hE13 hmHX hmHY hEl
        have hpe := neq_page true fi pl va st true fi pl va st
        rw [pgEq_refl] at hpe
        have hz0 := neq_page false 0 0 0 0 false 0 0 0 0
        rw [pgEq_refl] at hz0
        obtain ⟨E, hEe⟩ : ∃ E, Hid (putF ds k j ⟨true, fi, pl, va, st⟩ = E) := ⟨_, rfl⟩
        rw [hEe.out] at HX HEV
        go_wp2_with fail
        go_loopw [10] (fun x10 wr => ∃ q : Nat, q ≤ 4 * m ∧ x10 = .int .i64 (q : Int) ∧ Hid (Below w4.heap.size w4 wr)) (fun x10 _ => 4 * m - (intOf x10).toNat)
        case atStart => exact ⟨0, by omega, rfl, Below.refl _ _⟩
        case round =>
          obtain ⟨q, hq, rfl, HB⟩ := hrel
          replace p0 := stays_below HB.out _ _ _ p0
          replace p1 := stays_below HB.out _ _ _ p1
          replace p2 := stays_below HB.out _ _ _ p2
          replace p3 := stays_below HB.out _ _ _ p3
          replace p4 := stays_below HB.out _ _ _ p4
          have zpr : w1.heap.size < wr.heap.size := block_lt_of_cell p0
          have HXr := Lib.hid (HX.out.keep HB.out)
          have HPr := Lib.hid (HP.out.keep HB.out)
          have HB4r := Lib.hid (bel_t HB4.out HB.out)
          by_cases hqm : q = 4 * m
          · have hqI : ¬ (q : Int) < 4 * (m : Int) := by omega
            have e1 : ((k : Int) * 4 + (j : Int)).tdiv 4 = (k : Int) := by rw [Int.tdiv_eq_ediv_of_nonneg (by omega)]; omega
            have e2 : ((k : Int) * 4 + (j : Int)) / 4 = (k : Int) := by omega
            obtain ⟨fp, HFP⟩ : ∃ fp, Hid (freePagesF ds = fp) := ⟨_, rfl⟩
            have HFE : Hid (freePagesF E = fp - 1) := Lib.hid (by rw [← hEe.out, HPT.out.free, HFP.out])
            have hfp : 0 ≤ fp ∧ fp ≤ 52 := by
              have h9 := HFP.out
              rw [fp_2 ds m hlen HDV.out, fp_4 ds m m hlen HDV.out (Nat.le_refl _)] at h9
              have := freeAt_le ds (4 * m)
              omega
            obtain ⟨hfp0, hfp1⟩ := hfp
            go_wp2_with fail
            refine (iDeviceValid _ _ _ E _ HXr.out).mono ?_
            rw [HEV.out]
            rintro e w5 ⟨rfl, hb5⟩
            have HX5 := Lib.hid (HXr.out.keep hb5)
            have HP5 := Lib.hid (HPr.out.keep hb5)
            have HB5 := Lib.hid (bel_t HB4r.out hb5)
            clear hb5
            go_wp2_with fail
            refine (iFreePages _ _ _ E _ HX5.out).mono ?_
            rw [HFE.out]
            rintro e w6 ⟨rfl, hb6⟩
            have HP6 := Lib.hid (HP5.out.keep hb6)
            have HB6 := Lib.hid (bel_t HB5.out hb6)
            clear hb6
            go_wp2_with fail
            refine (iFreePages _ _ _ ds _ HP6.out).mono ?_
            rw [HFP.out]
            rintro e w7 ⟨rfl, hb7⟩
            have HB7 := Lib.hid (bel_t HB6.out hb7)
            clear hb7
            go_wp2
            go_ret
            exact ⟨rfl, HB7.out⟩
          · have hqI : (q : Int) < 4 * (m : Int) := by omega
            have hrE := HPT.out.read q (by omega)
            rw [hEe.out] at hrE
            by_cases hqa : q = k * 4 + j
            · have hr0 := HPT.out.read0
              rw [if_pos hqa] at hrE
              rw [← hqa] at hr0
              obtain ⟨⟨p0', b0'⟩, HR0⟩ : ∃ r, Hid (readPageF ds (q : Int) = r) := ⟨_, rfl⟩
              rw [HR0.out] at hr0
              dsimp only at hr0
              subst hr0
              have hqe : ((q : Int) == (k : Int) * 4 + (j : Int)) = true := by simp; omega
              have hqn : ((q : Int) != (k : Int) * 4 + (j : Int)) = false := by simp; omega
              have HRE := Lib.hid hrE
              clear hrE hqa
              go_wp2_with fail
              refine (iReadPage _ _ _ E _ _ HXr.out).mono ?_
              rw [HRE.out]
              simp only [Pg.val]
              rintro e w5 ⟨rfl, hb5⟩
              have a0 := stays_below hb5 _ _ _ p0
              have a1 := stays_below hb5 _ _ _ p1
              have a2 := stays_below hb5 _ _ _ p2
              have a3 := stays_below hb5 _ _ _ p3
              have a4 := stays_below hb5 _ _ _ p4
              have hz5 : w1.heap.size < w5.heap.size := block_lt_of_cell a0
              have HP5 := Lib.hid (HPr.out.keep hb5)
              have HB5 := Lib.hid (bel_t HB.out hb5)
              clear hb5 p0 p1 p2 p3 p4
              go_wp2_with fail
              refine (iReadPage _ _ _ ds _ _ (HP5.out.keep (bel_1 _ _))).mono ?_
              rw [HR0.out]
              simp only [Pg.val, Pg.zero]
              rintro e w6 ⟨rfl, hb6⟩
              have HX6 := Lib.hid (bel_t (bel_1 _ _) hb6)
              replace a0 := stays_below HX6.out _ _ _ a0
              replace a1 := stays_below HX6.out _ _ _ a1
              replace a2 := stays_below HX6.out _ _ _ a2
              replace a3 := stays_below HX6.out _ _ _ a3
              replace a4 := stays_below HX6.out _ _ _ a4
              have x0 : w6.cell? ⟨w5.heap.size, 0, none⟩ = some (.bool true) := stays_below hb6 _ _ _ (by simp [go_sem])
              have x1 : w6.cell? ⟨w5.heap.size, 1, none⟩ = some (.int .i64 fi) := stays_below hb6 _ _ _ (by simp [go_sem])
              have x2 : w6.cell? ⟨w5.heap.size, 2, none⟩ = some (.int .i64 pl) := stays_below hb6 _ _ _ (by simp [go_sem])
              have x3 : w6.cell? ⟨w5.heap.size, 3, none⟩ = some (.int .i64 va) := stays_below hb6 _ _ _ (by simp [go_sem])
              have x4 : w6.cell? ⟨w5.heap.size, 4, none⟩ = some (.int .i64 st) := stays_below hb6 _ _ _ (by simp [go_sem])
              have hz6 : w5.heap.size < w6.heap.size := block_lt_of_cell x0
              have hz7 : w1.heap.size < w6.heap.size := block_lt_of_cell a0
              have HB6 := Lib.hid (bel_t HB5.out HX6.out)
              clear hb6 HX6
              go_wp2
              go_round
              case rel => exact ⟨q + 1, by omega, by go_num, bel_t HB6.out (bel_1 _ _)⟩
              case measure => simp [intOf]; omega
            · rw [if_neg hqa] at hrE
              obtain ⟨⟨⟨qf, qfi, qpl, qva, qst⟩, qb⟩, HR0⟩ : ∃ r, Hid (readPageF ds (q : Int) = r) := ⟨_, rfl⟩
              rw [HR0.out] at hrE
              have HRE := Lib.hid hrE
              have hqe : ((q : Int) == (k : Int) * 4 + (j : Int)) = false := by simp; omega
              have hqn : ((q : Int) != (k : Int) * 4 + (j : Int)) = true := by simp; omega
              have hne := neq_page qf qfi qpl qva qst qf qfi qpl qva qst
              rw [pgEq_refl] at hne
              clear hrE hqa hpe hz0
              go_wp2_with fail
              refine (iReadPage _ _ _ E _ _ HXr.out).mono ?_
              rw [HRE.out]
              simp only [Pg.val]
              rintro e w5 ⟨rfl, hb5⟩
              have HP5 := Lib.hid (HPr.out.keep hb5)
              have HB5 := Lib.hid (bel_t HB.out hb5)
              clear hb5 p0 p1 p2 p3 p4
              go_wp2_with fail
              refine (iReadPage _ _ _ ds _ _ (HP5.out.keep (bel_1 _ _))).mono ?_
              rw [HR0.out]
              simp only [Pg.val]
              rintro e w6 ⟨rfl, hb6⟩
              have HX6 := Lib.hid (bel_t (bel_1 _ _) hb6)
              have x0 : w6.cell? ⟨w5.heap.size, 0, none⟩ = some (.bool qf) := stays_below hb6 _ _ _ (by simp [go_sem])
              have x1 : w6.cell? ⟨w5.heap.size, 1, none⟩ = some (.int .i64 qfi) := stays_below hb6 _ _ _ (by simp [go_sem])
              have x2 : w6.cell? ⟨w5.heap.size, 2, none⟩ = some (.int .i64 qpl) := stays_below hb6 _ _ _ (by simp [go_sem])
              have x3 : w6.cell? ⟨w5.heap.size, 3, none⟩ = some (.int .i64 qva) := stays_below hb6 _ _ _ (by simp [go_sem])
              have x4 : w6.cell? ⟨w5.heap.size, 4, none⟩ = some (.int .i64 qst) := stays_below hb6 _ _ _ (by simp [go_sem])
              have hz6 : w5.heap.size < w6.heap.size := block_lt_of_cell x0
              have HB6 := Lib.hid (bel_t HB5.out HX6.out)
              clear hb6 HX6
              go_wp2
              go_round
              case rel => exact ⟨q + 1, by omega, by go_num, bel_t HB6.out (bel_1 _ _)⟩
              case measure => simp [intOf]; omega
    · have he := HE.out.symm.trans (pr_no ds m a _ hlen hval)
      simp only [Prod.mk.injEq] at he
      obtain ⟨rfl, rfl⟩ := he
      clear hval HE
      simp only [List.length_nil] at *
      go_wp2_with fail
      refine (sameDevice_any _ _ _ _ _ _ [] ds _ HX.out HP.out).mono ?_
      rintro e w5 ⟨r5, rfl, hr5, hb5⟩
      have HV5 := Lib.hid (hb5)
      have HB5 := Lib.hid (bel_t HB4.out HV5.out)
      replace p0 := stays_below HV5.out _ _ _ p0
      replace p1 := stays_below HV5.out _ _ _ p1
      replace p2 := stays_below HV5.out _ _ _ p2
      replace p3 := stays_below HV5.out _ _ _ p3
      replace p4 := stays_below HV5.out _ _ _ p4
      replace HP := Lib.hid (HP.out.keep HV5.out)
      replace HX := Lib.hid (HX.out.keep HV5.out)
      have zp0_5 : w1.heap.size < w5.heap.size := block_lt_of_cell p0
      clear hb5
      clear hr5
      cases r5
      all_goals
        go_wp2_with (go_at_call 18; refine (alive_any _).mono ?_; rintro e w' ⟨rfl, rfl⟩)
        go_ret
        exact ⟨rfl, HB5.out⟩

namespace fnProgram
open Go.ChangeShapes Go.WideShapes Go.ChangeAt Go.RowKit
theorem own : ownKnob Try.prog.godebug = none := by kernel_rfl
theorem laidOut : laidOutB Try.prog = true := by kernel_rfl
theorem spec_ok : LawSpec Rows.fnProgramSpec 1 := ⟨rfl, fun H ds h => by
  match ds, h with
  | [_], _ => exact ⟨rfl, rfl, rfl⟩⟩
theorem rd22 : Try.prog.readableRec 22 = true ∧ 22 < Try.prog.types.size := ⟨by kernel_rfl, of_decide_eq_true (by kernel_rfl)⟩
set_option maxRecDepth 100000 in
theorem lifted (os : Os) (started : os.Started) (H : Type) (enc : TypeId × Value → H) :
    ReturnsInHanded {} Try.checked os 9 .any (Rows.fnProgramSpec.pre6 enc Try.prog Try.f9 Rows.fnProgramRow.domain false) (Rows.fnProgramSpec.post enc Try.prog Try.f9 false true false false) := by
  refine law_lifted (C := Try.checked) (tb := 4) own started (by kernel_rfl) Try.func9 laidOut ?_ spec_ok (by rfl) Try.underlying4
    (ChangeSpec.witness6 (enc := enc) (C := Try.checked) false ⟨#[], #[.slice none 0 0], []⟩ 8 (by kernel_rfl) (by kernel_rfl) (by kernel_rfl) (by kernel_rfl)) ?_
  · rw [Try.params9]
    intro t ht
    simp only [List.mem_cons, List.not_mem_nil, or_false] at ht
    subst ht
    exact rd22
  · intro W base args ds ps hval0 hA0
    have hval : ∀ (j : Nat) t v, Try.f9.params[j]? = some t → args[j]? = some v → Value.okWide Try.prog W .any base t v := hval0
    have hA : DataW.TrodAll enc Try.prog W 0 (fun _ => true) true Try.f9.params.toList args.toList ds ps := hA0
    clear hval0 hA0
    rw [Try.params9] at hA hval
    obtain ⟨v0, vs0, d0, ds0, p0, q0, hargs, rfl, rfl, h0, r0⟩ := trodAll_cons hA
    obtain ⟨rfl, rfl, rfl⟩ := trodAll_nil r0
    obtain rfl : args = #[v0] := by cases args; simp_all
    obtain ⟨x0, rfl, hx0⟩ := open_c Try.underlying22 Try.underlying5 (by kernel_rfl) (hval 0 22 v0 rfl rfl) h0
    exact walk_FnProgram x0 W hx0

theorem over : Rows.fnProgramRow.holds Try.pinned (OpenSpec.ofChange Rows.fnProgramSpec) :=
  OpenClaim.holds_of_wide 9 Try.f9 rfl rfl rfl rfl rfl rfl rfl ⟨rfl, rfl, rfl, rfl, rfl⟩ rfl rfl rfl rfl rfl (by kernel_rfl) Try.func9 (by kernel_rfl)
    (of_decide_eq_true (by kernel_rfl)) (by unfold Func.isWrapper; first | (rw [if_pos (by decide +kernel)]; kernel_rfl) | (rw [if_neg (by decide +kernel)]; exact ⟨rfl, rfl⟩))
    (fun os started H enc _ => lifted os started H enc)

theorem proved : Rows.FnProgramSaid :=
  over
#print axioms proved
end fnProgram
end Go.Proofs.Yteekikaebmkioaa
