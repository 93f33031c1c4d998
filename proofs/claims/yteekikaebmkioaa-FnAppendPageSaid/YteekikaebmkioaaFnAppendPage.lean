/- The law FnAppendPage: for every code, of whatever length, the law returns true. No conditions. -/
import Derived.Test.YteekikaebmkioaaRows
import Derived.Test.YteekikaebmkioaaOpenC
import Derived.Test.YteekikaebmkioaaAlive
import Derived.Test.YteekikaebmkioaaSame
import Derived.Test.YteekikaebmkioaaDraws7
import Derived.Test.YteekikaebmkioaaPageEq
import Derived.Test.YteekikaebmkioaaSame2
namespace Go.Proofs.Yteekikaebmkioaa
open Go.RowKit
set_option linter.unusedVariables false

theorem ap_no (ds : List Bl) (g h k t : Int) (p : Pg) (hn : ¬ (headsValidF ds g h k = true ∧ (0 ≤ t ∧ t ≤ 2) ∧ pageValidF p = true ∧ p.full = true)) : appendF ds g h k t p = ⟨[], 0, 0, 0, -1⟩ := by
  cases h1 : headsValidF ds g h k
  · exact ap_1 ds g h k t p h1
  · by_cases h2 : 0 ≤ t ∧ t ≤ 2
    · cases h3 : pageValidF p
      · exact ap_3 ds g h k t p h3
      · cases h4 : p.full
        · exact ap_4 ds g h k t p h4
        · exact absurd ⟨h1, h2, h3, h4⟩ hn
    · exact ap_2 ds g h k t p h2
theorem ap_len13 (ds : List Bl) (n : Nat) (g h k t : Int) (p : Pg) (hl : ds.length = n) : (appendF ds g h k t p).ds.length ≤ n := by
  by_cases hv : headsValidF ds g h k = true ∧ (0 ≤ t ∧ t ≤ 2) ∧ pageValidF p = true ∧ p.full = true
  · obtain ⟨h1, h2, h3, h4⟩ := hv
    rcases ap_all ds n g h k t p hl h1 h2 h3 h4 with e | ⟨m, j, g', h', k', H, e, _⟩
    · rw [e]; exact Nat.le_of_eq hl
    · rw [e]; exact Nat.le_of_eq H.length
  · rw [ap_no ds g h k t p hv]; exact Nat.zero_le _

set_option maxRecDepth 100000 in
set_option maxHeartbeats 4000000 in
theorem walk_FnAppendPage (x : Cd) (w : World) (hx : CodeArg w x) :
    Calls Try.prog 14 #[x.val] w fun e w' => e = .returned (.bool true) ∧ Below w.heap.size w w' := by
  have h1 := hx.1
  have h2 := hx.2.1
  unfold maxLen at h2
  simp only [Cd.val]
  by_cases hbig : 1048576 < x.n
  · go_enter Try.func14, Try.ntmps14
    go_wp2
    go_ret
    exact ⟨rfl, Below.refl _ _⟩
  · go_enter Try.func14, Try.ntmps14
    have HB0 : Hid (Below w.heap.size w w) := Lib.hid (Below.refl _ _)
    go_wp2_with fail
    refine (dAppendPage x _ hx).mono ?_
    rintro e w1 ⟨A, m, c, ds, g, h, k, t, ⟨f, fi, pl, va, st⟩, rfl, hmc, hm13, hP1, hb1⟩
    have HB1 := Lib.hid hb1
    have HP := Lib.hid hP1
    have hlen := hP1.1
    clear hb1 hP1
    simp only [Pg.val]
    obtain ⟨⟨E, g2, h2, k2, at_⟩, HE⟩ : ∃ r, Hid (appendF ds g h k t ⟨f, fi, pl, va, st⟩ = r) := ⟨_, rfl⟩
    have hm13I : (m : Int) ≤ 13 := by omega
    have hE13 : E.length ≤ 13 := by have h9 := ap_len13 ds m g h k t ⟨f, fi, pl, va, st⟩ hlen; rw [HE.out] at h9; dsimp only at h9; omega
    go_wp2_with fail
    refine (iAppendPage _ _ _ ds _ _ _ _ _ _ _ _ _ _ (HP.out.keep (bel_2 _ _ _))).mono ?_
    rw [HE.out]
    simp only []
    rintro e w2 ⟨v2, rfl, hO2, hb2⟩
    have HV2 := Lib.hid (bel_t (bel_2 _ _ _) hb2)
    have HB2 := Lib.hid (bel_t HB1.out HV2.out)
    replace HP := Lib.hid (HP.out.keep HV2.out)
    have q0 : w2.cell? ⟨w1.heap.size, 0, none⟩ = some (.int .i64 g) := stays_below hb2 _ _ _ (by simp [go_sem])
    have q1 : w2.cell? ⟨w1.heap.size, 1, none⟩ = some (.int .i64 h) := stays_below hb2 _ _ _ (by simp [go_sem])
    have q2 : w2.cell? ⟨w1.heap.size, 2, none⟩ = some (.int .i64 k) := stays_below hb2 _ _ _ (by simp [go_sem])
    have p0 : w2.cell? ⟨w1.heap.size + 1, 0, none⟩ = some (.bool f) := stays_below hb2 _ _ _ (by simp [go_sem])
    have p1 : w2.cell? ⟨w1.heap.size + 1, 1, none⟩ = some (.int .i64 fi) := stays_below hb2 _ _ _ (by simp [go_sem])
    have p2 : w2.cell? ⟨w1.heap.size + 1, 2, none⟩ = some (.int .i64 pl) := stays_below hb2 _ _ _ (by simp [go_sem])
    have p3 : w2.cell? ⟨w1.heap.size + 1, 3, none⟩ = some (.int .i64 va) := stays_below hb2 _ _ _ (by simp [go_sem])
    have p4 : w2.cell? ⟨w1.heap.size + 1, 4, none⟩ = some (.int .i64 st) := stays_below hb2 _ _ _ (by simp [go_sem])
    have zq0_2 : w1.heap.size < w2.heap.size := block_lt_of_cell q0
    have zp0_2 : w1.heap.size + 1 < w2.heap.size := block_lt_of_cell p0
    clear hb2
    obtain ⟨A2, c2, rfl, hT2⟩ := devout hO2
    have hmHX : E.length ≤ 9223372036854775807 := by have := hE13; omega
    have HX := Lib.hid (hT2.at hmHX)
    clear hO2 hT2
    go_wp2_with fail
    refine (sAppendPage _ _ _ ds _ _ _ _ _ _ _ _ _ _ (HP.out.keep (bel_1 _ _))).mono ?_
    rw [HE.out]
    simp only []
    rintro e w3 ⟨v3, rfl, hO3, hb3⟩
    have HV3 := Lib.hid (bel_t (bel_1 _ _) hb3)
    have HB3 := Lib.hid (bel_t HB2.out HV3.out)
    replace q0 := stays_below HV3.out _ _ _ q0
    replace q1 := stays_below HV3.out _ _ _ q1
    replace q2 := stays_below HV3.out _ _ _ q2
    replace p0 := stays_below HV3.out _ _ _ p0
    replace p1 := stays_below HV3.out _ _ _ p1
    replace p2 := stays_below HV3.out _ _ _ p2
    replace p3 := stays_below HV3.out _ _ _ p3
    replace p4 := stays_below HV3.out _ _ _ p4
    replace HP := Lib.hid (HP.out.keep HV3.out)
    replace HX := Lib.hid (HX.out.keep HV3.out)
    have y0 : w3.cell? ⟨w2.heap.size, 0, none⟩ = some (.int .i64 g2) := stays_below hb3 _ _ _ (by simp [go_sem])
    have y1 : w3.cell? ⟨w2.heap.size, 1, none⟩ = some (.int .i64 h2) := stays_below hb3 _ _ _ (by simp [go_sem])
    have y2 : w3.cell? ⟨w2.heap.size, 2, none⟩ = some (.int .i64 k2) := stays_below hb3 _ _ _ (by simp [go_sem])
    have zq0_3 : w1.heap.size < w3.heap.size := block_lt_of_cell q0
    have zp0_3 : w1.heap.size + 1 < w3.heap.size := block_lt_of_cell p0
    have zy0_3 : w2.heap.size < w3.heap.size := block_lt_of_cell y0
    clear hb3
    obtain ⟨A3, c3, rfl, hT3⟩ := devout hO3
    have hmHY : E.length ≤ 9223372036854775807 := by have := hE13; omega
    have HY := Lib.hid (hT3.at hmHY)
    clear hO3 hT3
    go_wp2_with fail
    refine (sameDevice_any _ _ _ _ _ _ E E _ (HX.out.keep (bel_1 _ _)) (HY.out.keep (bel_1 _ _))).mono ?_
    rintro e w4 ⟨r4, rfl, hr4, hb4⟩
    have HV4 := Lib.hid (bel_t (bel_1 _ _) hb4)
    have HB4 := Lib.hid (bel_t HB3.out HV4.out)
    replace q0 := stays_below HV4.out _ _ _ q0
    replace q1 := stays_below HV4.out _ _ _ q1
    replace q2 := stays_below HV4.out _ _ _ q2
    replace p0 := stays_below HV4.out _ _ _ p0
    replace p1 := stays_below HV4.out _ _ _ p1
    replace p2 := stays_below HV4.out _ _ _ p2
    replace p3 := stays_below HV4.out _ _ _ p3
    replace p4 := stays_below HV4.out _ _ _ p4
    replace y0 := stays_below HV4.out _ _ _ y0
    replace y1 := stays_below HV4.out _ _ _ y1
    replace y2 := stays_below HV4.out _ _ _ y2
    replace HP := Lib.hid (HP.out.keep HV4.out)
    replace HX := Lib.hid (HX.out.keep HV4.out)
    replace HY := Lib.hid (HY.out.keep HV4.out)
    have z0 : w4.cell? ⟨w3.heap.size, 0, none⟩ = some (.int .i64 g2) := stays_below hb4 _ _ _ (by simp [go_sem])
    have z1 : w4.cell? ⟨w3.heap.size, 1, none⟩ = some (.int .i64 h2) := stays_below hb4 _ _ _ (by simp [go_sem])
    have z2 : w4.cell? ⟨w3.heap.size, 2, none⟩ = some (.int .i64 k2) := stays_below hb4 _ _ _ (by simp [go_sem])
    have zq0_4 : w1.heap.size < w4.heap.size := block_lt_of_cell q0
    have zp0_4 : w1.heap.size + 1 < w4.heap.size := block_lt_of_cell p0
    have zy0_4 : w2.heap.size < w4.heap.size := block_lt_of_cell y0
    have zz0_4 : w3.heap.size < w4.heap.size := block_lt_of_cell z0
    clear hb4
    obtain rfl := hr4 rfl
    clear hr4 HY
    have hnh := neq_heads g2 h2 k2 g2 h2 k2
    simp only [beq_self_eq_true, Bool.and_self, Bool.not_true] at hnh
    by_cases hval : headsValidF ds g h k = true ∧ (0 ≤ t ∧ t ≤ 2) ∧ pageValidF ⟨f, fi, pl, va, st⟩ = true ∧ f = true
    · obtain ⟨hv, ht, hp, rfl⟩ := hval
      rcases ap_all ds m g h k t ⟨true, fi, pl, va, st⟩ hlen hv ht hp rfl with e | ⟨mm, jj, g', h', k', H, e, hv2, hho, hoth⟩
      · have he := HE.out.symm.trans e
        simp only [App.mk.injEq] at he
        obtain ⟨rfl, rfl, rfl, rfl, rfl⟩ := he
        rw [hlen] at HX
        clear e hv hp ht HE
        have heh := eql_heads g2 h2 k2 g2 h2 k2
        simp only [beq_self_eq_true, Bool.and_self] at heh
        go_wp2_with fail
        refine (sameDevice_any _ _ _ _ _ _ E E _ HX.out HP.out).mono ?_
        rintro e w5 ⟨r5, rfl, hr5, hb5⟩
        have HV5 := Lib.hid (hb5)
        have HB5 := Lib.hid (bel_t HB4.out HV5.out)
        replace q0 := stays_below HV5.out _ _ _ q0
        replace q1 := stays_below HV5.out _ _ _ q1
        replace q2 := stays_below HV5.out _ _ _ q2
        replace p0 := stays_below HV5.out _ _ _ p0
        replace p1 := stays_below HV5.out _ _ _ p1
        replace p2 := stays_below HV5.out _ _ _ p2
        replace p3 := stays_below HV5.out _ _ _ p3
        replace p4 := stays_below HV5.out _ _ _ p4
        replace y0 := stays_below HV5.out _ _ _ y0
        replace y1 := stays_below HV5.out _ _ _ y1
        replace y2 := stays_below HV5.out _ _ _ y2
        replace z0 := stays_below HV5.out _ _ _ z0
        replace z1 := stays_below HV5.out _ _ _ z1
        replace z2 := stays_below HV5.out _ _ _ z2
        replace HP := Lib.hid (HP.out.keep HV5.out)
        replace HX := Lib.hid (HX.out.keep HV5.out)
        have zq0_5 : w1.heap.size < w5.heap.size := block_lt_of_cell q0
        have zp0_5 : w1.heap.size + 1 < w5.heap.size := block_lt_of_cell p0
        have zy0_5 : w2.heap.size < w5.heap.size := block_lt_of_cell y0
        have zz0_5 : w3.heap.size < w5.heap.size := block_lt_of_cell z0
        clear hb5
        obtain rfl := hr5 rfl
        go_wp2_with (go_at_call 18; refine (alive_any _).mono ?_; rintro e w' ⟨rfl, rfl⟩)
        go_ret
        exact ⟨rfl, HB5.out⟩
      · have he := HE.out.symm.trans e
        simp only [App.mk.injEq] at he
        obtain ⟨rfl, rfl, rfl, rfl, rfl⟩ := he
        have HPT := Lib.hid H
        have hEl : (putF ds mm jj ⟨true, fi, pl, va, st⟩).length = m := H.length
        rw [hEl] at HX ⊢
        have hj4 := H.j4
        have hkm := H.k_lt
        have hrd := H.read (mm * 4 + jj) (by omega)
        rw [if_pos rfl, show ((mm * 4 + jj : Nat) : Int) = (mm : Int) * 4 + (jj : Int) by omega] at hrd
        have hfr := H.free
        obtain ⟨fp, HFP⟩ : ∃ fp, Hid (freePagesF ds = fp) := ⟨_, rfl⟩
        rw [HFP.out] at hfr
        have hdv := H.dv
        have hfp : 0 ≤ fp ∧ fp ≤ 52 := by
          have h9 := HFP.out
          rw [fp_2 ds m hlen hdv, fp_4 ds m m hlen hdv (Nat.le_refl _)] at h9
          have := freeAt_le ds (4 * m)
          omega
        obtain ⟨hfp0, hfp1⟩ := hfp
        obtain ⟨E, hEe⟩ : ∃ E, Hid (putF ds mm jj ⟨true, fi, pl, va, st⟩ = E) := ⟨_, rfl⟩
        rw [hEe.out] at HX hrd hfr hv2 hho hoth
        have HRD := Lib.hid hrd
        have HFR := Lib.hid hfr
        have HV2 := Lib.hid hv2
        have HHO := Lib.hid hho
        have HOT := Lib.hid hoth
        have hat0 : (0 : Int) ≤ (mm : Int) * 4 + (jj : Int) := by omega
        have hat1 : ¬ (mm : Int) * 4 + (jj : Int) < 0 := by omega
        have e1 : ((mm : Int) * 4 + (jj : Int)).tdiv 4 = (mm : Int) := by rw [Int.tdiv_eq_ediv_of_nonneg (by omega)]; omega
        have e2 : ((mm : Int) * 4 + (jj : Int)) / 4 = (mm : Int) := by omega
        obtain ⟨ht0, ht2⟩ := ht
        have hpe := eql_page true fi pl va st true fi pl va st
        rw [pgEq_refl] at hpe
        clear e hv hp HE hE13 hmHX hmHY hEl H hrd hfr hv2 hho hoth hdv hnh
        go_wp2_with fail
        refine (iReadPage _ _ _ E _ _ HX.out).mono ?_
        rw [HRD.out]
        simp only [Pg.val]
        rintro e w5 ⟨rfl, hb5⟩
        have HV5 := Lib.hid (hb5)
        have HB5 := Lib.hid (bel_t HB4.out HV5.out)
        replace q0 := stays_below HV5.out _ _ _ q0
        replace q1 := stays_below HV5.out _ _ _ q1
        replace q2 := stays_below HV5.out _ _ _ q2
        replace p0 := stays_below HV5.out _ _ _ p0
        replace p1 := stays_below HV5.out _ _ _ p1
        replace p2 := stays_below HV5.out _ _ _ p2
        replace p3 := stays_below HV5.out _ _ _ p3
        replace p4 := stays_below HV5.out _ _ _ p4
        replace y0 := stays_below HV5.out _ _ _ y0
        replace y1 := stays_below HV5.out _ _ _ y1
        replace y2 := stays_below HV5.out _ _ _ y2
        replace z0 := stays_below HV5.out _ _ _ z0
        replace z1 := stays_below HV5.out _ _ _ z1
        replace z2 := stays_below HV5.out _ _ _ z2
        replace HP := Lib.hid (HP.out.keep HV5.out)
        replace HX := Lib.hid (HX.out.keep HV5.out)
        have zq0_5 : w1.heap.size < w5.heap.size := block_lt_of_cell q0
        have zp0_5 : w1.heap.size + 1 < w5.heap.size := block_lt_of_cell p0
        have zy0_5 : w2.heap.size < w5.heap.size := block_lt_of_cell y0
        have zz0_5 : w3.heap.size < w5.heap.size := block_lt_of_cell z0
        clear hb5
        go_wp2_with fail
        have HV6 := Lib.hid (bel_1 w5 (.cells #[.bool true, .int .i64 fi, .int .i64 pl, .int .i64 va, .int .i64 st] 32))
        replace q0 := stays_below HV6.out _ _ _ q0
        replace q1 := stays_below HV6.out _ _ _ q1
        replace q2 := stays_below HV6.out _ _ _ q2
        replace p0 := stays_below HV6.out _ _ _ p0
        replace p1 := stays_below HV6.out _ _ _ p1
        replace p2 := stays_below HV6.out _ _ _ p2
        replace p3 := stays_below HV6.out _ _ _ p3
        replace p4 := stays_below HV6.out _ _ _ p4
        replace y0 := stays_below HV6.out _ _ _ y0
        replace y1 := stays_below HV6.out _ _ _ y1
        replace y2 := stays_below HV6.out _ _ _ y2
        replace z0 := stays_below HV6.out _ _ _ z0
        replace z1 := stays_below HV6.out _ _ _ z1
        replace z2 := stays_below HV6.out _ _ _ z2
        have x0 : (w5.alloc (.cells #[.bool true, .int .i64 fi, .int .i64 pl, .int .i64 va, .int .i64 st] 32)).cell? ⟨w5.heap.size, 0, none⟩ = some (.bool true) := by simp [go_sem]
        have x1 : (w5.alloc (.cells #[.bool true, .int .i64 fi, .int .i64 pl, .int .i64 va, .int .i64 st] 32)).cell? ⟨w5.heap.size, 1, none⟩ = some (.int .i64 fi) := by simp [go_sem]
        have x2 : (w5.alloc (.cells #[.bool true, .int .i64 fi, .int .i64 pl, .int .i64 va, .int .i64 st] 32)).cell? ⟨w5.heap.size, 2, none⟩ = some (.int .i64 pl) := by simp [go_sem]
        have x3 : (w5.alloc (.cells #[.bool true, .int .i64 fi, .int .i64 pl, .int .i64 va, .int .i64 st] 32)).cell? ⟨w5.heap.size, 3, none⟩ = some (.int .i64 va) := by simp [go_sem]
        have x4 : (w5.alloc (.cells #[.bool true, .int .i64 fi, .int .i64 pl, .int .i64 va, .int .i64 st] 32)).cell? ⟨w5.heap.size, 4, none⟩ = some (.int .i64 st) := by simp [go_sem]
        have zx6 : w5.heap.size < (w5.alloc (.cells #[.bool true, .int .i64 fi, .int .i64 pl, .int .i64 va, .int .i64 st] 32)).heap.size := by simp
        have HX6 := Lib.hid (HX.out.keep HV6.out)
        have HP6 := Lib.hid (HP.out.keep HV6.out)
        have HB6 := Lib.hid (bel_t HB5.out HV6.out)
        clear HV6 HX HP
        generalize w5.alloc (.cells #[.bool true, .int .i64 fi, .int .i64 pl, .int .i64 va, .int .i64 st] 32) = w6 at *
        go_loopw [15] (fun x15 wr => ∃ o : Nat, o ≤ 3 ∧ x15 = .int .i64 (o : Int) ∧ Hid (Below w6.heap.size w6 wr)) (fun x15 _ => 3 - (intOf x15).toNat)
        case atStart => exact ⟨0, by omega, rfl, Below.refl _ _⟩
        case round =>
          obtain ⟨o, ho, rfl, HB⟩ := hrel
          replace q0 := stays_below HB.out _ _ _ q0
          replace q1 := stays_below HB.out _ _ _ q1
          replace q2 := stays_below HB.out _ _ _ q2
          replace p0 := stays_below HB.out _ _ _ p0
          replace p1 := stays_below HB.out _ _ _ p1
          replace p2 := stays_below HB.out _ _ _ p2
          replace p3 := stays_below HB.out _ _ _ p3
          replace p4 := stays_below HB.out _ _ _ p4
          replace y0 := stays_below HB.out _ _ _ y0
          replace y1 := stays_below HB.out _ _ _ y1
          replace y2 := stays_below HB.out _ _ _ y2
          replace z0 := stays_below HB.out _ _ _ z0
          replace z1 := stays_below HB.out _ _ _ z1
          replace z2 := stays_below HB.out _ _ _ z2
          replace x0 := stays_below HB.out _ _ _ x0
          replace x1 := stays_below HB.out _ _ _ x1
          replace x2 := stays_below HB.out _ _ _ x2
          replace x3 := stays_below HB.out _ _ _ x3
          replace x4 := stays_below HB.out _ _ _ x4
          have zqr : w1.heap.size < wr.heap.size := block_lt_of_cell q0
          have zpr : w1.heap.size + 1 < wr.heap.size := block_lt_of_cell p0
          have zyr : w2.heap.size < wr.heap.size := block_lt_of_cell y0
          have zxr : w5.heap.size < wr.heap.size := block_lt_of_cell x0
          have HXr := Lib.hid (HX6.out.keep HB.out)
          have HPr := Lib.hid (HP6.out.keep HB.out)
          have HBr := Lib.hid (bel_t HB6.out HB.out)
          by_cases ho3 : o = 3
          · subst ho3
            go_wp2_with fail
            refine (iHeadsValid _ _ _ E _ _ _ _ HXr.out).mono ?_
            rw [HV2.out]
            rintro e w7 ⟨rfl, hb7⟩
            replace q0 := stays_below hb7 _ _ _ q0
            replace q1 := stays_below hb7 _ _ _ q1
            replace q2 := stays_below hb7 _ _ _ q2
            replace p0 := stays_below hb7 _ _ _ p0
            replace p1 := stays_below hb7 _ _ _ p1
            replace p2 := stays_below hb7 _ _ _ p2
            replace p3 := stays_below hb7 _ _ _ p3
            replace p4 := stays_below hb7 _ _ _ p4
            replace y0 := stays_below hb7 _ _ _ y0
            replace y1 := stays_below hb7 _ _ _ y1
            replace y2 := stays_below hb7 _ _ _ y2
            replace z0 := stays_below hb7 _ _ _ z0
            replace z1 := stays_below hb7 _ _ _ z1
            replace z2 := stays_below hb7 _ _ _ z2
            replace x0 := stays_below hb7 _ _ _ x0
            replace x1 := stays_below hb7 _ _ _ x1
            replace x2 := stays_below hb7 _ _ _ x2
            replace x3 := stays_below hb7 _ _ _ x3
            replace x4 := stays_below hb7 _ _ _ x4
            have HX7 := Lib.hid (HXr.out.keep hb7)
            have HP7 := Lib.hid (HPr.out.keep hb7)
            have HB7 := Lib.hid (bel_t HBr.out hb7)
            have zq7 : w1.heap.size < w7.heap.size := block_lt_of_cell q0
            have zp7 : w1.heap.size + 1 < w7.heap.size := block_lt_of_cell p0
            have zy7 : w2.heap.size < w7.heap.size := block_lt_of_cell y0
            have zx7 : w5.heap.size < w7.heap.size := block_lt_of_cell x0
            clear hb7
            go_wp2_with fail
            refine (iHeadOf _ _ _ E _ _ _ _ _ HX7.out).mono ?_
            rw [HHO.out]
            rintro e w8 ⟨rfl, hb8⟩
            have HX8 := Lib.hid (HX7.out.keep hb8)
            have HP8 := Lib.hid (HP7.out.keep hb8)
            have HB8 := Lib.hid (bel_t HB7.out hb8)
            clear hb8
            go_wp2_with fail
            refine (iFreePages _ _ _ E _ HX8.out).mono ?_
            rw [HFR.out]
            rintro e w9 ⟨rfl, hb9⟩
            have HP9 := Lib.hid (HP8.out.keep hb9)
            have HB9 := Lib.hid (bel_t HB8.out hb9)
            clear hb9
            go_wp2_with fail
            refine (iFreePages _ _ _ ds _ HP9.out).mono ?_
            rw [HFP.out]
            rintro e w10 ⟨rfl, hb10⟩
            have HB10 := Lib.hid (bel_t HB9.out hb10)
            clear hb10
            go_wp2
            go_ret
            exact ⟨rfl, HB10.out⟩
          · have hoI : (o : Int) < 3 := by omega
            by_cases hot : (o : Int) = t
            · have hotb : ((o : Int) != t) = false := by simpa using hot
              clear hot
              go_wp2_with fail
              refine reg_begin (by kernel_rfl) (fun hHeld => ?_)
              refine reg_take 0 95 (v := ?_) rfl rfl (by kernel_rfl) (by kernel_rfl) (by kernel_rfl) (fun _ _ _ h => h) (Or.inl ⟨by rfl, ?_⟩) hHeld ?_
              rotate_left 1
              · intro wS hSw; go_simp <;> with_reducible rfl
              simp only [put_lit, List.set_cons_zero, List.set_cons_succ]
              refine reg_take 1 96 (v := ?_) rfl rfl (by kernel_rfl) (by kernel_rfl) (by kernel_rfl) (fun _ _ _ h => h) (Or.inl ⟨by rfl, ?_⟩) hHeld ?_
              rotate_left 1
              · intro wS hSw; go_simp <;> with_reducible rfl
              simp only [put_lit, List.set_cons_zero, List.set_cons_succ]
              refine reg_take 2 97 (v := ?_) rfl rfl (by kernel_rfl) (by kernel_rfl) (by kernel_rfl) (fun _ _ _ h => h) (Or.inl ⟨by rfl, ?_⟩) hHeld ?_
              rotate_left 1
              · intro wS hSw; go_simp <;> with_reducible rfl
              simp only [put_lit, List.set_cons_zero, List.set_cons_succ]
              refine reg_take 3 98 (v := ?_) rfl rfl (by kernel_rfl) (by kernel_rfl) (by kernel_rfl) (fun _ _ _ h => h) (Or.inl ⟨by rfl, ?_⟩) hHeld ?_
              rotate_left 1
              · intro wS hSw; go_simp <;> with_reducible rfl
              simp only [put_lit, List.set_cons_zero, List.set_cons_succ]
              refine reg_take 4 99 (v := undef) rfl rfl (by kernel_rfl) (by kernel_rfl) (by kernel_rfl) (fun _ _ _ h => h) (Or.inr ⟨by rfl, rfl⟩) hHeld ?_
              simp only [put_lit, List.set_cons_zero, List.set_cons_succ]
              refine reg_take 5 100 (v := undef) rfl rfl (by kernel_rfl) (by kernel_rfl) (by kernel_rfl) (fun _ _ _ h => h) (Or.inr ⟨by rfl, rfl⟩) hHeld ?_
              simp only [put_lit, List.set_cons_zero, List.set_cons_succ]
              refine reg_take 6 101 (v := undef) rfl rfl (by kernel_rfl) (by kernel_rfl) (by kernel_rfl) (fun _ _ _ h => h) (Or.inr ⟨by rfl, rfl⟩) hHeld ?_
              simp only [put_lit, List.set_cons_zero, List.set_cons_succ]
              refine reg_take 7 102 (v := undef) rfl rfl (by kernel_rfl) (by kernel_rfl) (by kernel_rfl) (fun _ _ _ h => h) (Or.inr ⟨by rfl, rfl⟩) hHeld ?_
              simp only [put_lit, List.set_cons_zero, List.set_cons_succ]
              refine reg_take 8 103 (v := undef) rfl rfl (by kernel_rfl) (by kernel_rfl) (by kernel_rfl) (fun _ _ _ h => h) (Or.inr ⟨by rfl, rfl⟩) hHeld ?_
              simp only [put_lit, List.set_cons_zero, List.set_cons_succ]
              refine reg_take 9 104 (v := undef) rfl rfl (by kernel_rfl) (by kernel_rfl) (by kernel_rfl) (fun _ _ _ h => h) (Or.inr ⟨by rfl, rfl⟩) hHeld ?_
              simp only [put_lit, List.set_cons_zero, List.set_cons_succ]
              refine reg_take 10 105 (v := undef) rfl rfl (by kernel_rfl) (by kernel_rfl) (by kernel_rfl) (fun _ _ _ h => h) (Or.inr ⟨by rfl, rfl⟩) hHeld ?_
              simp only [put_lit, List.set_cons_zero, List.set_cons_succ]
              refine reg_take 11 106 (v := undef) rfl rfl (by kernel_rfl) (by kernel_rfl) (by kernel_rfl) (fun _ _ _ h => h) (Or.inr ⟨by rfl, rfl⟩) hHeld ?_
              simp only [put_lit, List.set_cons_zero, List.set_cons_succ]
              refine reg_take 12 107 (v := undef) rfl rfl (by kernel_rfl) (by kernel_rfl) (by kernel_rfl) (fun _ _ _ h => h) (Or.inr ⟨by rfl, rfl⟩) hHeld ?_
              simp only [put_lit, List.set_cons_zero, List.set_cons_succ]
              refine reg_take 13 108 (v := ?_) rfl rfl (by kernel_rfl) (by kernel_rfl) (by kernel_rfl) (fun _ _ _ h => h) (Or.inl ⟨by rfl, ?_⟩) hHeld ?_
              rotate_left 1
              · intro wS hSw; go_simp <;> with_reducible rfl
              simp only [put_lit, List.set_cons_zero, List.set_cons_succ]
              refine wpAnyH_done (by kernel_rfl) ?_ _
              go_wp2
              go_round
              case rel => exact ⟨o + 1, by omega, by go_num, (bel_t HB.out hHeld : Below _ _ _)⟩
              case measure => simp [intOf]; omega
            · have hotb : ((o : Int) != t) = true := by simpa using hot
              have ho1 := HOT.out (o : Int) (by omega) (by omega) hot
              obtain ⟨vo, HVO⟩ : ∃ v, Hid (headOfF ds g h k (o : Int) = v) := ⟨_, rfl⟩
              rw [HVO.out] at ho1
              have HVE := Lib.hid ho1
              clear ho1
              go_wp2_with fail
              refine reg_begin (by kernel_rfl) (fun hHeld => ?_)
              refine reg_take 0 95 (v := ?_) rfl rfl (by kernel_rfl) (by kernel_rfl) (by kernel_rfl) (fun _ _ _ h => h) (Or.inl ⟨by rfl, ?_⟩) hHeld ?_
              rotate_left 1
              · intro wS hSw; go_simp <;> with_reducible rfl
              simp only [put_lit, List.set_cons_zero, List.set_cons_succ]
              refine reg_take 1 96 (v := ?_) rfl rfl (by kernel_rfl) (by kernel_rfl) (by kernel_rfl) (fun _ _ _ h => h) (Or.inl ⟨by rfl, ?_⟩) hHeld ?_
              rotate_left 1
              · intro wS hSw; go_simp <;> with_reducible rfl
              simp only [put_lit, List.set_cons_zero, List.set_cons_succ]
              refine reg_take 2 97 (v := ?_) rfl rfl (by kernel_rfl) (by kernel_rfl) (by kernel_rfl) (fun _ _ _ h => h) (Or.inl ⟨by rfl, ?_⟩) hHeld ?_
              rotate_left 1
              · intro wS hSw; go_simp <;> with_reducible rfl
              simp only [put_lit, List.set_cons_zero, List.set_cons_succ]
              refine reg_take 3 98 (v := ?_) rfl rfl (by kernel_rfl) (by kernel_rfl) (by kernel_rfl) (fun _ _ _ h => h) (Or.inl ⟨by rfl, ?_⟩) hHeld ?_
              rotate_left 1
              · intro wS hSw; go_simp <;> with_reducible rfl
              simp only [put_lit, List.set_cons_zero, List.set_cons_succ]
              refine reg_take 4 99 (v := ?_) rfl rfl (by kernel_rfl) (by kernel_rfl) (by kernel_rfl) (fun _ _ _ h => h) (Or.inl ⟨by rfl, ?_⟩) hHeld ?_
              rotate_left 1
              · intro wS hSw; go_simp <;> with_reducible rfl
              simp only [put_lit, List.set_cons_zero, List.set_cons_succ]
              refine reg_take 5 100 (v := ?_) rfl rfl (by kernel_rfl) (by kernel_rfl) (by kernel_rfl) (fun _ _ _ h => h) (Or.inl ⟨by rfl, ?_⟩) hHeld ?_
              rotate_left 1
              · intro wS hSw; have hqS := bcellB hSw; go_simp <;> with_reducible rfl
              simp only [put_lit, List.set_cons_zero, List.set_cons_succ]
              refine reg_take 6 101 (v := ?_) rfl rfl (by kernel_rfl) (by kernel_rfl) (by kernel_rfl) (fun _ _ _ h => h) (Or.inl ⟨by rfl, ?_⟩) hHeld ?_
              rotate_left 1
              · intro wS hSw; go_simp <;> with_reducible rfl
              simp only [put_lit, List.set_cons_zero, List.set_cons_succ]
              refine reg_take 8 103 (v := ?_) rfl rfl (by kernel_rfl) (by kernel_rfl) (by kernel_rfl) (fun _ _ _ h => h) (Or.inl ⟨by rfl, ?_⟩) hHeld ?_
              rotate_left 1
              · intro wS hSw; go_simp <;> with_reducible rfl
              simp only [put_lit, List.set_cons_zero, List.set_cons_succ]
              refine reg_take 9 104 (v := ?_) rfl rfl (by kernel_rfl) (by kernel_rfl) (by kernel_rfl) (fun _ _ _ h => h) (Or.inl ⟨by rfl, ?_⟩) hHeld ?_
              rotate_left 1
              · intro wS hSw; have hqS := bcellB hSw; go_simp <;> with_reducible rfl
              simp only [put_lit, List.set_cons_zero, List.set_cons_succ]
              refine reg_take 10 105 (v := ?_) rfl rfl (by kernel_rfl) (by kernel_rfl) (by kernel_rfl) (fun _ _ _ h => h) (Or.inl ⟨by rfl, ?_⟩) hHeld ?_
              rotate_left 1
              · intro wS hSw; go_simp <;> with_reducible rfl
              simp only [put_lit, List.set_cons_zero, List.set_cons_succ]
              refine wpAnyH_ready (rs := [7]) (by kernel_rfl) (by simp) ?_
              refine AllReadyH.cons rfl (fun K hK => ?_) AllReadyH.nil
              go_simp
              (refine (iHeadOf _ _ _ E _ _ _ _ _ (HXr.out.keep hHeld)).mono ?_; rw [HVE.out])
              rintro e wo1 ⟨rfl, hbo1⟩
              go_wp2_with fail
              refine hK.out _ _ ?_ (fun hHeld => ?_)
              · exact reg_call hHeld hbo1 (Nat.le_refl _)
              clear hK K
              (try simp only [put_lit, List.set_cons_zero, List.set_cons_succ])
              refine wpAnyH_ready (rs := [11]) (by kernel_rfl) (by simp) ?_
              refine AllReadyH.cons rfl (fun K hK => ?_) AllReadyH.nil
              go_simp
              (refine (iHeadOf _ _ _ ds _ _ _ _ _ (HPr.out.keep hHeld)).mono ?_; rw [HVO.out])
              rintro e wo2 ⟨rfl, hbo2⟩
              go_wp2_with fail
              refine hK.out _ _ ?_ (fun hHeld => ?_)
              · exact reg_call hHeld hbo2 (Nat.le_refl _)
              clear hK K
              (try simp only [put_lit, List.set_cons_zero, List.set_cons_succ])
              refine reg_take 12 107 (v := ?_) rfl rfl (by kernel_rfl) (by kernel_rfl) (by kernel_rfl) (fun _ _ _ h => h) (Or.inl ⟨by rfl, ?_⟩) hHeld ?_
              rotate_left 1
              · intro wS hSw; go_simp <;> with_reducible rfl
              simp only [put_lit, List.set_cons_zero, List.set_cons_succ]
              refine reg_take 13 108 (v := ?_) rfl rfl (by kernel_rfl) (by kernel_rfl) (by kernel_rfl) (fun _ _ _ h => h) (Or.inl ⟨by rfl, ?_⟩) hHeld ?_
              rotate_left 1
              · intro wS hSw; go_simp <;> with_reducible rfl
              simp only [put_lit, List.set_cons_zero, List.set_cons_succ]
              refine wpAnyH_done (by kernel_rfl) ?_ _
              go_wp2
              go_round
              case rel => exact ⟨o + 1, by omega, by go_num, (bel_t HB.out hHeld : Below _ _ _)⟩
              case measure => simp [intOf]; omega
    · have he := HE.out.symm.trans (ap_no ds g h k t _ hval)
      simp only [App.mk.injEq] at he
      obtain ⟨rfl, rfl, rfl, rfl, rfl⟩ := he
      clear hval HE
      simp only [List.length_nil] at *
      have heh := eql_heads 0 0 0 g h k
      obtain ⟨bb, hbb⟩ : ∃ bb, ((0 == g) && (0 == h) && (0 == k)) = bb := ⟨_, rfl⟩
      rw [hbb] at heh
      have hez := eql_heads 0 0 0 0 0 0
      simp only [beq_self_eq_true, Bool.and_self] at hez
      clear hbb
      go_wp2_with fail
      refine (sameDevice_any _ _ _ _ _ _ [] ds _ HX.out HP.out).mono ?_
      rintro e w5 ⟨r5, rfl, hr5, hb5⟩
      have HV5 := Lib.hid (hb5)
      have HB5 := Lib.hid (bel_t HB4.out HV5.out)
      replace q0 := stays_below HV5.out _ _ _ q0
      replace q1 := stays_below HV5.out _ _ _ q1
      replace q2 := stays_below HV5.out _ _ _ q2
      replace p0 := stays_below HV5.out _ _ _ p0
      replace p1 := stays_below HV5.out _ _ _ p1
      replace p2 := stays_below HV5.out _ _ _ p2
      replace p3 := stays_below HV5.out _ _ _ p3
      replace p4 := stays_below HV5.out _ _ _ p4
      replace y0 := stays_below HV5.out _ _ _ y0
      replace y1 := stays_below HV5.out _ _ _ y1
      replace y2 := stays_below HV5.out _ _ _ y2
      replace z0 := stays_below HV5.out _ _ _ z0
      replace z1 := stays_below HV5.out _ _ _ z1
      replace z2 := stays_below HV5.out _ _ _ z2
      replace HP := Lib.hid (HP.out.keep HV5.out)
      replace HX := Lib.hid (HX.out.keep HV5.out)
      have zq0_5 : w1.heap.size < w5.heap.size := block_lt_of_cell q0
      have zp0_5 : w1.heap.size + 1 < w5.heap.size := block_lt_of_cell p0
      have zy0_5 : w2.heap.size < w5.heap.size := block_lt_of_cell y0
      have zz0_5 : w3.heap.size < w5.heap.size := block_lt_of_cell z0
      clear hb5
      clear hr5
      cases r5
      all_goals cases bb
      all_goals
        go_wp2_with (go_at_call 18; refine (alive_any _).mono ?_; rintro e w' ⟨rfl, rfl⟩)
        go_ret
        exact ⟨rfl, HB5.out⟩

namespace fnAppendPage
open Go.ChangeShapes Go.WideShapes Go.ChangeAt Go.RowKit
theorem own : ownKnob Try.prog.godebug = none := by kernel_rfl
theorem laidOut : laidOutB Try.prog = true := by kernel_rfl
theorem spec_ok : LawSpec Rows.fnAppendPageSpec 1 := ⟨rfl, fun H ds h => by
  match ds, h with
  | [_], _ => exact ⟨rfl, rfl, rfl⟩⟩
theorem rd22 : Try.prog.readableRec 22 = true ∧ 22 < Try.prog.types.size := ⟨by kernel_rfl, of_decide_eq_true (by kernel_rfl)⟩
set_option maxRecDepth 100000 in
theorem lifted (os : Os) (started : os.Started) (H : Type) (enc : TypeId × Value → H) :
    ReturnsInHanded {} Try.checked os 14 .any (Rows.fnAppendPageSpec.pre6 enc Try.prog Try.f14 Rows.fnAppendPageRow.domain false) (Rows.fnAppendPageSpec.post enc Try.prog Try.f14 false true false false) := by
  refine law_lifted (C := Try.checked) (tb := 4) own started (by kernel_rfl) Try.func14 laidOut ?_ spec_ok (by rfl) Try.underlying4
    (ChangeSpec.witness6 (enc := enc) (C := Try.checked) false ⟨#[], #[.slice none 0 0], []⟩ 8 (by kernel_rfl) (by kernel_rfl) (by kernel_rfl) (by kernel_rfl)) ?_
  · rw [Try.params14]
    intro t ht
    simp only [List.mem_cons, List.not_mem_nil, or_false] at ht
    subst ht
    exact rd22
  · intro W base args ds ps hval0 hA0
    have hval : ∀ (j : Nat) t v, Try.f14.params[j]? = some t → args[j]? = some v → Value.okWide Try.prog W .any base t v := hval0
    have hA : DataW.TrodAll enc Try.prog W 0 (fun _ => true) true Try.f14.params.toList args.toList ds ps := hA0
    clear hval0 hA0
    rw [Try.params14] at hA hval
    obtain ⟨v0, vs0, d0, ds0, p0, q0, hargs, rfl, rfl, h0, r0⟩ := trodAll_cons hA
    obtain ⟨rfl, rfl, rfl⟩ := trodAll_nil r0
    obtain rfl : args = #[v0] := by cases args; simp_all
    obtain ⟨x0, rfl, hx0⟩ := open_c Try.underlying22 Try.underlying5 (by kernel_rfl) (hval 0 22 v0 rfl rfl) h0
    exact walk_FnAppendPage x0 W hx0

theorem over : Rows.fnAppendPageRow.holds Try.pinned (OpenSpec.ofChange Rows.fnAppendPageSpec) :=
  OpenClaim.holds_of_wide 14 Try.f14 rfl rfl rfl rfl rfl rfl rfl ⟨rfl, rfl, rfl, rfl, rfl⟩ rfl rfl rfl rfl rfl (by kernel_rfl) Try.func14 (by kernel_rfl)
    (of_decide_eq_true (by kernel_rfl)) (by unfold Func.isWrapper; first | (rw [if_pos (by decide +kernel)]; kernel_rfl) | (rw [if_neg (by decide +kernel)]; exact ⟨rfl, rfl⟩))
    (fun os started H enc _ => lifted os started H enc)

theorem proved : Rows.FnAppendPageSaid :=
  over
#print axioms proved
end fnAppendPage
end Go.Proofs.Yteekikaebmkioaa
