/- The law FnWriteBlock: for every code, of whatever length, the law returns true. No conditions. -/
import Derived.Test.YteekikaebmkioaaRows
import Derived.Test.YteekikaebmkioaaOpenC
import Derived.Test.YteekikaebmkioaaAlive
import Derived.Test.YteekikaebmkioaaSame
import Derived.Test.YteekikaebmkioaaDraws5
import Derived.Test.YteekikaebmkioaaWrite
import Derived.Test.YteekikaebmkioaaPageEq
namespace Go.Proofs.Yteekikaebmkioaa
open Go.RowKit
set_option linter.unusedVariables false

theorem wb_no (b : Bl) (p : Pg) (h : ¬ (blockValidF b = true ∧ pageValidF p = true ∧ p.full = true)) : writeBlockF b p = (Bl.zero, -1) := by
  cases h1 : blockValidF b
  · exact wb_1 b p h1
  · cases h2 : pageValidF p
    · exact wb_2 b p h2
    · cases h3 : p.full
      · exact wb_3 b p h3
      · exact absurd ⟨h1, h2, h3⟩ h
theorem PgsAt.take {w : World} {A : Option Addr} {n : Nat} {ps : List Pg} (h : PgsAt w A n ps) (j : Nat) (hj : j ≤ n) : PgsAt w A j (ps.take j) := by
  refine ⟨by rw [List.length_take, h.1]; omega, by have := h.2.1; omega, fun h0 => ?_⟩
  obtain ⟨b, o, e, hc⟩ := h.2.2 (by omega)
  refine ⟨b, o, e, fun i hi => ?_⟩
  have e2 : pgAt (ps.take j) i = pgAt ps i := by simp [pgAt, List.getD, hi]
  rw [e2]
  exact hc i (by omega)
theorem take_set (ps : List Pg) (j : Nat) (p : Pg) : (ps.set j p).take j = ps.take j := by
  refine List.ext_getElem? fun i => ?_
  rw [List.getElem?_take, List.getElem?_take]
  split
  · rw [List.getElem?_set_ne (by omega)]
  · rfl

set_option maxRecDepth 100000 in
set_option maxHeartbeats 4000000 in
theorem walk_FnWriteBlock (x : Cd) (w : World) (hx : CodeArg w x) :
    Calls Try.prog 5 #[x.val] w fun e w' => e = .returned (.bool true) ∧ Below w.heap.size w w' := by
  have h1 := hx.1
  have h2 := hx.2.1
  unfold maxLen at h2
  simp only [Cd.val]
  by_cases hbig : 1048576 < x.n
  · go_enter Try.func5, Try.ntmps5
    go_wp2
    go_ret
    exact ⟨rfl, Below.refl _ _⟩
  · go_enter Try.func5, Try.ntmps5
    have HB0 : Hid (Below w.heap.size w w) := Lib.hid (Below.refl _ _)
    go_wp2_with fail
    refine (dWriteBlock x _ hx).mono ?_
    rintro e w1 ⟨z, A, m, c, ps, ⟨f, fi, pl, va, st⟩, rfl, hmc, hm4, hP1, hb1⟩
    have HB1 := Lib.hid hb1
    have HP := Lib.hid hP1
    clear hb1 hP1
    simp only [Pg.val]
    by_cases hval : blockValidF ⟨z, ps⟩ = true ∧ pageValidF ⟨f, fi, pl, va, st⟩ = true ∧ f = true
    · obtain ⟨hv, hp, rfl⟩ := hval
      obtain rfl : m = 4 := HP.out.1.symm.trans (bv_len _ hv)
      have HV := Lib.hid hv
      have HPV := Lib.hid hp
      clear hv hp hm4
      obtain ⟨wb, HWB⟩ : ∃ r, Hid (writeBlockF ⟨z, ps⟩ ⟨true, fi, pl, va, st⟩ = r) := ⟨_, rfl⟩
      go_wp2_with fail
      refine (iWriteBlockC _ _ _ _ ps _ _ _ _ _ (HP.out.keep (bel_2 _ _ _)) HV.out HPV.out).mono ?_
      rw [HWB.out]
      rintro e w2 ⟨g2, c2, rfl, hcc2, hg2, hR2, hb2⟩
      have HV2 := Lib.hid (bel_t (bel_2 _ _ _) hb2)
      have HB2 := Lib.hid (bel_t HB1.out HV2.out)
      replace HP := Lib.hid (HP.out.keep HV2.out)
      have b0 : w2.cell? ⟨w1.heap.size, 0, none⟩ = some (.int .i64 z) := stays_below hb2 _ _ _ (by simp [go_sem])
      have b1 : w2.cell? ⟨w1.heap.size, 1, none⟩ = some (.slice A 4 c) := stays_below hb2 _ _ _ (by simp [go_sem])
      have p0 : w2.cell? ⟨w1.heap.size + 1, 0, none⟩ = some (.bool true) := stays_below hb2 _ _ _ (by simp [go_sem])
      have p1 : w2.cell? ⟨w1.heap.size + 1, 1, none⟩ = some (.int .i64 fi) := stays_below hb2 _ _ _ (by simp [go_sem])
      have p2 : w2.cell? ⟨w1.heap.size + 1, 2, none⟩ = some (.int .i64 pl) := stays_below hb2 _ _ _ (by simp [go_sem])
      have p3 : w2.cell? ⟨w1.heap.size + 1, 3, none⟩ = some (.int .i64 va) := stays_below hb2 _ _ _ (by simp [go_sem])
      have p4 : w2.cell? ⟨w1.heap.size + 1, 4, none⟩ = some (.int .i64 st) := stays_below hb2 _ _ _ (by simp [go_sem])
      have zb0_2 : w1.heap.size < w2.heap.size := block_lt_of_cell b0
      have zp0_2 : w1.heap.size + 1 < w2.heap.size := block_lt_of_cell p0
      clear hb2
      have HXR := Lib.hid hR2
      clear hR2
      have hg2s : g2 < w2.heap.size := HXR.out.2.1
      have hg2w : w1.heap.size + 1 < g2 := by have h9 := hg2; simp at h9; omega
      go_wp2_with fail
      refine (sWriteBlockC _ _ _ _ ps _ _ _ _ _ (HP.out.keep (bel_1 _ _)) HV.out HPV.out).mono ?_
      rw [HWB.out]
      rintro e w3 ⟨g3, c3, rfl, hcc3, hg3, hR3, hb3⟩
      have HV3 := Lib.hid (bel_t (bel_1 _ _) hb3)
      have HB3 := Lib.hid (bel_t HB2.out HV3.out)
      replace b0 := stays_below HV3.out _ _ _ b0
      replace b1 := stays_below HV3.out _ _ _ b1
      replace p0 := stays_below HV3.out _ _ _ p0
      replace p1 := stays_below HV3.out _ _ _ p1
      replace p2 := stays_below HV3.out _ _ _ p2
      replace p3 := stays_below HV3.out _ _ _ p3
      replace p4 := stays_below HV3.out _ _ _ p4
      replace HP := Lib.hid (HP.out.keep HV3.out)
      replace HXR := Lib.hid (HXR.out.keep HV3.out)
      have x0 : w3.cell? ⟨w2.heap.size, 0, none⟩ = some (.int .i64 z) := stays_below hb3 _ _ _ (by simp [go_sem])
      have x1 : w3.cell? ⟨w2.heap.size, 1, none⟩ = some (.slice (some ⟨g2, 0, none⟩) 4 c2) := stays_below hb3 _ _ _ (by simp [go_sem])
      have zb0_3 : w1.heap.size < w3.heap.size := block_lt_of_cell b0
      have zp0_3 : w1.heap.size + 1 < w3.heap.size := block_lt_of_cell p0
      have zx0_3 : w2.heap.size < w3.heap.size := block_lt_of_cell x0
      clear hb3
      have HYR := Lib.hid hR3
      clear hR3
      go_wp2_with fail
      refine (sameBlock_any _ _ _ _ _ _ _ _ wb.1.pages wb.1.pages _ ((HXR.out.keep (bel_1 _ _)).at (by omega)) ((HYR.out.keep (bel_1 _ _)).at (by omega))).mono ?_
      rintro e w4 ⟨r4, rfl, hr4, hb4⟩
      have HV4 := Lib.hid (bel_t (bel_1 _ _) hb4)
      have HB4 := Lib.hid (bel_t HB3.out HV4.out)
      replace b0 := stays_below HV4.out _ _ _ b0
      replace b1 := stays_below HV4.out _ _ _ b1
      replace p0 := stays_below HV4.out _ _ _ p0
      replace p1 := stays_below HV4.out _ _ _ p1
      replace p2 := stays_below HV4.out _ _ _ p2
      replace p3 := stays_below HV4.out _ _ _ p3
      replace p4 := stays_below HV4.out _ _ _ p4
      replace x0 := stays_below HV4.out _ _ _ x0
      replace x1 := stays_below HV4.out _ _ _ x1
      replace HP := Lib.hid (HP.out.keep HV4.out)
      replace HXR := Lib.hid (HXR.out.keep HV4.out)
      replace HYR := Lib.hid (HYR.out.keep HV4.out)
      have y0 : w4.cell? ⟨w3.heap.size, 0, none⟩ = some (.int .i64 z) := stays_below hb4 _ _ _ (by simp [go_sem])
      have y1 : w4.cell? ⟨w3.heap.size, 1, none⟩ = some (.slice (some ⟨g3, 0, none⟩) 4 c3) := stays_below hb4 _ _ _ (by simp [go_sem])
      have zb0_4 : w1.heap.size < w4.heap.size := block_lt_of_cell b0
      have zp0_4 : w1.heap.size + 1 < w4.heap.size := block_lt_of_cell p0
      have zx0_4 : w2.heap.size < w4.heap.size := block_lt_of_cell x0
      have zy0_4 : w3.heap.size < w4.heap.size := block_lt_of_cell y0
      clear hb4
      obtain rfl := hr4 rfl rfl
      clear hr4 HYR
      by_cases h0 : blockNextF ⟨z, ps⟩ < 0
      · have hn := bn_none ⟨z, ps⟩ HV.out h0
        obtain rfl : wb = (⟨z, ps⟩, -1) := HWB.out.symm.trans (wb_5 _ _ (-1) HV.out HPV.out rfl hn.1 (by omega))
        simp only [] at *
        clear h0 hn
        go_wp2_with fail
        refine (sameBlock_any _ _ _ _ _ _ _ _ ps ps _ (HXR.out.at (by omega)) HP.out).mono ?_
        rintro e w5 ⟨r5, rfl, hr5, hb5⟩
        have HV5 := Lib.hid (hb5)
        have HB5 := Lib.hid (bel_t HB4.out HV5.out)
        replace b0 := stays_below HV5.out _ _ _ b0
        replace b1 := stays_below HV5.out _ _ _ b1
        replace p0 := stays_below HV5.out _ _ _ p0
        replace p1 := stays_below HV5.out _ _ _ p1
        replace p2 := stays_below HV5.out _ _ _ p2
        replace p3 := stays_below HV5.out _ _ _ p3
        replace p4 := stays_below HV5.out _ _ _ p4
        replace x0 := stays_below HV5.out _ _ _ x0
        replace x1 := stays_below HV5.out _ _ _ x1
        replace y0 := stays_below HV5.out _ _ _ y0
        replace y1 := stays_below HV5.out _ _ _ y1
        replace HP := Lib.hid (HP.out.keep HV5.out)
        replace HXR := Lib.hid (HXR.out.keep HV5.out)
        have zb0_5 : w1.heap.size < w5.heap.size := block_lt_of_cell b0
        have zp0_5 : w1.heap.size + 1 < w5.heap.size := block_lt_of_cell p0
        have zx0_5 : w2.heap.size < w5.heap.size := block_lt_of_cell x0
        have zy0_5 : w3.heap.size < w5.heap.size := block_lt_of_cell y0
        clear hb5
        obtain rfl := hr5 rfl rfl
        go_wp2_with (go_at_call 18; refine (alive_any _).mono ?_; rintro e w' ⟨rfl, rfl⟩)
        go_ret
        exact ⟨rfl, HB5.out⟩
      · obtain ⟨j, hj⟩ : ∃ j : Nat, blockNextF ⟨z, ps⟩ = (j : Int) := ⟨(blockNextF ⟨z, ps⟩).toNat, by omega⟩
        have hj4 := (bn_at _ j HV.out hj).1
        have hjI : (j : Int) < 4 := by omega
        have hpos : (0 : Int) ≤ (j : Int) := by omega
        obtain rfl : wb = (⟨z, ps.set j ⟨true, fi, pl, va, st⟩⟩, (j : Int)) := HWB.out.symm.trans (wb_4 _ _ j HV.out HPV.out rfl hj)
        simp only [] at *
        have HVX := Lib.hid (bv_put ⟨z, ps⟩ ⟨true, fi, pl, va, st⟩ j HV.out HPV.out rfl hj)
        have hbn := bn_put ⟨z, ps⟩ ⟨true, fi, pl, va, st⟩ j HV.out HPV.out rfl hj
        have HNB := Lib.hid hj
        obtain ⟨nx, HNX⟩ : ∃ v, Hid (blockNextF ⟨z, ps.set j ⟨true, fi, pl, va, st⟩⟩ = v) := ⟨_, rfl⟩
        simp only [HNX.out] at hbn
        clear h0 hj
        go_wp2_with fail
        refine (iBlockNext _ _ _ _ (ps.set j ⟨true, fi, pl, va, st⟩) _ (HXR.out.at (by omega))).mono ?_
        rw [HNX.out]
        rintro e w5 ⟨rfl, hb5⟩
        have HV5 := Lib.hid (hb5)
        have HB5 := Lib.hid (bel_t HB4.out HV5.out)
        replace b0 := stays_below HV5.out _ _ _ b0
        replace b1 := stays_below HV5.out _ _ _ b1
        replace p0 := stays_below HV5.out _ _ _ p0
        replace p1 := stays_below HV5.out _ _ _ p1
        replace p2 := stays_below HV5.out _ _ _ p2
        replace p3 := stays_below HV5.out _ _ _ p3
        replace p4 := stays_below HV5.out _ _ _ p4
        replace x0 := stays_below HV5.out _ _ _ x0
        replace x1 := stays_below HV5.out _ _ _ x1
        replace y0 := stays_below HV5.out _ _ _ y0
        replace y1 := stays_below HV5.out _ _ _ y1
        replace HP := Lib.hid (HP.out.keep HV5.out)
        replace HXR := Lib.hid (HXR.out.keep HV5.out)
        have zb0_5 : w1.heap.size < w5.heap.size := block_lt_of_cell b0
        have zp0_5 : w1.heap.size + 1 < w5.heap.size := block_lt_of_cell p0
        have zx0_5 : w2.heap.size < w5.heap.size := block_lt_of_cell x0
        have zy0_5 : w3.heap.size < w5.heap.size := block_lt_of_cell y0
        clear hb5
        obtain ⟨bb, oo, rfl, hC⟩ := HP.out.2.2 (by omega)
        clear hC
        have hzg : g2 < w5.heap.size := HXR.out.2.1
        have heq := eql_page true fi pl va st true fi pl va st
        rw [pgEq_refl] at heq
        have hps : ps.length = 4 := HP.out.1
        obtain ⟨e0, e1, e2, e3, e4⟩ := HXR.out.2.2.1 j hj4
        rw [pgAt_set _ _ _ _ (by omega), if_pos rfl] at e0 e1 e2 e3 e4
        simp only [] at e0 e1 e2 e3 e4
        have hw1 : IntKind.i64.wrap ((j : Int) + 1) = (j : Int) + 1 := IntWalk.i64_in _ (by omega)
        have hc2I : (j : Int) ≤ (c2 : Int) := by omega
        have hcI : (j : Int) ≤ (c : Int) := by omega
        rcases hbn with rfl | ⟨rfl, rfl⟩
        · go_wp2_with fail
          refine reg_begin (by kernel_rfl) (fun hHeld => ?_)
          refine reg_take 0 72 (v := ?_) rfl rfl (by kernel_rfl) (by kernel_rfl) (by kernel_rfl) (fun _ _ _ h => h) (Or.inl ⟨by rfl, ?_⟩) hHeld ?_
          rotate_left 1
          · intro wS hSw; have hqS := bcellB hSw; go_simp <;> with_reducible rfl
          simp only [put_lit, List.set_cons_zero, List.set_cons_succ]
          refine wpAnyH_ready (rs := [1]) (by kernel_rfl) (by simp) ?_
          refine AllReadyH.cons rfl (fun K hK => ?_) AllReadyH.nil
          go_simp
          refine (iBlockValid _ _ _ _ (ps.set j ⟨true, fi, pl, va, st⟩) _ ((HXR.out.keep hHeld).at (by omega))).mono ?_
          rw [HVX.out]
          rintro e ww1 ⟨rfl, hbw1⟩
          go_wp2_with fail
          refine hK.out _ _ ?_ (fun hHeld => ?_)
          · exact reg_call hHeld hbw1 (Nat.le_refl _)
          clear hK K
          (try simp only [put_lit, List.set_cons_zero, List.set_cons_succ])
          refine reg_take 2 74 (v := ?_) rfl rfl (by kernel_rfl) (by kernel_rfl) (by kernel_rfl) (fun _ _ _ h => h) (Or.inl ⟨by rfl, ?_⟩) hHeld ?_
          rotate_left 1
          · intro wS hSw; go_simp <;> with_reducible rfl
          simp only [put_lit, List.set_cons_zero, List.set_cons_succ]
          refine reg_take 3 75 (v := ?_) rfl rfl (by kernel_rfl) (by kernel_rfl) (by kernel_rfl) (fun _ _ _ h => h) (Or.inl ⟨by rfl, ?_⟩) hHeld ?_
          rotate_left 1
          · intro wS hSw; go_simp <;> with_reducible rfl
          simp only [put_lit, List.set_cons_zero, List.set_cons_succ]
          refine reg_take 4 76 (v := ?_) rfl rfl (by kernel_rfl) (by kernel_rfl) (by kernel_rfl) (fun _ _ _ h => h) (Or.inl ⟨by rfl, ?_⟩) hHeld ?_
          rotate_left 1
          · intro wS hSw; have hqS := bcellB hSw; go_simp <;> with_reducible rfl
          simp only [put_lit, List.set_cons_zero, List.set_cons_succ]
          refine wpAnyH_ready (rs := [5]) (by kernel_rfl) (by simp) ?_
          refine AllReadyH.cons rfl (fun K hK => ?_) AllReadyH.nil
          go_simp
          refine (iBlockNext _ _ _ _ ps _ (HP.out.keep hHeld)).mono ?_
          rw [HNB.out]
          rintro e ww2 ⟨rfl, hbw2⟩
          go_wp2_with fail
          refine hK.out _ _ ?_ (fun hHeld => ?_)
          · exact reg_call hHeld hbw2 (Nat.le_refl _)
          clear hK K
          (try simp only [put_lit, List.set_cons_zero, List.set_cons_succ])
          refine reg_take 6 78 (v := ?_) rfl rfl (by kernel_rfl) (by kernel_rfl) (by kernel_rfl) (fun _ _ _ h => h) (Or.inl ⟨by rfl, ?_⟩) hHeld ?_
          rotate_left 1
          · intro wS hSw; go_simp <;> with_reducible rfl
          simp only [put_lit, List.set_cons_zero, List.set_cons_succ]
          refine reg_take 7 79 (v := ?_) rfl rfl (by kernel_rfl) (by kernel_rfl) (by kernel_rfl) (fun _ _ _ h => h) (Or.inl ⟨by rfl, ?_⟩) hHeld ?_
          rotate_left 1
          · intro wS hSw; go_simp <;> with_reducible rfl
          simp only [put_lit, List.set_cons_zero, List.set_cons_succ]
          refine reg_take 8 80 (v := ?_) rfl rfl (by kernel_rfl) (by kernel_rfl) (by kernel_rfl) (fun _ _ _ h => h) (Or.inl ⟨by rfl, ?_⟩) hHeld ?_
          rotate_left 1
          · intro wS hSw; go_simp <;> with_reducible rfl
          simp only [put_lit, List.set_cons_zero, List.set_cons_succ]
          refine reg_take 9 81 (v := ?_) rfl rfl (by kernel_rfl) (by kernel_rfl) (by kernel_rfl) (fun _ _ _ h => h) (Or.inl ⟨by rfl, ?_⟩) hHeld ?_
          rotate_left 1
          · intro wS hSw; go_simp <;> with_reducible rfl
          simp only [put_lit, List.set_cons_zero, List.set_cons_succ]
          refine reg_take 10 82 (v := ?_) rfl rfl (by kernel_rfl) (by kernel_rfl) (by kernel_rfl) (fun _ _ _ h => h) (Or.inl ⟨by rfl, ?_⟩) hHeld ?_
          rotate_left 1
          · intro wS hSw; have hqS := bcellB hSw; go_simp <;> with_reducible rfl
          simp only [put_lit, List.set_cons_zero, List.set_cons_succ]
          refine reg_take 11 83 (v := ?_) rfl rfl (by kernel_rfl) (by kernel_rfl) (by kernel_rfl) (fun _ _ _ h => h) (Or.inl ⟨by rfl, ?_⟩) hHeld ?_
          rotate_left 1
          · intro wS hSw; go_simp <;> with_reducible rfl
          simp only [put_lit, List.set_cons_zero, List.set_cons_succ]
          refine reg_take 12 84 (v := ?_) rfl rfl (by kernel_rfl) (by kernel_rfl) (by kernel_rfl) (fun _ _ _ h => h) (Or.inl ⟨by rfl, ?_⟩) hHeld ?_
          rotate_left 1
          · intro wS hSw; go_simp <;> with_reducible rfl
          simp only [put_lit, List.set_cons_zero, List.set_cons_succ]
          refine reg_take 13 85 (v := ?_) rfl rfl (by kernel_rfl) (by kernel_rfl) (by kernel_rfl) (fun _ _ _ h => h) (Or.inl ⟨by rfl, ?_⟩) hHeld ?_
          rotate_left 1
          · intro wS hSw; have hqS := bcellB hSw; go_simp <;> with_reducible rfl
          simp only [put_lit, List.set_cons_zero, List.set_cons_succ]
          refine reg_take 14 86 (v := ?_) rfl rfl (by kernel_rfl) (by kernel_rfl) (by kernel_rfl) (fun _ _ _ h => h) (Or.inl ⟨by rfl, ?_⟩) hHeld ?_
          rotate_left 1
          · intro wS hSw; have hqS := bcellB hSw; go_simp <;> with_reducible rfl
          simp only [put_lit, List.set_cons_zero, List.set_cons_succ]
          refine reg_take 15 87 (v := ?_) rfl rfl (by kernel_rfl) (by kernel_rfl) (by kernel_rfl) (fun _ _ _ h => h) (Or.inl ⟨by rfl, ?_⟩) hHeld ?_
          rotate_left 1
          · intro wS hSw; go_simp <;> with_reducible rfl
          simp only [put_lit, List.set_cons_zero, List.set_cons_succ]
          refine reg_take 16 88 (v := ?_) rfl rfl (by kernel_rfl) (by kernel_rfl) (by kernel_rfl) (fun _ _ _ h => h) (Or.inl ⟨by rfl, ?_⟩) hHeld ?_
          rotate_left 1
          · intro wS hSw; go_simp <;> with_reducible rfl
          simp only [put_lit, List.set_cons_zero, List.set_cons_succ]
          refine reg_take 17 89 (v := ?_) rfl rfl (by kernel_rfl) (by kernel_rfl) (by kernel_rfl) (fun _ _ _ h => h) (Or.inl ⟨by rfl, ?_⟩) hHeld ?_
          rotate_left 1
          · intro wS hSw; go_simp <;> with_reducible rfl
          simp only [put_lit, List.set_cons_zero, List.set_cons_succ]
          refine reg_take 18 90 (v := ?_) rfl rfl (by kernel_rfl) (by kernel_rfl) (by kernel_rfl) (fun _ _ _ h => h) (Or.inl ⟨by rfl, ?_⟩) hHeld ?_
          rotate_left 1
          · intro wS hSw; go_simp <;> with_reducible rfl
          simp only [put_lit, List.set_cons_zero, List.set_cons_succ]
          refine reg_take 19 91 (v := ?_) rfl rfl (by kernel_rfl) (by kernel_rfl) (by kernel_rfl) (fun _ _ _ h => h) (Or.inl ⟨by rfl, ?_⟩) hHeld ?_
          rotate_left 1
          · intro wS hSw; have hqS := bcellB hSw; go_simp <;> with_reducible rfl
          simp only [put_lit, List.set_cons_zero, List.set_cons_succ]
          refine reg_take 20 92 (v := ?_) rfl rfl (by kernel_rfl) (by kernel_rfl) (by kernel_rfl) (fun _ _ _ h => h) (Or.inl ⟨by rfl, ?_⟩) hHeld ?_
          rotate_left 1
          · intro wS hSw; go_simp <;> with_reducible rfl
          simp only [put_lit, List.set_cons_zero, List.set_cons_succ]
          refine reg_take 21 93 (v := ?_) rfl rfl (by kernel_rfl) (by kernel_rfl) (by kernel_rfl) (fun _ _ _ h => h) (Or.inl ⟨by rfl, ?_⟩) hHeld ?_
          rotate_left 1
          · intro wS hSw; go_simp <;> with_reducible rfl
          simp only [put_lit, List.set_cons_zero, List.set_cons_succ]
          refine reg_take 22 94 (v := ?_) rfl rfl (by kernel_rfl) (by kernel_rfl) (by kernel_rfl) (fun _ _ _ h => h) (Or.inl ⟨by rfl, ?_⟩) hHeld ?_
          rotate_left 1
          · intro wS hSw; go_simp <;> with_reducible rfl
          simp only [put_lit, List.set_cons_zero, List.set_cons_succ]
          refine reg_take 23 95 (v := ?_) rfl rfl (by kernel_rfl) (by kernel_rfl) (by kernel_rfl) (fun _ _ _ h => h) (Or.inl ⟨by rfl, ?_⟩) hHeld ?_
          rotate_left 1
          · intro wS hSw; have hqS := bcellB hSw; go_simp <;> with_reducible rfl
          simp only [put_lit, List.set_cons_zero, List.set_cons_succ]
          refine reg_take 24 96 (v := ?_) rfl rfl (by kernel_rfl) (by kernel_rfl) (by kernel_rfl) (fun _ _ _ h => h) (Or.inl ⟨by rfl, ?_⟩) hHeld ?_
          rotate_left 1
          · intro wS hSw; go_simp <;> with_reducible rfl
          simp only [put_lit, List.set_cons_zero, List.set_cons_succ]
          refine reg_take 25 97 (v := ?_) rfl rfl (by kernel_rfl) (by kernel_rfl) (by kernel_rfl) (fun _ _ _ h => h) (Or.inl ⟨by rfl, ?_⟩) hHeld ?_
          rotate_left 1
          · intro wS hSw; go_simp <;> with_reducible rfl
          simp only [put_lit, List.set_cons_zero, List.set_cons_succ]
          refine wpAnyH_ready (rs := [26]) (by kernel_rfl) (by simp) ?_
          refine AllReadyH.cons rfl (fun K hK => ?_) AllReadyH.nil
          go_simp
          refine (samePages_any _ _ _ _ _ _ _ _ _ (((HXR.out.keep hHeld).at (by omega)).take j (by omega)) ((HP.out.keep hHeld).take j (by omega))).mono ?_
          rintro e ww3 ⟨r9, rfl, hr9, hbw3⟩
          obtain rfl := hr9 (take_set ps j _)
          go_wp2_with fail
          refine hK.out _ _ ?_ (fun hHeld => ?_)
          · exact reg_call hHeld hbw3 (Nat.le_refl _)
          clear hK K
          (try simp only [put_lit, List.set_cons_zero, List.set_cons_succ])
          refine reg_take 27 99 (v := ?_) rfl rfl (by kernel_rfl) (by kernel_rfl) (by kernel_rfl) (fun _ _ _ h => h) (Or.inl ⟨by rfl, ?_⟩) hHeld ?_
          rotate_left 1
          · intro wS hSw; go_simp <;> with_reducible rfl
          simp only [put_lit, List.set_cons_zero, List.set_cons_succ]
          refine reg_take 28 100 (v := ?_) rfl rfl (by kernel_rfl) (by kernel_rfl) (by kernel_rfl) (fun _ _ _ h => h) (Or.inl ⟨by rfl, ?_⟩) hHeld ?_
          rotate_left 1
          · intro wS hSw; go_simp <;> with_reducible rfl
          simp only [put_lit, List.set_cons_zero, List.set_cons_succ]
          refine reg_take 29 101 (v := ?_) rfl rfl (by kernel_rfl) (by kernel_rfl) (by kernel_rfl) (fun _ _ _ h => h) (Or.inl ⟨by rfl, ?_⟩) hHeld ?_
          rotate_left 1
          · intro wS hSw; go_simp <;> with_reducible rfl
          simp only [put_lit, List.set_cons_zero, List.set_cons_succ]
          refine reg_take 30 102 (v := ?_) rfl rfl (by kernel_rfl) (by kernel_rfl) (by kernel_rfl) (fun _ _ _ h => h) (Or.inl ⟨by rfl, ?_⟩) hHeld ?_
          rotate_left 1
          · intro wS hSw; go_simp <;> with_reducible rfl
          simp only [put_lit, List.set_cons_zero, List.set_cons_succ]
          refine reg_take 31 103 (v := ?_) rfl rfl (by kernel_rfl) (by kernel_rfl) (by kernel_rfl) (fun _ _ _ h => h) (Or.inl ⟨by rfl, ?_⟩) hHeld ?_
          rotate_left 1
          · intro wS hSw; go_simp <;> with_reducible rfl
          simp only [put_lit, List.set_cons_zero, List.set_cons_succ]
          refine reg_take 32 104 (v := ?_) rfl rfl (by kernel_rfl) (by kernel_rfl) (by kernel_rfl) (fun _ _ _ h => h) (Or.inl ⟨by rfl, ?_⟩) hHeld ?_
          rotate_left 1
          · intro wS hSw; go_simp <;> with_reducible rfl
          simp only [put_lit, List.set_cons_zero, List.set_cons_succ]
          refine reg_take 33 105 (v := ?_) rfl rfl (by kernel_rfl) (by kernel_rfl) (by kernel_rfl) (fun _ _ _ h => h) (Or.inl ⟨by rfl, ?_⟩) hHeld ?_
          rotate_left 1
          · intro wS hSw; go_simp <;> with_reducible rfl
          simp only [put_lit, List.set_cons_zero, List.set_cons_succ]
          refine reg_take 34 106 (v := undef) rfl rfl (by kernel_rfl) (by kernel_rfl) (by kernel_rfl) (fun _ _ _ h => h) (Or.inr ⟨by rfl, rfl⟩) hHeld ?_
          simp only [put_lit, List.set_cons_zero, List.set_cons_succ]
          refine reg_take 35 107 (v := undef) rfl rfl (by kernel_rfl) (by kernel_rfl) (by kernel_rfl) (fun _ _ _ h => h) (Or.inr ⟨by rfl, rfl⟩) hHeld ?_
          simp only [put_lit, List.set_cons_zero, List.set_cons_succ]
          refine reg_take 36 108 (v := undef) rfl rfl (by kernel_rfl) (by kernel_rfl) (by kernel_rfl) (fun _ _ _ h => h) (Or.inr ⟨by rfl, rfl⟩) hHeld ?_
          simp only [put_lit, List.set_cons_zero, List.set_cons_succ]
          refine reg_take 37 109 (v := undef) rfl rfl (by kernel_rfl) (by kernel_rfl) (by kernel_rfl) (fun _ _ _ h => h) (Or.inr ⟨by rfl, rfl⟩) hHeld ?_
          simp only [put_lit, List.set_cons_zero, List.set_cons_succ]
          refine reg_take 38 110 (v := undef) rfl rfl (by kernel_rfl) (by kernel_rfl) (by kernel_rfl) (fun _ _ _ h => h) (Or.inr ⟨by rfl, rfl⟩) hHeld ?_
          simp only [put_lit, List.set_cons_zero, List.set_cons_succ]
          refine reg_take 39 111 (v := undef) rfl rfl (by kernel_rfl) (by kernel_rfl) (by kernel_rfl) (fun _ _ _ h => h) (Or.inr ⟨by rfl, rfl⟩) hHeld ?_
          simp only [put_lit, List.set_cons_zero, List.set_cons_succ]
          refine reg_take 40 112 (v := undef) rfl rfl (by kernel_rfl) (by kernel_rfl) (by kernel_rfl) (fun _ _ _ h => h) (Or.inr ⟨by rfl, rfl⟩) hHeld ?_
          simp only [put_lit, List.set_cons_zero, List.set_cons_succ]
          refine reg_take 41 113 (v := ?_) rfl rfl (by kernel_rfl) (by kernel_rfl) (by kernel_rfl) (fun _ _ _ h => h) (Or.inl ⟨by rfl, ?_⟩) hHeld ?_
          rotate_left 1
          · intro wS hSw; go_simp <;> with_reducible rfl
          simp only [put_lit, List.set_cons_zero, List.set_cons_succ]
          refine reg_take 42 114 (v := ?_) rfl rfl (by kernel_rfl) (by kernel_rfl) (by kernel_rfl) (fun _ _ _ h => h) (Or.inl ⟨by rfl, ?_⟩) hHeld ?_
          rotate_left 1
          · intro wS hSw; go_simp <;> with_reducible rfl
          simp only [put_lit, List.set_cons_zero, List.set_cons_succ]
          refine reg_take 43 115 (v := ?_) rfl rfl (by kernel_rfl) (by kernel_rfl) (by kernel_rfl) (fun _ _ _ h => h) (Or.inl ⟨by rfl, ?_⟩) hHeld ?_
          rotate_left 1
          · intro wS hSw; go_simp <;> with_reducible rfl
          simp only [put_lit, List.set_cons_zero, List.set_cons_succ]
          refine reg_take 44 116 (v := ?_) rfl rfl (by kernel_rfl) (by kernel_rfl) (by kernel_rfl) (fun _ _ _ h => h) (Or.inl ⟨by rfl, ?_⟩) hHeld ?_
          rotate_left 1
          · intro wS hSw; go_simp <;> with_reducible rfl
          simp only [put_lit, List.set_cons_zero, List.set_cons_succ]
          refine reg_take 45 117 (v := ?_) rfl rfl (by kernel_rfl) (by kernel_rfl) (by kernel_rfl) (fun _ _ _ h => h) (Or.inl ⟨by rfl, ?_⟩) hHeld ?_
          rotate_left 1
          · intro wS hSw; have hqS := bcellB hSw; go_simp <;> with_reducible rfl
          simp only [put_lit, List.set_cons_zero, List.set_cons_succ]
          refine reg_take 46 118 (v := ?_) rfl rfl (by kernel_rfl) (by kernel_rfl) (by kernel_rfl) (fun _ _ _ h => h) (Or.inl ⟨by rfl, ?_⟩) hHeld ?_
          rotate_left 1
          · intro wS hSw; go_simp <;> with_reducible rfl
          simp only [put_lit, List.set_cons_zero, List.set_cons_succ]
          refine reg_take 47 119 (v := ?_) rfl rfl (by kernel_rfl) (by kernel_rfl) (by kernel_rfl) (fun _ _ _ h => h) (Or.inl ⟨by rfl, ?_⟩) hHeld ?_
          rotate_left 1
          · intro wS hSw; have hqS := bcellB hSw; go_simp <;> with_reducible rfl
          simp only [put_lit, List.set_cons_zero, List.set_cons_succ]
          refine reg_take 48 120 (v := ?_) rfl rfl (by kernel_rfl) (by kernel_rfl) (by kernel_rfl) (fun _ _ _ h => h) (Or.inl ⟨by rfl, ?_⟩) hHeld ?_
          rotate_left 1
          · intro wS hSw; go_simp <;> with_reducible rfl
          simp only [put_lit, List.set_cons_zero, List.set_cons_succ]
          refine reg_take 49 121 (v := ?_) rfl rfl (by kernel_rfl) (by kernel_rfl) (by kernel_rfl) (fun _ _ _ h => h) (Or.inl ⟨by rfl, ?_⟩) hHeld ?_
          rotate_left 1
          · intro wS hSw; go_simp <;> with_reducible rfl
          simp only [put_lit, List.set_cons_zero, List.set_cons_succ]
          refine reg_take 50 2 (v := ?_) rfl rfl (by kernel_rfl) (by kernel_rfl) (by kernel_rfl) (fun _ _ _ h => h) (Or.inl ⟨by rfl, ?_⟩) hHeld ?_
          rotate_left 1
          · intro wS hSw; go_simp <;> with_reducible rfl
          simp only [put_lit, List.set_cons_zero, List.set_cons_succ]
          refine wpAnyH_done (by kernel_rfl) ?_ _
          go_wp2
          go_ret
          exact ⟨rfl, bel_t HB5.out hHeld⟩
        · go_wp2_with fail
          have k1 : (3 : Int) ≤ (c2 : Int) := by omega
          have k2 : (3 : Int) ≤ (c : Int) := by omega
          refine reg_begin (by kernel_rfl) (fun hHeld => ?_)
          refine reg_take 0 72 (v := ?_) rfl rfl (by kernel_rfl) (by kernel_rfl) (by kernel_rfl) (fun _ _ _ h => h) (Or.inl ⟨by rfl, ?_⟩) hHeld ?_
          rotate_left 1
          · intro wS hSw; have hqS := bcellB hSw; go_simp <;> with_reducible rfl
          simp only [put_lit, List.set_cons_zero, List.set_cons_succ]
          refine wpAnyH_ready (rs := [1]) (by kernel_rfl) (by simp) ?_
          refine AllReadyH.cons rfl (fun K hK => ?_) AllReadyH.nil
          go_simp
          refine (iBlockValid _ _ _ _ (ps.set 3 ⟨true, fi, pl, va, st⟩) _ ((HXR.out.keep hHeld).at (by omega))).mono ?_
          rw [HVX.out]
          rintro e ww1 ⟨rfl, hbw1⟩
          go_wp2_with fail
          refine hK.out _ _ ?_ (fun hHeld => ?_)
          · exact reg_call hHeld hbw1 (Nat.le_refl _)
          clear hK K
          (try simp only [put_lit, List.set_cons_zero, List.set_cons_succ])
          refine reg_take 2 74 (v := ?_) rfl rfl (by kernel_rfl) (by kernel_rfl) (by kernel_rfl) (fun _ _ _ h => h) (Or.inl ⟨by rfl, ?_⟩) hHeld ?_
          rotate_left 1
          · intro wS hSw; go_simp <;> with_reducible rfl
          simp only [put_lit, List.set_cons_zero, List.set_cons_succ]
          refine reg_take 3 75 (v := ?_) rfl rfl (by kernel_rfl) (by kernel_rfl) (by kernel_rfl) (fun _ _ _ h => h) (Or.inl ⟨by rfl, ?_⟩) hHeld ?_
          rotate_left 1
          · intro wS hSw; go_simp <;> with_reducible rfl
          simp only [put_lit, List.set_cons_zero, List.set_cons_succ]
          refine reg_take 4 76 (v := ?_) rfl rfl (by kernel_rfl) (by kernel_rfl) (by kernel_rfl) (fun _ _ _ h => h) (Or.inl ⟨by rfl, ?_⟩) hHeld ?_
          rotate_left 1
          · intro wS hSw; have hqS := bcellB hSw; go_simp <;> with_reducible rfl
          simp only [put_lit, List.set_cons_zero, List.set_cons_succ]
          refine wpAnyH_ready (rs := [5]) (by kernel_rfl) (by simp) ?_
          refine AllReadyH.cons rfl (fun K hK => ?_) AllReadyH.nil
          go_simp
          refine (iBlockNext _ _ _ _ ps _ (HP.out.keep hHeld)).mono ?_
          rw [HNB.out]
          rintro e ww2 ⟨rfl, hbw2⟩
          go_wp2_with fail
          refine hK.out _ _ ?_ (fun hHeld => ?_)
          · exact reg_call hHeld hbw2 (Nat.le_refl _)
          clear hK K
          (try simp only [put_lit, List.set_cons_zero, List.set_cons_succ])
          refine reg_take 6 78 (v := ?_) rfl rfl (by kernel_rfl) (by kernel_rfl) (by kernel_rfl) (fun _ _ _ h => h) (Or.inl ⟨by rfl, ?_⟩) hHeld ?_
          rotate_left 1
          · intro wS hSw; go_simp <;> with_reducible rfl
          simp only [put_lit, List.set_cons_zero, List.set_cons_succ]
          refine reg_take 7 79 (v := ?_) rfl rfl (by kernel_rfl) (by kernel_rfl) (by kernel_rfl) (fun _ _ _ h => h) (Or.inl ⟨by rfl, ?_⟩) hHeld ?_
          rotate_left 1
          · intro wS hSw; go_simp <;> with_reducible rfl
          simp only [put_lit, List.set_cons_zero, List.set_cons_succ]
          refine reg_take 8 80 (v := ?_) rfl rfl (by kernel_rfl) (by kernel_rfl) (by kernel_rfl) (fun _ _ _ h => h) (Or.inl ⟨by rfl, ?_⟩) hHeld ?_
          rotate_left 1
          · intro wS hSw; go_simp <;> with_reducible rfl
          simp only [put_lit, List.set_cons_zero, List.set_cons_succ]
          refine reg_take 9 81 (v := ?_) rfl rfl (by kernel_rfl) (by kernel_rfl) (by kernel_rfl) (fun _ _ _ h => h) (Or.inl ⟨by rfl, ?_⟩) hHeld ?_
          rotate_left 1
          · intro wS hSw; go_simp <;> with_reducible rfl
          simp only [put_lit, List.set_cons_zero, List.set_cons_succ]
          refine reg_take 10 82 (v := ?_) rfl rfl (by kernel_rfl) (by kernel_rfl) (by kernel_rfl) (fun _ _ _ h => h) (Or.inl ⟨by rfl, ?_⟩) hHeld ?_
          rotate_left 1
          · intro wS hSw; have hqS := bcellB hSw; go_simp <;> with_reducible rfl
          simp only [put_lit, List.set_cons_zero, List.set_cons_succ]
          refine reg_take 11 83 (v := ?_) rfl rfl (by kernel_rfl) (by kernel_rfl) (by kernel_rfl) (fun _ _ _ h => h) (Or.inl ⟨by rfl, ?_⟩) hHeld ?_
          rotate_left 1
          · intro wS hSw; go_simp <;> with_reducible rfl
          simp only [put_lit, List.set_cons_zero, List.set_cons_succ]
          refine reg_take 12 84 (v := ?_) rfl rfl (by kernel_rfl) (by kernel_rfl) (by kernel_rfl) (fun _ _ _ h => h) (Or.inl ⟨by rfl, ?_⟩) hHeld ?_
          rotate_left 1
          · intro wS hSw; go_simp <;> with_reducible rfl
          simp only [put_lit, List.set_cons_zero, List.set_cons_succ]
          refine reg_take 13 85 (v := ?_) rfl rfl (by kernel_rfl) (by kernel_rfl) (by kernel_rfl) (fun _ _ _ h => h) (Or.inl ⟨by rfl, ?_⟩) hHeld ?_
          rotate_left 1
          · intro wS hSw; have hqS := bcellB hSw; go_simp <;> with_reducible rfl
          simp only [put_lit, List.set_cons_zero, List.set_cons_succ]
          refine reg_take 14 86 (v := ?_) rfl rfl (by kernel_rfl) (by kernel_rfl) (by kernel_rfl) (fun _ _ _ h => h) (Or.inl ⟨by rfl, ?_⟩) hHeld ?_
          rotate_left 1
          · intro wS hSw; have hqS := bcellB hSw; go_simp <;> with_reducible rfl
          simp only [put_lit, List.set_cons_zero, List.set_cons_succ]
          refine reg_take 15 87 (v := ?_) rfl rfl (by kernel_rfl) (by kernel_rfl) (by kernel_rfl) (fun _ _ _ h => h) (Or.inl ⟨by rfl, ?_⟩) hHeld ?_
          rotate_left 1
          · intro wS hSw; go_simp <;> with_reducible rfl
          simp only [put_lit, List.set_cons_zero, List.set_cons_succ]
          refine reg_take 16 88 (v := ?_) rfl rfl (by kernel_rfl) (by kernel_rfl) (by kernel_rfl) (fun _ _ _ h => h) (Or.inl ⟨by rfl, ?_⟩) hHeld ?_
          rotate_left 1
          · intro wS hSw; go_simp <;> with_reducible rfl
          simp only [put_lit, List.set_cons_zero, List.set_cons_succ]
          refine reg_take 17 89 (v := ?_) rfl rfl (by kernel_rfl) (by kernel_rfl) (by kernel_rfl) (fun _ _ _ h => h) (Or.inl ⟨by rfl, ?_⟩) hHeld ?_
          rotate_left 1
          · intro wS hSw; go_simp <;> with_reducible rfl
          simp only [put_lit, List.set_cons_zero, List.set_cons_succ]
          refine reg_take 18 90 (v := ?_) rfl rfl (by kernel_rfl) (by kernel_rfl) (by kernel_rfl) (fun _ _ _ h => h) (Or.inl ⟨by rfl, ?_⟩) hHeld ?_
          rotate_left 1
          · intro wS hSw; go_simp <;> with_reducible rfl
          simp only [put_lit, List.set_cons_zero, List.set_cons_succ]
          refine reg_take 19 91 (v := ?_) rfl rfl (by kernel_rfl) (by kernel_rfl) (by kernel_rfl) (fun _ _ _ h => h) (Or.inl ⟨by rfl, ?_⟩) hHeld ?_
          rotate_left 1
          · intro wS hSw; have hqS := bcellB hSw; go_simp <;> with_reducible rfl
          simp only [put_lit, List.set_cons_zero, List.set_cons_succ]
          refine reg_take 20 92 (v := ?_) rfl rfl (by kernel_rfl) (by kernel_rfl) (by kernel_rfl) (fun _ _ _ h => h) (Or.inl ⟨by rfl, ?_⟩) hHeld ?_
          rotate_left 1
          · intro wS hSw; go_simp <;> with_reducible rfl
          simp only [put_lit, List.set_cons_zero, List.set_cons_succ]
          refine reg_take 21 93 (v := ?_) rfl rfl (by kernel_rfl) (by kernel_rfl) (by kernel_rfl) (fun _ _ _ h => h) (Or.inl ⟨by rfl, ?_⟩) hHeld ?_
          rotate_left 1
          · intro wS hSw; go_simp <;> with_reducible rfl
          simp only [put_lit, List.set_cons_zero, List.set_cons_succ]
          refine reg_take 22 94 (v := ?_) rfl rfl (by kernel_rfl) (by kernel_rfl) (by kernel_rfl) (fun _ _ _ h => h) (Or.inl ⟨by rfl, ?_⟩) hHeld ?_
          rotate_left 1
          · intro wS hSw; go_simp <;> with_reducible rfl
          simp only [put_lit, List.set_cons_zero, List.set_cons_succ]
          refine reg_take 23 95 (v := ?_) rfl rfl (by kernel_rfl) (by kernel_rfl) (by kernel_rfl) (fun _ _ _ h => h) (Or.inl ⟨by rfl, ?_⟩) hHeld ?_
          rotate_left 1
          · intro wS hSw; have hqS := bcellB hSw; go_simp <;> with_reducible rfl
          simp only [put_lit, List.set_cons_zero, List.set_cons_succ]
          refine reg_take 24 96 (v := ?_) rfl rfl (by kernel_rfl) (by kernel_rfl) (by kernel_rfl) (fun _ _ _ h => h) (Or.inl ⟨by rfl, ?_⟩) hHeld ?_
          rotate_left 1
          · intro wS hSw; go_simp <;> with_reducible rfl
          simp only [put_lit, List.set_cons_zero, List.set_cons_succ]
          refine reg_take 25 97 (v := ?_) rfl rfl (by kernel_rfl) (by kernel_rfl) (by kernel_rfl) (fun _ _ _ h => h) (Or.inl ⟨by rfl, ?_⟩) hHeld ?_
          rotate_left 1
          · intro wS hSw; go_simp <;> with_reducible rfl
          simp only [put_lit, List.set_cons_zero, List.set_cons_succ]
          refine wpAnyH_ready (rs := [26]) (by kernel_rfl) (by simp) ?_
          refine AllReadyH.cons rfl (fun K hK => ?_) AllReadyH.nil
          go_simp
          refine (samePages_any _ _ _ _ _ _ _ _ _ (((HXR.out.keep hHeld).at (by omega)).take 3 (by omega)) ((HP.out.keep hHeld).take 3 (by omega))).mono ?_
          rintro e ww3 ⟨r9, rfl, hr9, hbw3⟩
          obtain rfl := hr9 (take_set ps 3 _)
          go_wp2_with fail
          refine hK.out _ _ ?_ (fun hHeld => ?_)
          · exact reg_call hHeld hbw3 (Nat.le_refl _)
          clear hK K
          (try simp only [put_lit, List.set_cons_zero, List.set_cons_succ])
          refine reg_take 27 99 (v := ?_) rfl rfl (by kernel_rfl) (by kernel_rfl) (by kernel_rfl) (fun _ _ _ h => h) (Or.inl ⟨by rfl, ?_⟩) hHeld ?_
          rotate_left 1
          · intro wS hSw; go_simp <;> with_reducible rfl
          simp only [put_lit, List.set_cons_zero, List.set_cons_succ]
          refine reg_take 28 100 (v := ?_) rfl rfl (by kernel_rfl) (by kernel_rfl) (by kernel_rfl) (fun _ _ _ h => h) (Or.inl ⟨by rfl, ?_⟩) hHeld ?_
          rotate_left 1
          · intro wS hSw; go_simp <;> with_reducible rfl
          simp only [put_lit, List.set_cons_zero, List.set_cons_succ]
          refine reg_take 29 101 (v := ?_) rfl rfl (by kernel_rfl) (by kernel_rfl) (by kernel_rfl) (fun _ _ _ h => h) (Or.inl ⟨by rfl, ?_⟩) hHeld ?_
          rotate_left 1
          · intro wS hSw; go_simp <;> with_reducible rfl
          simp only [put_lit, List.set_cons_zero, List.set_cons_succ]
          refine reg_take 30 102 (v := ?_) rfl rfl (by kernel_rfl) (by kernel_rfl) (by kernel_rfl) (fun _ _ _ h => h) (Or.inl ⟨by rfl, ?_⟩) hHeld ?_
          rotate_left 1
          · intro wS hSw; go_simp <;> with_reducible rfl
          simp only [put_lit, List.set_cons_zero, List.set_cons_succ]
          refine reg_take 31 103 (v := ?_) rfl rfl (by kernel_rfl) (by kernel_rfl) (by kernel_rfl) (fun _ _ _ h => h) (Or.inl ⟨by rfl, ?_⟩) hHeld ?_
          rotate_left 1
          · intro wS hSw; go_simp <;> with_reducible rfl
          simp only [put_lit, List.set_cons_zero, List.set_cons_succ]
          refine reg_take 32 104 (v := ?_) rfl rfl (by kernel_rfl) (by kernel_rfl) (by kernel_rfl) (fun _ _ _ h => h) (Or.inl ⟨by rfl, ?_⟩) hHeld ?_
          rotate_left 1
          · intro wS hSw; go_simp <;> with_reducible rfl
          simp only [put_lit, List.set_cons_zero, List.set_cons_succ]
          refine reg_take 33 105 (v := ?_) rfl rfl (by kernel_rfl) (by kernel_rfl) (by kernel_rfl) (fun _ _ _ h => h) (Or.inl ⟨by rfl, ?_⟩) hHeld ?_
          rotate_left 1
          · intro wS hSw; go_simp <;> with_reducible rfl
          simp only [put_lit, List.set_cons_zero, List.set_cons_succ]
          refine reg_take 34 106 (v := ?_) rfl rfl (by kernel_rfl) (by kernel_rfl) (by kernel_rfl) (fun _ _ _ h => h) (Or.inl ⟨by rfl, ?_⟩) hHeld ?_
          rotate_left 1
          · intro wS hSw; go_simp <;> with_reducible rfl
          simp only [put_lit, List.set_cons_zero, List.set_cons_succ]
          refine reg_take 35 107 (v := ?_) rfl rfl (by kernel_rfl) (by kernel_rfl) (by kernel_rfl) (fun _ _ _ h => h) (Or.inl ⟨by rfl, ?_⟩) hHeld ?_
          rotate_left 1
          · intro wS hSw; go_simp <;> with_reducible rfl
          simp only [put_lit, List.set_cons_zero, List.set_cons_succ]
          refine reg_take 36 108 (v := ?_) rfl rfl (by kernel_rfl) (by kernel_rfl) (by kernel_rfl) (fun _ _ _ h => h) (Or.inl ⟨by rfl, ?_⟩) hHeld ?_
          rotate_left 1
          · intro wS hSw; go_simp <;> with_reducible rfl
          simp only [put_lit, List.set_cons_zero, List.set_cons_succ]
          refine reg_take 37 109 (v := ?_) rfl rfl (by kernel_rfl) (by kernel_rfl) (by kernel_rfl) (fun _ _ _ h => h) (Or.inl ⟨by rfl, ?_⟩) hHeld ?_
          rotate_left 1
          · intro wS hSw; go_simp <;> with_reducible rfl
          simp only [put_lit, List.set_cons_zero, List.set_cons_succ]
          refine reg_take 38 110 (v := ?_) rfl rfl (by kernel_rfl) (by kernel_rfl) (by kernel_rfl) (fun _ _ _ h => h) (Or.inl ⟨by rfl, ?_⟩) hHeld ?_
          rotate_left 1
          · intro wS hSw; go_simp <;> with_reducible rfl
          simp only [put_lit, List.set_cons_zero, List.set_cons_succ]
          refine reg_take 39 111 (v := ?_) rfl rfl (by kernel_rfl) (by kernel_rfl) (by kernel_rfl) (fun _ _ _ h => h) (Or.inl ⟨by rfl, ?_⟩) hHeld ?_
          rotate_left 1
          · intro wS hSw; go_simp <;> with_reducible rfl
          simp only [put_lit, List.set_cons_zero, List.set_cons_succ]
          refine reg_take 40 112 (v := ?_) rfl rfl (by kernel_rfl) (by kernel_rfl) (by kernel_rfl) (fun _ _ _ h => h) (Or.inl ⟨by rfl, ?_⟩) hHeld ?_
          rotate_left 1
          · intro wS hSw; go_simp <;> with_reducible rfl
          simp only [put_lit, List.set_cons_zero, List.set_cons_succ]
          refine reg_take 41 113 (v := ?_) rfl rfl (by kernel_rfl) (by kernel_rfl) (by kernel_rfl) (fun _ _ _ h => h) (Or.inl ⟨by rfl, ?_⟩) hHeld ?_
          rotate_left 1
          · intro wS hSw; go_simp <;> with_reducible rfl
          simp only [put_lit, List.set_cons_zero, List.set_cons_succ]
          refine reg_take 42 114 (v := ?_) rfl rfl (by kernel_rfl) (by kernel_rfl) (by kernel_rfl) (fun _ _ _ h => h) (Or.inl ⟨by rfl, ?_⟩) hHeld ?_
          rotate_left 1
          · intro wS hSw; go_simp <;> with_reducible rfl
          simp only [put_lit, List.set_cons_zero, List.set_cons_succ]
          refine reg_take 43 115 (v := ?_) rfl rfl (by kernel_rfl) (by kernel_rfl) (by kernel_rfl) (fun _ _ _ h => h) (Or.inl ⟨by rfl, ?_⟩) hHeld ?_
          rotate_left 1
          · intro wS hSw; go_simp <;> with_reducible rfl
          simp only [put_lit, List.set_cons_zero, List.set_cons_succ]
          refine reg_take 44 116 (v := ?_) rfl rfl (by kernel_rfl) (by kernel_rfl) (by kernel_rfl) (fun _ _ _ h => h) (Or.inl ⟨by rfl, ?_⟩) hHeld ?_
          rotate_left 1
          · intro wS hSw; go_simp <;> with_reducible rfl
          simp only [put_lit, List.set_cons_zero, List.set_cons_succ]
          refine reg_take 45 117 (v := ?_) rfl rfl (by kernel_rfl) (by kernel_rfl) (by kernel_rfl) (fun _ _ _ h => h) (Or.inl ⟨by rfl, ?_⟩) hHeld ?_
          rotate_left 1
          · intro wS hSw; have hqS := bcellB hSw; go_simp <;> with_reducible rfl
          simp only [put_lit, List.set_cons_zero, List.set_cons_succ]
          refine reg_take 46 118 (v := ?_) rfl rfl (by kernel_rfl) (by kernel_rfl) (by kernel_rfl) (fun _ _ _ h => h) (Or.inl ⟨by rfl, ?_⟩) hHeld ?_
          rotate_left 1
          · intro wS hSw; go_simp <;> with_reducible rfl
          simp only [put_lit, List.set_cons_zero, List.set_cons_succ]
          refine reg_take 47 119 (v := ?_) rfl rfl (by kernel_rfl) (by kernel_rfl) (by kernel_rfl) (fun _ _ _ h => h) (Or.inl ⟨by rfl, ?_⟩) hHeld ?_
          rotate_left 1
          · intro wS hSw; have hqS := bcellB hSw; go_simp <;> with_reducible rfl
          simp only [put_lit, List.set_cons_zero, List.set_cons_succ]
          refine reg_take 48 120 (v := ?_) rfl rfl (by kernel_rfl) (by kernel_rfl) (by kernel_rfl) (fun _ _ _ h => h) (Or.inl ⟨by rfl, ?_⟩) hHeld ?_
          rotate_left 1
          · intro wS hSw; go_simp <;> with_reducible rfl
          simp only [put_lit, List.set_cons_zero, List.set_cons_succ]
          refine reg_take 49 121 (v := ?_) rfl rfl (by kernel_rfl) (by kernel_rfl) (by kernel_rfl) (fun _ _ _ h => h) (Or.inl ⟨by rfl, ?_⟩) hHeld ?_
          rotate_left 1
          · intro wS hSw; go_simp <;> with_reducible rfl
          simp only [put_lit, List.set_cons_zero, List.set_cons_succ]
          refine reg_take 50 2 (v := ?_) rfl rfl (by kernel_rfl) (by kernel_rfl) (by kernel_rfl) (fun _ _ _ h => h) (Or.inl ⟨by rfl, ?_⟩) hHeld ?_
          rotate_left 1
          · intro wS hSw; go_simp <;> with_reducible rfl
          simp only [put_lit, List.set_cons_zero, List.set_cons_succ]
          refine wpAnyH_done (by kernel_rfl) ?_ _
          go_wp2
          go_ret
          exact ⟨rfl, bel_t HB5.out hHeld⟩
    · have HW := Lib.hid (wb_no ⟨z, ps⟩ ⟨f, fi, pl, va, st⟩ hval)
      clear hval
      go_wp2_with fail
      refine (iWriteBlock _ _ _ _ ps _ _ _ _ _ _ (HP.out.keep (bel_2 _ _ _))).mono ?_
      rw [HW.out]
      simp only [Bl.zero]
      rintro e w2 ⟨v2, rfl, ⟨A2, n2, c2, q2, rfl, hn2, hq2, hS2⟩, hb2⟩
      have HV2 := Lib.hid (bel_t (bel_2 _ _ _) hb2)
      have HB2 := Lib.hid (bel_t HB1.out HV2.out)
      replace HP := Lib.hid (HP.out.keep HV2.out)
      have b0 : w2.cell? ⟨w1.heap.size, 0, none⟩ = some (.int .i64 z) := stays_below hb2 _ _ _ (by simp [go_sem])
      have b1 : w2.cell? ⟨w1.heap.size, 1, none⟩ = some (.slice A m c) := stays_below hb2 _ _ _ (by simp [go_sem])
      have p0 : w2.cell? ⟨w1.heap.size + 1, 0, none⟩ = some (.bool f) := stays_below hb2 _ _ _ (by simp [go_sem])
      have p1 : w2.cell? ⟨w1.heap.size + 1, 1, none⟩ = some (.int .i64 fi) := stays_below hb2 _ _ _ (by simp [go_sem])
      have p2 : w2.cell? ⟨w1.heap.size + 1, 2, none⟩ = some (.int .i64 pl) := stays_below hb2 _ _ _ (by simp [go_sem])
      have p3 : w2.cell? ⟨w1.heap.size + 1, 3, none⟩ = some (.int .i64 va) := stays_below hb2 _ _ _ (by simp [go_sem])
      have p4 : w2.cell? ⟨w1.heap.size + 1, 4, none⟩ = some (.int .i64 st) := stays_below hb2 _ _ _ (by simp [go_sem])
      have zb0_2 : w1.heap.size < w2.heap.size := block_lt_of_cell b0
      have zp0_2 : w1.heap.size + 1 < w2.heap.size := block_lt_of_cell p0
      clear hb2
      have HX := Lib.hid (hS2.at hn2)
      clear hS2 hq2
      go_wp2_with fail
      refine (sWriteBlock _ _ _ _ ps _ _ _ _ _ _ (HP.out.keep (bel_1 _ _))).mono ?_
      rw [HW.out]
      simp only [Bl.zero]
      rintro e w3 ⟨v3, rfl, ⟨A3, n3, c3, q3, rfl, hn3, hq3, hS3⟩, hb3⟩
      have HV3 := Lib.hid (bel_t (bel_1 _ _) hb3)
      have HB3 := Lib.hid (bel_t HB2.out HV3.out)
      replace b0 := stays_below HV3.out _ _ _ b0
      replace b1 := stays_below HV3.out _ _ _ b1
      replace p0 := stays_below HV3.out _ _ _ p0
      replace p1 := stays_below HV3.out _ _ _ p1
      replace p2 := stays_below HV3.out _ _ _ p2
      replace p3 := stays_below HV3.out _ _ _ p3
      replace p4 := stays_below HV3.out _ _ _ p4
      replace HP := Lib.hid (HP.out.keep HV3.out)
      replace HX := Lib.hid (HX.out.keep HV3.out)
      have x0 : w3.cell? ⟨w2.heap.size, 0, none⟩ = some (.int .i64 0) := stays_below hb3 _ _ _ (by simp [go_sem])
      have x1 : w3.cell? ⟨w2.heap.size, 1, none⟩ = some (.slice A2 n2 c2) := stays_below hb3 _ _ _ (by simp [go_sem])
      have zb0_3 : w1.heap.size < w3.heap.size := block_lt_of_cell b0
      have zp0_3 : w1.heap.size + 1 < w3.heap.size := block_lt_of_cell p0
      have zx0_3 : w2.heap.size < w3.heap.size := block_lt_of_cell x0
      clear hb3
      have HY := Lib.hid (hS3.at hn3)
      clear hS3 hq3
      go_wp2_with fail
      refine (sameBlock_any _ _ _ _ _ _ _ _ [] [] _ (HX.out.keep (bel_1 _ _)) (HY.out.keep (bel_1 _ _))).mono ?_
      rintro e w4 ⟨r4, rfl, hr4, hb4⟩
      have HV4 := Lib.hid (bel_t (bel_1 _ _) hb4)
      have HB4 := Lib.hid (bel_t HB3.out HV4.out)
      replace b0 := stays_below HV4.out _ _ _ b0
      replace b1 := stays_below HV4.out _ _ _ b1
      replace p0 := stays_below HV4.out _ _ _ p0
      replace p1 := stays_below HV4.out _ _ _ p1
      replace p2 := stays_below HV4.out _ _ _ p2
      replace p3 := stays_below HV4.out _ _ _ p3
      replace p4 := stays_below HV4.out _ _ _ p4
      replace x0 := stays_below HV4.out _ _ _ x0
      replace x1 := stays_below HV4.out _ _ _ x1
      replace HP := Lib.hid (HP.out.keep HV4.out)
      replace HX := Lib.hid (HX.out.keep HV4.out)
      replace HY := Lib.hid (HY.out.keep HV4.out)
      have y0 : w4.cell? ⟨w3.heap.size, 0, none⟩ = some (.int .i64 0) := stays_below hb4 _ _ _ (by simp [go_sem])
      have y1 : w4.cell? ⟨w3.heap.size, 1, none⟩ = some (.slice A3 n3 c3) := stays_below hb4 _ _ _ (by simp [go_sem])
      have zb0_4 : w1.heap.size < w4.heap.size := block_lt_of_cell b0
      have zp0_4 : w1.heap.size + 1 < w4.heap.size := block_lt_of_cell p0
      have zx0_4 : w2.heap.size < w4.heap.size := block_lt_of_cell x0
      have zy0_4 : w3.heap.size < w4.heap.size := block_lt_of_cell y0
      clear hb4
      obtain rfl := hr4 rfl rfl
      clear hr4
      go_wp2_with fail
      refine (sameBlock_any _ _ _ _ _ _ _ _ [] ps _ HX.out HP.out).mono ?_
      rintro e w5 ⟨r5, rfl, hr5, hb5⟩
      have HV5 := Lib.hid (hb5)
      have HB5 := Lib.hid (bel_t HB4.out HV5.out)
      replace b0 := stays_below HV5.out _ _ _ b0
      replace b1 := stays_below HV5.out _ _ _ b1
      replace p0 := stays_below HV5.out _ _ _ p0
      replace p1 := stays_below HV5.out _ _ _ p1
      replace p2 := stays_below HV5.out _ _ _ p2
      replace p3 := stays_below HV5.out _ _ _ p3
      replace p4 := stays_below HV5.out _ _ _ p4
      replace x0 := stays_below HV5.out _ _ _ x0
      replace x1 := stays_below HV5.out _ _ _ x1
      replace y0 := stays_below HV5.out _ _ _ y0
      replace y1 := stays_below HV5.out _ _ _ y1
      replace HP := Lib.hid (HP.out.keep HV5.out)
      replace HX := Lib.hid (HX.out.keep HV5.out)
      replace HY := Lib.hid (HY.out.keep HV5.out)
      have zb0_5 : w1.heap.size < w5.heap.size := block_lt_of_cell b0
      have zp0_5 : w1.heap.size + 1 < w5.heap.size := block_lt_of_cell p0
      have zx0_5 : w2.heap.size < w5.heap.size := block_lt_of_cell x0
      have zy0_5 : w3.heap.size < w5.heap.size := block_lt_of_cell y0
      clear hb5
      clear hr5
      cases r5
      · skip
        go_wp2_with fail
        refine (sameBlock_any _ _ _ _ _ _ _ _ [] [] _ HX.out (PgsAt.nil _)).mono ?_
        rintro e w6 ⟨r6, rfl, hr6, hb6⟩
        have HV6 := Lib.hid (hb6)
        have HB6 := Lib.hid (bel_t HB5.out HV6.out)
        replace b0 := stays_below HV6.out _ _ _ b0
        replace b1 := stays_below HV6.out _ _ _ b1
        replace p0 := stays_below HV6.out _ _ _ p0
        replace p1 := stays_below HV6.out _ _ _ p1
        replace p2 := stays_below HV6.out _ _ _ p2
        replace p3 := stays_below HV6.out _ _ _ p3
        replace p4 := stays_below HV6.out _ _ _ p4
        replace x0 := stays_below HV6.out _ _ _ x0
        replace x1 := stays_below HV6.out _ _ _ x1
        replace y0 := stays_below HV6.out _ _ _ y0
        replace y1 := stays_below HV6.out _ _ _ y1
        replace HP := Lib.hid (HP.out.keep HV6.out)
        replace HX := Lib.hid (HX.out.keep HV6.out)
        replace HY := Lib.hid (HY.out.keep HV6.out)
        have zb0_6 : w1.heap.size < w6.heap.size := block_lt_of_cell b0
        have zp0_6 : w1.heap.size + 1 < w6.heap.size := block_lt_of_cell p0
        have zx0_6 : w2.heap.size < w6.heap.size := block_lt_of_cell x0
        have zy0_6 : w3.heap.size < w6.heap.size := block_lt_of_cell y0
        clear hb6
        obtain rfl := hr6 rfl rfl
        go_wp2_with (go_at_call 18; refine (alive_any _).mono ?_; rintro e w' ⟨rfl, rfl⟩)
        go_ret
        exact ⟨rfl, HB6.out⟩
      · skip
        go_wp2_with (go_at_call 18; refine (alive_any _).mono ?_; rintro e w' ⟨rfl, rfl⟩)
        go_ret
        exact ⟨rfl, HB5.out⟩

namespace fnWriteBlock
open Go.ChangeShapes Go.WideShapes Go.ChangeAt Go.RowKit
theorem own : ownKnob Try.prog.godebug = none := by kernel_rfl
theorem laidOut : laidOutB Try.prog = true := by kernel_rfl
theorem spec_ok : LawSpec Rows.fnWriteBlockSpec 1 := ⟨rfl, fun H ds h => by
  match ds, h with
  | [_], _ => exact ⟨rfl, rfl, rfl⟩⟩
theorem rd22 : Try.prog.readableRec 22 = true ∧ 22 < Try.prog.types.size := ⟨by kernel_rfl, of_decide_eq_true (by kernel_rfl)⟩
set_option maxRecDepth 100000 in
theorem lifted (os : Os) (started : os.Started) (H : Type) (enc : TypeId × Value → H) :
    ReturnsInHanded {} Try.checked os 5 .any (Rows.fnWriteBlockSpec.pre6 enc Try.prog Try.f5 Rows.fnWriteBlockRow.domain false) (Rows.fnWriteBlockSpec.post enc Try.prog Try.f5 false true false false) := by
  refine law_lifted (C := Try.checked) (tb := 4) own started (by kernel_rfl) Try.func5 laidOut ?_ spec_ok (by rfl) Try.underlying4
    (ChangeSpec.witness6 (enc := enc) (C := Try.checked) false ⟨#[], #[.slice none 0 0], []⟩ 8 (by kernel_rfl) (by kernel_rfl) (by kernel_rfl) (by kernel_rfl)) ?_
  · rw [Try.params5]
    intro t ht
    simp only [List.mem_cons, List.not_mem_nil, or_false] at ht
    subst ht
    exact rd22
  · intro W base args ds ps hval0 hA0
    have hval : ∀ (j : Nat) t v, Try.f5.params[j]? = some t → args[j]? = some v → Value.okWide Try.prog W .any base t v := hval0
    have hA : DataW.TrodAll enc Try.prog W 0 (fun _ => true) true Try.f5.params.toList args.toList ds ps := hA0
    clear hval0 hA0
    rw [Try.params5] at hA hval
    obtain ⟨v0, vs0, d0, ds0, p0, q0, hargs, rfl, rfl, h0, r0⟩ := trodAll_cons hA
    obtain ⟨rfl, rfl, rfl⟩ := trodAll_nil r0
    obtain rfl : args = #[v0] := by cases args; simp_all
    obtain ⟨x0, rfl, hx0⟩ := open_c Try.underlying22 Try.underlying5 (by kernel_rfl) (hval 0 22 v0 rfl rfl) h0
    exact walk_FnWriteBlock x0 W hx0

theorem over : Rows.fnWriteBlockRow.holds Try.pinned (OpenSpec.ofChange Rows.fnWriteBlockSpec) :=
  OpenClaim.holds_of_wide 5 Try.f5 rfl rfl rfl rfl rfl rfl rfl ⟨rfl, rfl, rfl, rfl, rfl⟩ rfl rfl rfl rfl rfl (by kernel_rfl) Try.func5 (by kernel_rfl)
    (of_decide_eq_true (by kernel_rfl)) (by unfold Func.isWrapper; first | (rw [if_pos (by decide +kernel)]; kernel_rfl) | (rw [if_neg (by decide +kernel)]; exact ⟨rfl, rfl⟩))
    (fun os started H enc _ => lifted os started H enc)

theorem proved : Rows.FnWriteBlockSaid :=
  over
#print axioms proved
end fnWriteBlock
end Go.Proofs.Yteekikaebmkioaa
