/- The law FnExactProgram: for every device, number and page the program's Program returns what the reference's returns, and keeps nothing of it, so the law returns true. No conditions. -/
import Derived.Test.YtbinphenccnhoaaRows
import Derived.Test.YtbinphenccnhoaaTypes
import Derived.Test.YtbinphenccnhoaaPutPage
namespace Go.Proofs.Ytbinphenccnhoaa
open Go.RowKit
set_option linter.unusedVariables false

set_option maxHeartbeats 8000000 in
theorem walk_FnExactProgram (x : Da) (a1 : Int) (y : Pg) (w : World) (hx : DevAt w x.A x.n x.ds) (_w1 : (Lit.int .i64 a1).wf = true) :
    Calls Try.prog 10 #[x.val, .int .i64 a1, y.val] w fun e w' => e = .returned (.bool true) ∧ Below w.heap.size w w' := by
  obtain ⟨A, n, c, ds⟩ := x
  obtain ⟨f, fi, pl, va, st⟩ := y
  simp only [Da.val, Pg.val] at *
  have HP := Lib.hid hx
  have hm := hx.2.1
  have hlen := hx.1
  clear hx
  go_enter Try.func10, Try.ntmps10
  go_wp2_with fail
  refine (szBlockS_any _ _ _ ds _ _ (HP.out.keep (bel_1 _ _)) (by omega) (by omega)).mono ?_
  rintro e w1 ⟨r, rfl, hr, hb1⟩
  have p0 : w1.cell? ⟨w.heap.size, 0, none⟩ = some (.bool f) := stays_below hb1 _ _ _ (by simp [go_sem])
  have p1 : w1.cell? ⟨w.heap.size, 1, none⟩ = some (.int .i64 fi) := stays_below hb1 _ _ _ (by simp [go_sem])
  have p2 : w1.cell? ⟨w.heap.size, 2, none⟩ = some (.int .i64 pl) := stays_below hb1 _ _ _ (by simp [go_sem])
  have p3 : w1.cell? ⟨w.heap.size, 3, none⟩ = some (.int .i64 va) := stays_below hb1 _ _ _ (by simp [go_sem])
  have p4 : w1.cell? ⟨w.heap.size, 4, none⟩ = some (.int .i64 st) := stays_below hb1 _ _ _ (by simp [go_sem])
  have HB1 := Lib.hid (bel_t (bel_1 _ _) hb1)
  have hs1 : w.heap.size < w1.heap.size := block_lt_of_cell p0
  by_cases hr0 : r < 0
  · go_wp2
    go_ret
    exact ⟨rfl, HB1.out⟩
  · obtain ⟨hn, hs⟩ := hr.resolve_left hr0
    have HS := Lib.hid hs
    have hle := pr_lens ds n a1 ⟨f, fi, pl, va, st⟩ hlen HS.out
    clear hr hs hb1 hlen
    obtain ⟨⟨E, at_⟩, HE⟩ : ∃ r, Hid (programF ds a1 ⟨f, fi, pl, va, st⟩ = r) := ⟨_, rfl⟩
    rw [HE.out] at hle
    simp only [] at hle
    have hnE : E.length ≤ 1048576 := by omega
    have hmE : E.length ≤ 9223372036854775807 := by omega
    have HSE := Lib.hid hle.2
    clear hle
    have hz2 : w.heap.size < w1.heap.size := block_lt_of_cell p0
    go_wp2_with fail
    refine reg_begin (by kernel_rfl) (fun hHeld => ?_)
    refine reg_take 0 24 (v := ?_) rfl rfl (by kernel_rfl) (by kernel_rfl) (by kernel_rfl) (fun _ _ _ h => h) (Or.inl ⟨by rfl, ?_⟩) hHeld ?_
    rotate_left 1
    · intro wS hSw; go_simp <;> with_reducible rfl
    simp only [put_lit, List.set_cons_zero, List.set_cons_succ]
    refine reg_take 2 26 (v := ?_) rfl rfl (by kernel_rfl) (by kernel_rfl) (by kernel_rfl) (fun _ _ _ h => h) (Or.inl ⟨by rfl, ?_⟩) hHeld ?_
    rotate_left 1
    · intro wS hSw; go_simp <;> with_reducible rfl
    simp only [put_lit, List.set_cons_zero, List.set_cons_succ]
    refine reg_take 3 27 (v := ?_) rfl rfl (by kernel_rfl) (by kernel_rfl) (by kernel_rfl) (fun _ _ _ h => h) (Or.inl ⟨by rfl, ?_⟩) hHeld ?_
    rotate_left 1
    · intro wS hSw; have hqS := bcellB hSw; go_simp <;> with_reducible rfl
    simp only [put_lit, List.set_cons_zero, List.set_cons_succ]
    refine wpAnyH_ready (rs := [1]) (by kernel_rfl) (by simp) ?_
    refine AllReadyH.cons rfl (fun K hK => ?_) AllReadyH.nil
    go_simp
    refine (toBlockS_any _ _ _ ds _ (HP.out.keep (bel_t HB1.out hHeld)) hn HS.out).mono ?_
    rintro e w51 ⟨g51, G51, rfl, hR51, hb51⟩
    have HQ51 := Lib.hid hR51
    clear hR51
    go_wp2_with fail
    refine hK.out _ _ ?_ (fun hHeld => ?_)
    · exact reg_call hHeld hb51 (Nat.le_refl _)
    clear hK K
    (try simp only [put_lit, List.set_cons_zero, List.set_cons_succ])
    refine wpAnyH_ready (rs := [4]) (by kernel_rfl) (by simp) ?_
    refine AllReadyH.cons rfl (fun K hK => ?_) AllReadyH.nil
    go_simp
    refine (toPage_any _ _ _ _ _ _).mono ?_
    rintro e w52 ⟨rfl, hb52⟩
    have HQ52 := Lib.hid (HQ51.out.keep hb52)
    go_wp2_with fail
    refine hK.out _ _ ?_ (fun hHeld => ?_)
    · exact reg_call hHeld hb52 (Nat.le_refl _)
    clear hK K
    (try simp only [put_lit, List.set_cons_zero, List.set_cons_succ])
    refine wpAnyH_ready (rs := [5]) (by kernel_rfl) (by simp) ?_
    refine AllReadyH.cons rfl (fun K hK => ?_) AllReadyH.nil
    go_simp
    refine (sProgram _ _ _ ds a1 _ _ _ _ _ _ (HQ52.out.at hm)).mono ?_
    rw [HE.out]
    simp only []
    rintro e w53 ⟨v53, rfl, hO53, hb53⟩
    obtain ⟨A5, c5, rfl, hT5⟩ := devout hO53
    have hlo5 : w1.heap.size ≤ w52.heap.size := hHeld.size
    go_wp2_with fail
    refine hK.out _ _ ?_ (fun hHeld => ?_)
    · exact reg_call hHeld hb53 (Nat.le_refl _)
    clear hK K
    (try simp only [put_lit, List.set_cons_zero, List.set_cons_succ])
    refine reg_take 6 23 (v := ?_) rfl rfl (by kernel_rfl) (by kernel_rfl) (by kernel_rfl) (fun _ _ _ h => h) (Or.inl ⟨by rfl, ?_⟩) hHeld ?_
    rotate_left 1
    · intro wS hSw; go_simp <;> with_reducible rfl
    simp only [put_lit, List.set_cons_zero, List.set_cons_succ]
    refine reg_take 7 30 (v := ?_) rfl rfl (by kernel_rfl) (by kernel_rfl) (by kernel_rfl) (fun _ _ _ h => h) (Or.inl ⟨by rfl, ?_⟩) hHeld ?_
    rotate_left 1
    · intro wS hSw; go_simp <;> with_reducible rfl
    simp only [put_lit, List.set_cons_zero, List.set_cons_succ]
    refine reg_take 8 31 (v := ?_) rfl rfl (by kernel_rfl) (by kernel_rfl) (by kernel_rfl) (fun _ _ _ h => h) (Or.inl ⟨by rfl, ?_⟩) hHeld ?_
    rotate_left 1
    · intro wS hSw; go_simp <;> with_reducible rfl
    simp only [put_lit, List.set_cons_zero, List.set_cons_succ]
    refine reg_take 9 8 (v := ?_) rfl rfl (by kernel_rfl) (by kernel_rfl) (by kernel_rfl) (fun _ _ _ h => h) (Or.inl ⟨by rfl, ?_⟩) hHeld ?_
    rotate_left 1
    · intro wS hSw; go_simp <;> with_reducible rfl
    simp only [put_lit, List.set_cons_zero, List.set_cons_succ]
    refine reg_take 10 9 (v := ?_) rfl rfl (by kernel_rfl) (by kernel_rfl) (by kernel_rfl) (fun _ _ _ h => h) (Or.inl ⟨by rfl, ?_⟩) hHeld ?_
    rotate_left 1
    · intro wS hSw; go_simp <;> with_reducible rfl
    simp only [put_lit, List.set_cons_zero, List.set_cons_succ]
    refine wpAnyH_done (by kernel_rfl) ?_ _
    skip
    have S3 := Lib.hid hT5
    have HV2 := Lib.hid hHeld
    have HB2 := Lib.hid (bel_t HB1.out hHeld)
    have hs2 : w1.heap.size ≤ w53.heap.size := HV2.out.size
    replace p0 := stays_below HV2.out _ _ _ p0
    replace p1 := stays_below HV2.out _ _ _ p1
    replace p2 := stays_below HV2.out _ _ _ p2
    replace p3 := stays_below HV2.out _ _ _ p3
    replace p4 := stays_below HV2.out _ _ _ p4
    clear hHeld HQ51 HQ52 hb51 hb52 hb53 hO53 hT5
    go_wp2_with fail
    refine (toBlockS_any _ _ _ ds _ (HP.out.keep HB2.out) hn HS.out).mono ?_
    rintro e w3 ⟨g3, G3, rfl, hR3, hb3⟩
    have HV3 := Lib.hid hb3
    have HB3 := Lib.hid (bel_t HB2.out hb3)
    have hs3 : w53.heap.size ≤ w3.heap.size := HV3.out.size
    replace p0 := stays_below HV3.out _ _ _ p0
    replace p1 := stays_below HV3.out _ _ _ p1
    replace p2 := stays_below HV3.out _ _ _ p2
    replace p3 := stays_below HV3.out _ _ _ p3
    replace p4 := stays_below HV3.out _ _ _ p4
    replace S3 := Lib.hid (S3.out.keep HV3.out)
    clear hb3
    have SX := Lib.hid (dvrow_o hR3)
    clear hR3
    have hzp3 : w.heap.size < w3.heap.size := block_lt_of_cell p0
    go_wp2_with fail
    refine (toPage_any _ _ _ _ _ _).mono ?_
    rintro e w4 ⟨rfl, hb4⟩
    have HV4 := Lib.hid hb4
    have HB4 := Lib.hid (bel_t HB3.out hb4)
    have hs4 : w3.heap.size ≤ w4.heap.size := HV4.out.size
    replace p0 := stays_below HV4.out _ _ _ p0
    replace p1 := stays_below HV4.out _ _ _ p1
    replace p2 := stays_below HV4.out _ _ _ p2
    replace p3 := stays_below HV4.out _ _ _ p3
    replace p4 := stays_below HV4.out _ _ _ p4
    replace S3 := Lib.hid (S3.out.keep HV4.out)
    replace SX := Lib.hid (SX.out.keep HV4.out)
    clear hb4
    go_wp2_with fail
    refine (iProgram _ _ _ ds a1 _ _ _ _ _ _ (SX.out.at hm)).mono ?_
    rw [HE.out]
    simp only []
    rintro e w5 ⟨v5, rfl, hO5, hb5⟩
    have HV5 := Lib.hid hb5
    have HB5 := Lib.hid (bel_t HB4.out hb5)
    have hs5 : w4.heap.size ≤ w5.heap.size := HV5.out.size
    replace p0 := stays_below HV5.out _ _ _ p0
    replace p1 := stays_below HV5.out _ _ _ p1
    replace p2 := stays_below HV5.out _ _ _ p2
    replace p3 := stays_below HV5.out _ _ _ p3
    replace p4 := stays_below HV5.out _ _ _ p4
    replace S3 := Lib.hid (S3.out.keep HV5.out)
    replace SX := Lib.hid (SX.out.keep HV5.out)
    clear hb5
    obtain ⟨A5, c5, rfl, hT5⟩ := devout hO5
    have S5 := Lib.hid hT5
    clear hO5 hT5
    go_wp2_with fail
    refine (eqBlockS_refl _ _ _ _ _ E _ (S5.out.at hmE) (S3.out.at hmE)).mono ?_
    rintro e w6 ⟨rfl, hb6⟩
    have HV6 := Lib.hid hb6
    have HB6 := Lib.hid (bel_t HB5.out hb6)
    have hs6 : w5.heap.size ≤ w6.heap.size := HV6.out.size
    replace p0 := stays_below HV6.out _ _ _ p0
    replace p1 := stays_below HV6.out _ _ _ p1
    replace p2 := stays_below HV6.out _ _ _ p2
    replace p3 := stays_below HV6.out _ _ _ p3
    replace p4 := stays_below HV6.out _ _ _ p4
    replace S3 := Lib.hid (S3.out.keep HV6.out)
    replace SX := Lib.hid (SX.out.keep HV6.out)
    replace S5 := Lib.hid (S5.out.keep HV6.out)
    clear hb6
    go_wp2_with fail
    refine (toBlockS_any _ _ _ ds _ (HP.out.keep HB6.out) hn HS.out).mono ?_
    rintro e w7 ⟨g7, G7, rfl, hR7, hb7⟩
    have HV7 := Lib.hid hb7
    have HB7 := Lib.hid (bel_t HB6.out hb7)
    have hs7 : w6.heap.size ≤ w7.heap.size := HV7.out.size
    replace p0 := stays_below HV7.out _ _ _ p0
    replace p1 := stays_below HV7.out _ _ _ p1
    replace p2 := stays_below HV7.out _ _ _ p2
    replace p3 := stays_below HV7.out _ _ _ p3
    replace p4 := stays_below HV7.out _ _ _ p4
    replace S3 := Lib.hid (S3.out.keep HV7.out)
    replace SX := Lib.hid (SX.out.keep HV7.out)
    replace S5 := Lib.hid (S5.out.keep HV7.out)
    clear hb7
    have SP := Lib.hid (dvrow_o hR7)
    clear hR7
    go_wp2_with fail
    refine (eqBlockS_refl _ _ _ _ _ ds _ (SX.out.at hm) (SP.out.at hm)).mono ?_
    rintro e w8 ⟨rfl, hb8⟩
    have HV8 := Lib.hid hb8
    have HB8 := Lib.hid (bel_t HB7.out hb8)
    have hs8 : w7.heap.size ≤ w8.heap.size := HV8.out.size
    replace p0 := stays_below HV8.out _ _ _ p0
    replace p1 := stays_below HV8.out _ _ _ p1
    replace p2 := stays_below HV8.out _ _ _ p2
    replace p3 := stays_below HV8.out _ _ _ p3
    replace p4 := stays_below HV8.out _ _ _ p4
    replace S3 := Lib.hid (S3.out.keep HV8.out)
    replace SX := Lib.hid (SX.out.keep HV8.out)
    replace S5 := Lib.hid (S5.out.keep HV8.out)
    replace SP := Lib.hid (SP.out.keep HV8.out)
    clear hb8
    clear SP
    go_wp2_with fail
    refine (markO_any _ _ _ w53.heap.size w3.heap.size ds _ SX.out hn HS.out).mono ?_
    rintro e w9 ⟨rfl, hS9, hC9⟩
    have HB9 := Lib.hid (hC9.2.2.2 _ _ HB8.out (by omega))
    have hs9 : w9.heap.size = w8.heap.size := hC9.1
    replace p0 := (hC9.2.1 _ _ (by omega)).trans p0
    replace p1 := (hC9.2.1 _ _ (by omega)).trans p1
    replace p2 := (hC9.2.1 _ _ (by omega)).trans p2
    replace p3 := (hC9.2.1 _ _ (by omega)).trans p3
    replace p4 := (hC9.2.1 _ _ (by omega)).trans p4
    replace S3 := Lib.hid (S3.out.chgI (by omega) hC9)
    replace S5 := Lib.hid (S5.out.chgI (by omega) hC9)
    replace SX := Lib.hid hS9
    clear hS9 hC9
    have hr0 : ¬ (yAt ds 1 n < 0) := by have := (yAt_b ds 1 n n HS.out (Nat.le_refl _)).1; omega
    clear SX
    go_wp2_with fail
    refine (eqBlockS_refl _ _ _ _ _ E _ (S5.out.at hmE) (S3.out.at hmE)).mono ?_
    rintro e w10 ⟨rfl, hb10⟩
    have HV10 := Lib.hid hb10
    have HB10 := Lib.hid (bel_t HB9.out hb10)
    have hs10 : w9.heap.size ≤ w10.heap.size := HV10.out.size
    replace p0 := stays_below HV10.out _ _ _ p0
    replace p1 := stays_below HV10.out _ _ _ p1
    replace p2 := stays_below HV10.out _ _ _ p2
    replace p3 := stays_below HV10.out _ _ _ p3
    replace p4 := stays_below HV10.out _ _ _ p4
    replace S3 := Lib.hid (S3.out.keep HV10.out)
    replace S5 := Lib.hid (S5.out.keep HV10.out)
    clear hb10
    go_wp2_with fail
    refine (markO_any _ _ _ w4.heap.size w5.heap.size E _ S5.out hnE HSE.out).mono ?_
    rintro e w11 ⟨rfl, hS11, hC11⟩
    have HB11 := Lib.hid (hC11.2.2.2 _ _ HB10.out (by omega))
    have hs11 : w11.heap.size = w10.heap.size := hC11.1
    replace p0 := (hC11.2.1 _ _ (by omega)).trans p0
    replace p1 := (hC11.2.1 _ _ (by omega)).trans p1
    replace p2 := (hC11.2.1 _ _ (by omega)).trans p2
    replace p3 := (hC11.2.1 _ _ (by omega)).trans p3
    replace p4 := (hC11.2.1 _ _ (by omega)).trans p4
    replace S3 := Lib.hid (S3.out.chgI (by omega) hC11)
    replace S5 := Lib.hid hS11
    clear hS11 hC11
    have hr1 : ¬ (yAt E 1 E.length < 0) := by have := (yAt_b E 1 E.length E.length HSE.out (Nat.le_refl _)).1; omega
    go_wp2_with fail
    refine (heldBlockS_any _ _ _ E _ (S5.out.at hmE) hnE HSE.out).mono ?_
    rintro e w12 ⟨rfl, hb12⟩
    have HV12 := Lib.hid hb12
    have HB12 := Lib.hid (bel_t HB11.out hb12)
    have hs12 : w11.heap.size ≤ w12.heap.size := HV12.out.size
    replace p0 := stays_below HV12.out _ _ _ p0
    replace p1 := stays_below HV12.out _ _ _ p1
    replace p2 := stays_below HV12.out _ _ _ p2
    replace p3 := stays_below HV12.out _ _ _ p3
    replace p4 := stays_below HV12.out _ _ _ p4
    replace S3 := Lib.hid (S3.out.keep HV12.out)
    replace S5 := Lib.hid (S5.out.keep HV12.out)
    clear hb12
    have hz13 : w.heap.size < w12.heap.size := block_lt_of_cell p0
    go_wp2_with fail
    refine reg_begin (by kernel_rfl) (fun hHeld => ?_)
    refine reg_take 0 84 (v := ?_) rfl rfl (by kernel_rfl) (by kernel_rfl) (by kernel_rfl) (fun _ _ _ h => h) (Or.inl ⟨by rfl, ?_⟩) hHeld ?_
    rotate_left 1
    · intro wS hSw; go_simp <;> with_reducible rfl
    simp only [put_lit, List.set_cons_zero, List.set_cons_succ]
    refine reg_take 2 86 (v := ?_) rfl rfl (by kernel_rfl) (by kernel_rfl) (by kernel_rfl) (fun _ _ _ h => h) (Or.inl ⟨by rfl, ?_⟩) hHeld ?_
    rotate_left 1
    · intro wS hSw; go_simp <;> with_reducible rfl
    simp only [put_lit, List.set_cons_zero, List.set_cons_succ]
    refine reg_take 3 87 (v := ?_) rfl rfl (by kernel_rfl) (by kernel_rfl) (by kernel_rfl) (fun _ _ _ h => h) (Or.inl ⟨by rfl, ?_⟩) hHeld ?_
    rotate_left 1
    · intro wS hSw; have hqS := bcellB hSw; go_simp <;> with_reducible rfl
    simp only [put_lit, List.set_cons_zero, List.set_cons_succ]
    refine wpAnyH_ready (rs := [1]) (by kernel_rfl) (by simp) ?_
    refine AllReadyH.cons rfl (fun K hK => ?_) AllReadyH.nil
    go_simp
    refine (toBlockS_any _ _ _ ds _ (HP.out.keep (bel_t HB12.out hHeld)) hn HS.out).mono ?_
    rintro e w71 ⟨g71, G71, rfl, hR71, hb71⟩
    have HQ71 := Lib.hid hR71
    clear hR71
    go_wp2_with fail
    refine hK.out _ _ ?_ (fun hHeld => ?_)
    · exact reg_call hHeld hb71 (Nat.le_refl _)
    clear hK K
    (try simp only [put_lit, List.set_cons_zero, List.set_cons_succ])
    refine wpAnyH_ready (rs := [4]) (by kernel_rfl) (by simp) ?_
    refine AllReadyH.cons rfl (fun K hK => ?_) AllReadyH.nil
    go_simp
    refine (toPage_any _ _ _ _ _ _).mono ?_
    rintro e w72 ⟨rfl, hb72⟩
    have HQ72 := Lib.hid (HQ71.out.keep hb72)
    go_wp2_with fail
    refine hK.out _ _ ?_ (fun hHeld => ?_)
    · exact reg_call hHeld hb72 (Nat.le_refl _)
    clear hK K
    (try simp only [put_lit, List.set_cons_zero, List.set_cons_succ])
    refine wpAnyH_ready (rs := [5]) (by kernel_rfl) (by simp) ?_
    refine AllReadyH.cons rfl (fun K hK => ?_) AllReadyH.nil
    go_simp
    refine (iProgram _ _ _ ds a1 _ _ _ _ _ _ (HQ72.out.at hm)).mono ?_
    rw [HE.out]
    simp only []
    rintro e w73 ⟨v73, rfl, hO73, hb73⟩
    obtain ⟨A7, c7, rfl, hT7⟩ := devout hO73
    have hlo7 : w12.heap.size ≤ w72.heap.size := hHeld.size
    go_wp2_with fail
    refine hK.out _ _ ?_ (fun hHeld => ?_)
    · exact reg_call hHeld hb73 (Nat.le_refl _)
    clear hK K
    (try simp only [put_lit, List.set_cons_zero, List.set_cons_succ])
    refine reg_take 6 83 (v := ?_) rfl rfl (by kernel_rfl) (by kernel_rfl) (by kernel_rfl) (fun _ _ _ h => h) (Or.inl ⟨by rfl, ?_⟩) hHeld ?_
    rotate_left 1
    · intro wS hSw; go_simp <;> with_reducible rfl
    simp only [put_lit, List.set_cons_zero, List.set_cons_succ]
    refine reg_take 7 90 (v := ?_) rfl rfl (by kernel_rfl) (by kernel_rfl) (by kernel_rfl) (fun _ _ _ h => h) (Or.inl ⟨by rfl, ?_⟩) hHeld ?_
    rotate_left 1
    · intro wS hSw; go_simp <;> with_reducible rfl
    simp only [put_lit, List.set_cons_zero, List.set_cons_succ]
    refine reg_take 8 91 (v := ?_) rfl rfl (by kernel_rfl) (by kernel_rfl) (by kernel_rfl) (fun _ _ _ h => h) (Or.inl ⟨by rfl, ?_⟩) hHeld ?_
    rotate_left 1
    · intro wS hSw; go_simp <;> with_reducible rfl
    simp only [put_lit, List.set_cons_zero, List.set_cons_succ]
    refine reg_take 9 16 (v := ?_) rfl rfl (by kernel_rfl) (by kernel_rfl) (by kernel_rfl) (fun _ _ _ h => h) (Or.inl ⟨by rfl, ?_⟩) hHeld ?_
    rotate_left 1
    · intro wS hSw; go_simp <;> with_reducible rfl
    simp only [put_lit, List.set_cons_zero, List.set_cons_succ]
    refine reg_take 10 17 (v := ?_) rfl rfl (by kernel_rfl) (by kernel_rfl) (by kernel_rfl) (fun _ _ _ h => h) (Or.inl ⟨by rfl, ?_⟩) hHeld ?_
    rotate_left 1
    · intro wS hSw; go_simp <;> with_reducible rfl
    simp only [put_lit, List.set_cons_zero, List.set_cons_succ]
    refine wpAnyH_done (by kernel_rfl) ?_ _
    skip
    have S14 := Lib.hid hT7
    have HV13 := Lib.hid hHeld
    have HB13 := Lib.hid (bel_t HB12.out hHeld)
    have hs13 : w12.heap.size ≤ w73.heap.size := HV13.out.size
    replace p0 := stays_below HV13.out _ _ _ p0
    replace p1 := stays_below HV13.out _ _ _ p1
    replace p2 := stays_below HV13.out _ _ _ p2
    replace p3 := stays_below HV13.out _ _ _ p3
    replace p4 := stays_below HV13.out _ _ _ p4
    replace S3 := Lib.hid (S3.out.keep HV13.out)
    replace S5 := Lib.hid (S5.out.keep HV13.out)
    clear hHeld HQ71 HQ72 hb71 hb72 hb73 hO73 hT7
    go_wp2_with fail
    refine (eqBlockS_refl _ _ _ _ _ E _ (S14.out.at hmE) (S3.out.at hmE)).mono ?_
    rintro e w14 ⟨rfl, hb14⟩
    have HV14 := Lib.hid hb14
    have HB14 := Lib.hid (bel_t HB13.out hb14)
    have hs14 : w73.heap.size ≤ w14.heap.size := HV14.out.size
    replace p0 := stays_below HV14.out _ _ _ p0
    replace p1 := stays_below HV14.out _ _ _ p1
    replace p2 := stays_below HV14.out _ _ _ p2
    replace p3 := stays_below HV14.out _ _ _ p3
    replace p4 := stays_below HV14.out _ _ _ p4
    replace S3 := Lib.hid (S3.out.keep HV14.out)
    replace S5 := Lib.hid (S5.out.keep HV14.out)
    replace S14 := Lib.hid (S14.out.keep HV14.out)
    clear hb14
    go_wp2_with fail
    refine (heldBlockS_any _ _ _ E _ (S5.out.at hmE) hnE HSE.out).mono ?_
    rintro e w15 ⟨rfl, hb15⟩
    have HV15 := Lib.hid hb15
    have HB15 := Lib.hid (bel_t HB14.out hb15)
    have hs15 : w14.heap.size ≤ w15.heap.size := HV15.out.size
    replace p0 := stays_below HV15.out _ _ _ p0
    replace p1 := stays_below HV15.out _ _ _ p1
    replace p2 := stays_below HV15.out _ _ _ p2
    replace p3 := stays_below HV15.out _ _ _ p3
    replace p4 := stays_below HV15.out _ _ _ p4
    replace S3 := Lib.hid (S3.out.keep HV15.out)
    replace S5 := Lib.hid (S5.out.keep HV15.out)
    replace S14 := Lib.hid (S14.out.keep HV15.out)
    clear hb15
    go_wp2
    go_ret
    exact ⟨rfl, HB15.out⟩

namespace fnExactProgram
open Go.ChangeShapes Go.WideShapes Go.ChangeAt Go.RowKit
theorem own : ownKnob Try.prog.godebug = none := by kernel_rfl
theorem laidOut : laidOutB Try.prog = true := by kernel_rfl
theorem spec_ok : LawSpec Rows.fnExactProgramSpec 3 := ⟨rfl, fun H ds h => by
  match ds, h with
  | [_, _, _], _ => exact ⟨rfl, rfl, rfl⟩⟩
theorem rd3 : Try.prog.readableRec 3 = true ∧ 3 < Try.prog.types.size := ⟨by kernel_rfl, of_decide_eq_true (by kernel_rfl)⟩
theorem rd35 : Try.prog.readableRec 35 = true ∧ 35 < Try.prog.types.size := ⟨by kernel_rfl, of_decide_eq_true (by kernel_rfl)⟩
theorem rd42 : Try.prog.readableRec 42 = true ∧ 42 < Try.prog.types.size := ⟨by kernel_rfl, of_decide_eq_true (by kernel_rfl)⟩
set_option maxRecDepth 100000 in
theorem lifted (os : Os) (started : os.Started) (H : Type) (enc : TypeId × Value → H) :
    ReturnsInHanded {} Try.checked os 10 .any (Rows.fnExactProgramSpec.pre6 enc Try.prog Try.f10 Rows.fnExactProgramRow.domain false) (Rows.fnExactProgramSpec.post enc Try.prog Try.f10 false true false false) := by
  refine law_lifted (C := Try.checked) (tb := 4) own started (by kernel_rfl) Try.func10 laidOut ?_ spec_ok (by rfl) Try.underlying4
    (ChangeSpec.witness6 (enc := enc) (C := Try.checked) false ⟨#[], #[.slice none 0 0, .int .i64 0, .agg #[.bool false, .int .i64 0, .int .i64 0, .int .i64 0, .int .i64 0]], []⟩ 8 (by kernel_rfl) (by kernel_rfl) (by kernel_rfl) (by kernel_rfl)) ?_
  · rw [Try.params10]
    intro t ht
    simp only [List.mem_cons, List.not_mem_nil, or_false] at ht
    rcases ht with rfl | rfl | rfl
    · exact rd42
    · exact rd3
    · exact rd35
  · intro W base args ds ps hval0 hA0
    have hval : ∀ (j : Nat) t v, Try.f10.params[j]? = some t → args[j]? = some v → Value.okWide Try.prog W .any base t v := hval0
    have hA : DataW.TrodAll enc Try.prog W 0 (fun _ => true) true Try.f10.params.toList args.toList ds ps := hA0
    clear hval0 hA0
    rw [Try.params10] at hA hval
    obtain ⟨v0, vs0, d0, ds0, p0, q0, hargs, rfl, rfl, h0, r0⟩ := trodAll_cons hA
    obtain ⟨v1, vs1, d1, ds1, p1, q1, rfl, rfl, rfl, h1, r1⟩ := trodAll_cons r0
    obtain ⟨v2, vs2, d2, ds2, p2, q2, rfl, rfl, rfl, h2, r2⟩ := trodAll_cons r1
    obtain ⟨rfl, rfl, rfl⟩ := trodAll_nil r2
    obtain rfl : args = #[v0, v1, v2] := by cases args; simp_all
    obtain ⟨x0, rfl, hx0⟩ := open_D Try.underlying42 tyLB (hval 0 42 v0 rfl rfl) h0
    obtain ⟨a1, rfl, rfl, rfl, w1⟩ := open_int Try.underlying3 (hval 1 3 v1 rfl rfl) h1
    obtain ⟨a2, rfl⟩ := open_page Try.underlying35 (by kernel_rfl) (by kernel_rfl) Try.underlying4 Try.underlying3 (hval 2 35 v2 rfl rfl) h2
    exact walk_FnExactProgram x0 a1 a2 W hx0 w1

theorem over : Rows.fnExactProgramRow.holds Try.pinned (OpenSpec.ofChange Rows.fnExactProgramSpec) :=
  OpenClaim.holds_of_wide 10 Try.f10 rfl rfl rfl rfl rfl rfl rfl ⟨rfl, rfl, rfl, rfl, rfl⟩ rfl rfl rfl rfl rfl (by kernel_rfl) Try.func10 (by kernel_rfl)
    (of_decide_eq_true (by kernel_rfl)) (by unfold Func.isWrapper; first | (rw [if_pos (by decide +kernel)]; kernel_rfl) | (rw [if_neg (by decide +kernel)]; exact ⟨rfl, rfl⟩))
    (fun os started H enc _ => lifted os started H enc)

theorem proved : Rows.FnExactProgramSaid :=
  over
#print axioms proved
end fnExactProgram
end Go.Proofs.Ytbinphenccnhoaa
