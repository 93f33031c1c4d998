/- The law FnExactEraseBlock: for every block the program's EraseBlock returns what the reference's returns, and keeps nothing of it, so the law returns true. No conditions. -/
import Derived.Test.YtcmmamgbckglnaaRows
import Derived.Test.YtcmmamgbckglnaaTypes
import Derived.Test.YtcmmamgbckglnaaMarks
import Derived.Test.YtcmmamgbckglnaaWrite
namespace Go.Proofs.Ytcmmamgbckglnaa
open Go.RowKit
set_option linter.unusedVariables false

theorem nb_len' (x : Int) : (newBlockF x).pages.length ≤ 4 := by
  by_cases h : 0 ≤ x ∧ x ≤ 100
  · rw [nb_1 x h]; simp
  · rw [nb_2 x h]; simp
theorem eb_len (b : Bl) : (eraseBlockF b).1.pages.length ≤ 4 := by
  obtain ⟨z, ps⟩ := b
  cases hv : blockValidF ⟨z, ps⟩
  · rw [eb_1 _ hv]; exact Nat.zero_le _
  · by_cases hz : z = 100
    · rw [eb_2 z ps hv hz]; exact Nat.le_of_eq (bv_len _ hv)
    · rw [eb_3 z ps hv hz]; exact nb_len' _

set_option maxHeartbeats 8000000 in
theorem walk_FnExactEraseBlock (x : Ba) (w : World) (hx : PgsAt w x.A x.n x.ps) :
    Calls Try.prog 5 #[x.val] w fun e w' => e = .returned (.bool true) ∧ Below w.heap.size w w' := by
  obtain ⟨z, A, n, c, ps⟩ := x
  simp only [Ba.val] at *
  have HP := Lib.hid hx
  have hm := hx.2.1
  clear hx
  obtain ⟨⟨eb, ok⟩, HEB⟩ : ∃ r, Hid (eraseBlockF ⟨z, ps⟩ = r) := ⟨_, rfl⟩
  have hlen : eb.pages.length ≤ 4 := by have := eb_len ⟨z, ps⟩; rw [HEB.out] at this; exact this
  have HB0 := Lib.hid (bel_1 w (.cells #[.int .i64 z, .slice A n c] 35))
  have B0 : Hid ((w.alloc (.cells #[.int .i64 z, .slice A n c] 35)).cell? ⟨w.heap.size, 0, none⟩ = some (.int .i64 z)) := Lib.hid (by simp [go_sem])
  have B1 : Hid ((w.alloc (.cells #[.int .i64 z, .slice A n c] 35)).cell? ⟨w.heap.size, 1, none⟩ = some (.slice A n c)) := Lib.hid (by simp [go_sem])
  by_cases hn : 1048576 < n
  · go_enter Try.func5, Try.ntmps5
    go_wp2_with fail
    refine (szBlock_any _ _ _ _ _ _ (by omega) (by omega) hm).mono ?_
    rw [if_pos (by omega)]
    rintro e w1 ⟨rfl, hb1⟩
    go_wp2
    go_ret
    exact ⟨rfl, bel_t HB0.out hb1⟩
  · go_enter Try.func5, Try.ntmps5
    go_wp2_with fail
    refine (szBlock_any _ _ _ _ _ _ (by omega) (by omega) hm).mono ?_
    generalize w.alloc (.cells #[.int .i64 z, .slice A n c] 35) = W at *
    rw [if_neg (by omega)]
    rintro e w1 ⟨rfl, hb1⟩
    have hv1 : ¬ (1048576 - (n : Int) < 0) := by omega
    have b0 := B0.out
    have b1 := B1.out
    have HV1 := Lib.hid (hb1)
    have HB1 := Lib.hid (bel_t HB0.out HV1.out)
    replace b0 := stays_below HV1.out _ _ _ b0
    replace b1 := stays_below HV1.out _ _ _ b1
    have zb0_1 : w.heap.size < w1.heap.size := block_lt_of_cell b0
    clear HB0 B0 B1 hb1
    go_wp2_with fail
    refine (toBlock_any _ _ _ _ ps _ (HP.out.keep HB1.out) (by omega)).mono ?_
    rintro e w2 ⟨g2, rfl, hg2, hR2, hb2⟩
    have HV2 := Lib.hid (hb2)
    have HB2 := Lib.hid (bel_t HB1.out HV2.out)
    replace b0 := stays_below HV2.out _ _ _ b0
    replace b1 := stays_below HV2.out _ _ _ b1
    have zb0_2 : w.heap.size < w2.heap.size := block_lt_of_cell b0
    have SP := Lib.hid hR2
    clear hR2
    go_wp2_with fail
    refine (sEraseBlock _ _ _ _ ps _ (SP.out.at hm)).mono ?_
    rw [HEB.out]
    simp only []
    rintro e w3 ⟨v3, rfl, ⟨A3, n3, c3, q3, rfl, hn3, hq3, hS3⟩, hb3⟩
    have HV3 := Lib.hid (hb3)
    have HB3 := Lib.hid (bel_t HB2.out HV3.out)
    replace b0 := stays_below HV3.out _ _ _ b0
    replace b1 := stays_below HV3.out _ _ _ b1
    have zb0_3 : w.heap.size < w3.heap.size := block_lt_of_cell b0
    obtain rfl : n3 = eb.pages.length := (hS3.at hn3).1.symm
    obtain ⟨p3, hp3, hT3⟩ := hS3.norm w3.heap.size
    have S3 := Lib.hid hT3
    have hp3' : p3 ≤ w3.heap.size := by omega
    clear hS3 hT3 hp3 SP
    go_wp2_with fail
    refine (toBlock_any _ _ _ _ ps _ (HP.out.keep (bel_t HB3.out (bel_1 _ _))) (by omega)).mono ?_
    rintro e w4 ⟨g4, rfl, hg4, hR4, hb4⟩
    have HV4 := Lib.hid (bel_t (bel_1 _ _) hb4)
    have HB4 := Lib.hid (bel_t HB3.out HV4.out)
    replace b0 := stays_below HV4.out _ _ _ b0
    replace b1 := stays_below HV4.out _ _ _ b1
    have zb0_4 : w.heap.size < w4.heap.size := block_lt_of_cell b0
    replace S3 := Lib.hid (S3.out.keep HV4.out)
    have aa0 : w4.cell? ⟨w3.heap.size, 0, none⟩ = some (.int .i64 eb.wear) := stays_below hb4 _ _ _ (by simp [go_sem])
    have aa1 : w4.cell? ⟨w3.heap.size, 1, none⟩ = some (.slice A3 eb.pages.length c3) := stays_below hb4 _ _ _ (by simp [go_sem])
    have zaa : w3.heap.size < w4.heap.size := block_lt_of_cell aa0
    have SX : Hid (Sl w4 (some ⟨g4, 0, none⟩) n g4 ps) := Lib.hid (Or.inr ⟨rfl, hR4⟩)
    have hg4a : w3.heap.size < g4 := by have := hg4; simp at this; omega
    have hg4b : g4 < w4.heap.size := hR4.2.1
    clear hR4
    go_wp2_with fail
    refine (iEraseBlock _ _ _ _ ps _ ((SX.out.keep (bel_1 _ _)).at hm)).mono ?_
    rw [HEB.out]
    simp only []
    rintro e w5 ⟨v5, rfl, ⟨A5, n5, c5, q5, rfl, hn5, hq5, hS5⟩, hb5⟩
    have HV5 := Lib.hid (bel_t (bel_1 _ _) hb5)
    have HB5 := Lib.hid (bel_t HB4.out HV5.out)
    replace b0 := stays_below HV5.out _ _ _ b0
    replace b1 := stays_below HV5.out _ _ _ b1
    replace aa0 := stays_below HV5.out _ _ _ aa0
    replace aa1 := stays_below HV5.out _ _ _ aa1
    have zb0_5 : w.heap.size < w5.heap.size := block_lt_of_cell b0
    have zaa0_5 : w3.heap.size < w5.heap.size := block_lt_of_cell aa0
    replace S3 := Lib.hid (S3.out.keep HV5.out)
    replace SX := Lib.hid (SX.out.keep HV5.out)
    have xx0 : w5.cell? ⟨w4.heap.size, 0, none⟩ = some (.int .i64 z) := stays_below hb5 _ _ _ (by simp [go_sem])
    have xx1 : w5.cell? ⟨w4.heap.size, 1, none⟩ = some (.slice (some ⟨g4, 0, none⟩) n n) := stays_below hb5 _ _ _ (by simp [go_sem])
    have zxx : w4.heap.size < w5.heap.size := block_lt_of_cell xx0
    obtain rfl : n5 = eb.pages.length := (hS5.at hn5).1.symm
    have hq5' : w4.heap.size < q5 := by have := hq5; simp at this; omega
    obtain ⟨p5, hp5, hT5⟩ := hS5.norm (w5.heap.size + 1)
    have S5 := Lib.hid hT5
    have hp5' : w4.heap.size < p5 := by omega
    have hp5n : p5 ≠ w5.heap.size := by omega
    clear hS5 hT5
    go_wp2_with fail
    refine (eqBlock_refl _ _ _ _ _ _ eb.pages _ ((S5.out.keep (bel_1 _ _)).at hn5) ((S3.out.keep (bel_1 _ _)).at hn3)).mono ?_
    rintro e w6 ⟨rfl, hb6⟩
    have HV6 := Lib.hid (bel_t (bel_1 _ _) hb6)
    have HB6 := Lib.hid (bel_t HB5.out HV6.out)
    replace b0 := stays_below HV6.out _ _ _ b0
    replace b1 := stays_below HV6.out _ _ _ b1
    replace aa0 := stays_below HV6.out _ _ _ aa0
    replace aa1 := stays_below HV6.out _ _ _ aa1
    replace xx0 := stays_below HV6.out _ _ _ xx0
    replace xx1 := stays_below HV6.out _ _ _ xx1
    have zb0_6 : w.heap.size < w6.heap.size := block_lt_of_cell b0
    have zaa0_6 : w3.heap.size < w6.heap.size := block_lt_of_cell aa0
    have zxx0_6 : w4.heap.size < w6.heap.size := block_lt_of_cell xx0
    replace S3 := Lib.hid (S3.out.keep HV6.out)
    replace SX := Lib.hid (SX.out.keep HV6.out)
    replace S5 := Lib.hid (S5.out.keep HV6.out)
    have gg0 : w6.cell? ⟨w5.heap.size, 0, none⟩ = some (.int .i64 eb.wear) := stays_below hb6 _ _ _ (by simp [go_sem])
    have gg1 : w6.cell? ⟨w5.heap.size, 1, none⟩ = some (.slice A5 eb.pages.length c5) := stays_below hb6 _ _ _ (by simp [go_sem])
    have zgg : w5.heap.size < w6.heap.size := block_lt_of_cell gg0
    go_wp2_with fail
    refine reg_begin (by kernel_rfl) (fun hHeld => ?_)
    refine reg_take 0 41 (v := ?_) rfl rfl (by kernel_rfl) (by kernel_rfl) (by kernel_rfl) (fun _ _ _ h => h) (Or.inl ⟨by rfl, ?_⟩) hHeld ?_
    rotate_left 1
    · intro wS hSw; have hqS := bcellB hSw; go_simp <;> with_reducible rfl
    simp only [put_lit, List.set_cons_zero, List.set_cons_succ]
    refine reg_take 1 42 (v := ?_) rfl rfl (by kernel_rfl) (by kernel_rfl) (by kernel_rfl) (fun _ _ _ h => h) (Or.inl ⟨by rfl, ?_⟩) hHeld ?_
    rotate_left 1
    · intro wS hSw; have hqS := bcellB hSw; go_simp <;> with_reducible rfl
    simp only [put_lit, List.set_cons_zero, List.set_cons_succ]
    refine wpAnyH_ready (rs := [2]) (by kernel_rfl) (by simp) ?_
    refine AllReadyH.cons rfl (fun K hK => ?_) AllReadyH.nil
    go_simp
    refine (toBlock_any _ _ _ _ ps _ (HP.out.keep (bel_t HB6.out hHeld)) (by omega)).mono ?_
    rintro e w81 ⟨g8, rfl, hg8, HR8, hb81⟩
    go_wp2_with fail
    refine hK.out _ _ ?_ (fun hHeld => ?_)
    · exact reg_call hHeld hb81 (Nat.le_refl _)
    clear hK K
    (try simp only [put_lit, List.set_cons_zero, List.set_cons_succ])
    refine wpAnyH_ready (rs := [3]) (by kernel_rfl) (by simp) ?_
    refine AllReadyH.cons rfl (fun K hK => ?_) AllReadyH.nil
    go_simp
    refine (eqBlock_refl _ _ _ _ _ _ ps _ ((SX.out.keep hHeld).at hm) (HR8.at hm)).mono ?_
    rintro e w82 ⟨rfl, hb82⟩
    go_wp2_with fail
    refine hK.out _ _ ?_ (fun hHeld => ?_)
    · exact reg_call hHeld hb82 (Nat.le_refl _)
    clear hK K
    (try simp only [put_lit, List.set_cons_zero, List.set_cons_succ])
    refine reg_take 4 45 (v := ?_) rfl rfl (by kernel_rfl) (by kernel_rfl) (by kernel_rfl) (fun _ _ _ h => h) (Or.inl ⟨by rfl, ?_⟩) hHeld ?_
    rotate_left 1
    · intro wS hSw; go_simp <;> with_reducible rfl
    simp only [put_lit, List.set_cons_zero, List.set_cons_succ]
    refine wpAnyH_done (by kernel_rfl) ?_ _
    skip
    have HV7 := Lib.hid (hHeld)
    have HB7 := Lib.hid (bel_t HB6.out HV7.out)
    replace b0 := stays_below HV7.out _ _ _ b0
    replace b1 := stays_below HV7.out _ _ _ b1
    replace aa0 := stays_below HV7.out _ _ _ aa0
    replace aa1 := stays_below HV7.out _ _ _ aa1
    replace xx0 := stays_below HV7.out _ _ _ xx0
    replace xx1 := stays_below HV7.out _ _ _ xx1
    replace gg0 := stays_below HV7.out _ _ _ gg0
    replace gg1 := stays_below HV7.out _ _ _ gg1
    have zb0_7 : w.heap.size < w82.heap.size := block_lt_of_cell b0
    have zaa0_7 : w3.heap.size < w82.heap.size := block_lt_of_cell aa0
    have zxx0_7 : w4.heap.size < w82.heap.size := block_lt_of_cell xx0
    have zgg0_7 : w5.heap.size < w82.heap.size := block_lt_of_cell gg0
    replace S3 := Lib.hid (S3.out.keep HV7.out)
    replace SX := Lib.hid (SX.out.keep HV7.out)
    replace S5 := Lib.hid (S5.out.keep HV7.out)
    clear hHeld hb81 hb82 HR8
    have hw1 : w.heap.size < w3.heap.size := zb0_3
    have hp5m : p5 < w82.heap.size ∨ eb.pages.length = 0 := by have := zgg; have := zgg0_7; omega
    have hg4c : g4 < w82.heap.size := by have := zgg0_7; omega
    have hx45 : w4.heap.size < w5.heap.size := zxx
    have hx34 : w3.heap.size < w4.heap.size := zaa
    go_wp2_with fail
    refine (markBlock_any _ (some ⟨g4, 0, none⟩) n n g4 ps 1 _ SX.out (by omega) (by omega) (by omega) (by omega)).mono ?_
    rintro e w8 ⟨rfl, hS8, wm8, hm8, hC8⟩
    have HB8 := Lib.hid (hC8.2.2.2 _ _ (bel_t HB7.out hm8) (by omega))
    replace b0 := (hC8.2.1 _ _ (by omega)).trans (stays_below hm8 _ _ _ b0)
    replace b1 := (hC8.2.1 _ _ (by omega)).trans (stays_below hm8 _ _ _ b1)
    replace aa0 := (hC8.2.1 _ _ (by omega)).trans (stays_below hm8 _ _ _ aa0)
    replace aa1 := (hC8.2.1 _ _ (by omega)).trans (stays_below hm8 _ _ _ aa1)
    replace xx0 := (hC8.2.1 _ _ (by omega)).trans (stays_below hm8 _ _ _ xx0)
    replace xx1 := (hC8.2.1 _ _ (by omega)).trans (stays_below hm8 _ _ _ xx1)
    replace gg0 := (hC8.2.1 _ _ (by omega)).trans (stays_below hm8 _ _ _ gg0)
    replace gg1 := (hC8.2.1 _ _ (by omega)).trans (stays_below hm8 _ _ _ gg1)
    replace S3 := Lib.hid ((S3.out.keep hm8).chg (by omega) hC8)
    replace S5 := Lib.hid ((S5.out.keep hm8).chg (by omega) hC8)
    replace SX := Lib.hid hS8
    have hz8 : w8.heap.size = wm8.heap.size := hC8.1
    have hy8 := hm8.size
    clear hS8 hm8 hC8
    have hr0 : ¬ (1 + 5 * (n : Int) < 0) := by omega
    go_wp2_with fail
    refine (eqBlock_refl _ _ _ _ _ _ eb.pages _ (S5.out.at hn5) (S3.out.at hn3)).mono ?_
    rintro e w9 ⟨rfl, hb9⟩
    have HV9 := Lib.hid (hb9)
    have HB9 := Lib.hid (bel_t HB8.out HV9.out)
    replace b0 := stays_below HV9.out _ _ _ b0
    replace b1 := stays_below HV9.out _ _ _ b1
    replace aa0 := stays_below HV9.out _ _ _ aa0
    replace aa1 := stays_below HV9.out _ _ _ aa1
    replace xx0 := stays_below HV9.out _ _ _ xx0
    replace xx1 := stays_below HV9.out _ _ _ xx1
    replace gg0 := stays_below HV9.out _ _ _ gg0
    replace gg1 := stays_below HV9.out _ _ _ gg1
    have zb0_9 : w.heap.size < w9.heap.size := block_lt_of_cell b0
    have zaa0_9 : w3.heap.size < w9.heap.size := block_lt_of_cell aa0
    have zxx0_9 : w4.heap.size < w9.heap.size := block_lt_of_cell xx0
    have zgg0_9 : w5.heap.size < w9.heap.size := block_lt_of_cell gg0
    replace S3 := Lib.hid (S3.out.keep HV9.out)
    replace SX := Lib.hid (SX.out.keep HV9.out)
    replace S5 := Lib.hid (S5.out.keep HV9.out)
    clear SX
    have hp5q : p5 < w9.heap.size ∨ eb.pages.length = 0 := by have := HV9.out.size; omega
    go_wp2_with fail
    refine (markBlock_any _ A5 eb.pages.length c5 p5 eb.pages 1 _ S5.out (by omega) (by omega) (by omega) (by omega)).mono ?_
    rintro e w10 ⟨rfl, hS10, wm10, hm10, hC10⟩
    have HB10 := Lib.hid (hC10.2.2.2 _ _ (bel_t HB9.out hm10) (by omega))
    replace b0 := (hC10.2.1 _ _ (by omega)).trans (stays_below hm10 _ _ _ b0)
    replace b1 := (hC10.2.1 _ _ (by omega)).trans (stays_below hm10 _ _ _ b1)
    replace aa0 := (hC10.2.1 _ _ (by omega)).trans (stays_below hm10 _ _ _ aa0)
    replace aa1 := (hC10.2.1 _ _ (by omega)).trans (stays_below hm10 _ _ _ aa1)
    replace xx0 := (hC10.2.1 _ _ (by omega)).trans (stays_below hm10 _ _ _ xx0)
    replace xx1 := (hC10.2.1 _ _ (by omega)).trans (stays_below hm10 _ _ _ xx1)
    replace gg0 := (hC10.2.1 _ _ (by omega)).trans (stays_below hm10 _ _ _ gg0)
    replace gg1 := (hC10.2.1 _ _ (by omega)).trans (stays_below hm10 _ _ _ gg1)
    replace S3 := Lib.hid ((S3.out.keep hm10).chg (by omega) hC10)
    replace S5 := Lib.hid hS10
    have hz10 : w10.heap.size = wm10.heap.size := hC10.1
    have hy10 := hm10.size
    clear hS10 hm10 hC10
    have hr1 : ¬ (1 + 5 * (eb.pages.length : Int) < 0) := by omega
    go_wp2_with fail
    refine (heldBlock_any _ _ _ _ _ _ (S5.out.at hn5) (by omega) (by omega) (by omega)).mono ?_
    rintro e w11 ⟨rfl, hb11⟩
    have HV11 := Lib.hid (hb11)
    have HB11 := Lib.hid (bel_t HB10.out HV11.out)
    replace b0 := stays_below HV11.out _ _ _ b0
    replace b1 := stays_below HV11.out _ _ _ b1
    replace aa0 := stays_below HV11.out _ _ _ aa0
    replace aa1 := stays_below HV11.out _ _ _ aa1
    replace xx0 := stays_below HV11.out _ _ _ xx0
    replace xx1 := stays_below HV11.out _ _ _ xx1
    replace gg0 := stays_below HV11.out _ _ _ gg0
    replace gg1 := stays_below HV11.out _ _ _ gg1
    have zb0_11 : w.heap.size < w11.heap.size := block_lt_of_cell b0
    have zaa0_11 : w3.heap.size < w11.heap.size := block_lt_of_cell aa0
    have zxx0_11 : w4.heap.size < w11.heap.size := block_lt_of_cell xx0
    have zgg0_11 : w5.heap.size < w11.heap.size := block_lt_of_cell gg0
    replace S3 := Lib.hid (S3.out.keep HV11.out)
    replace S5 := Lib.hid (S5.out.keep HV11.out)
    go_wp2_with fail
    refine (toBlock_any _ _ _ _ ps _ (HP.out.keep HB11.out) (by omega)).mono ?_
    rintro e w12 ⟨g12, rfl, hg12, hR12, hb12⟩
    have HV12 := Lib.hid (hb12)
    have HB12 := Lib.hid (bel_t HB11.out HV12.out)
    replace b0 := stays_below HV12.out _ _ _ b0
    replace b1 := stays_below HV12.out _ _ _ b1
    replace aa0 := stays_below HV12.out _ _ _ aa0
    replace aa1 := stays_below HV12.out _ _ _ aa1
    replace xx0 := stays_below HV12.out _ _ _ xx0
    replace xx1 := stays_below HV12.out _ _ _ xx1
    replace gg0 := stays_below HV12.out _ _ _ gg0
    replace gg1 := stays_below HV12.out _ _ _ gg1
    have zb0_12 : w.heap.size < w12.heap.size := block_lt_of_cell b0
    have zaa0_12 : w3.heap.size < w12.heap.size := block_lt_of_cell aa0
    have zxx0_12 : w4.heap.size < w12.heap.size := block_lt_of_cell xx0
    have zgg0_12 : w5.heap.size < w12.heap.size := block_lt_of_cell gg0
    replace S3 := Lib.hid (S3.out.keep HV12.out)
    replace S5 := Lib.hid (S5.out.keep HV12.out)
    have SP := Lib.hid hR12
    clear hR12
    go_wp2_with fail
    refine (iEraseBlock _ _ _ _ ps _ (SP.out.at hm)).mono ?_
    rw [HEB.out]
    simp only []
    rintro e w13 ⟨v13, rfl, ⟨A13, n13, c13, q13, rfl, hn13, hq13, hS13⟩, hb13⟩
    have HV13 := Lib.hid (hb13)
    have HB13 := Lib.hid (bel_t HB12.out HV13.out)
    replace b0 := stays_below HV13.out _ _ _ b0
    replace b1 := stays_below HV13.out _ _ _ b1
    replace aa0 := stays_below HV13.out _ _ _ aa0
    replace aa1 := stays_below HV13.out _ _ _ aa1
    replace xx0 := stays_below HV13.out _ _ _ xx0
    replace xx1 := stays_below HV13.out _ _ _ xx1
    replace gg0 := stays_below HV13.out _ _ _ gg0
    replace gg1 := stays_below HV13.out _ _ _ gg1
    have zb0_13 : w.heap.size < w13.heap.size := block_lt_of_cell b0
    have zaa0_13 : w3.heap.size < w13.heap.size := block_lt_of_cell aa0
    have zxx0_13 : w4.heap.size < w13.heap.size := block_lt_of_cell xx0
    have zgg0_13 : w5.heap.size < w13.heap.size := block_lt_of_cell gg0
    replace S3 := Lib.hid (S3.out.keep HV13.out)
    replace S5 := Lib.hid (S5.out.keep HV13.out)
    obtain rfl : n13 = eb.pages.length := (hS13.at hn13).1.symm
    have S13 := Lib.hid hS13
    clear hS13 SP
    go_wp2_with fail
    refine (eqBlock_refl _ _ _ _ _ _ eb.pages _ ((S13.out.keep (bel_1 _ _)).at hn13) ((S3.out.keep (bel_1 _ _)).at hn3)).mono ?_
    rintro e w14 ⟨rfl, hb14⟩
    have HV14 := Lib.hid (bel_t (bel_1 _ _) hb14)
    have HB14 := Lib.hid (bel_t HB13.out HV14.out)
    replace b0 := stays_below HV14.out _ _ _ b0
    replace b1 := stays_below HV14.out _ _ _ b1
    replace aa0 := stays_below HV14.out _ _ _ aa0
    replace aa1 := stays_below HV14.out _ _ _ aa1
    replace xx0 := stays_below HV14.out _ _ _ xx0
    replace xx1 := stays_below HV14.out _ _ _ xx1
    replace gg0 := stays_below HV14.out _ _ _ gg0
    replace gg1 := stays_below HV14.out _ _ _ gg1
    have zb0_14 : w.heap.size < w14.heap.size := block_lt_of_cell b0
    have zaa0_14 : w3.heap.size < w14.heap.size := block_lt_of_cell aa0
    have zxx0_14 : w4.heap.size < w14.heap.size := block_lt_of_cell xx0
    have zgg0_14 : w5.heap.size < w14.heap.size := block_lt_of_cell gg0
    replace S3 := Lib.hid (S3.out.keep HV14.out)
    replace S5 := Lib.hid (S5.out.keep HV14.out)
    replace S13 := Lib.hid (S13.out.keep HV14.out)
    go_wp2_with fail
    refine (heldBlock_any _ _ _ _ _ _ (S5.out.at hn5) (by omega) (by omega) (by omega)).mono ?_
    rintro e w15 ⟨rfl, hb15⟩
    have HV15 := Lib.hid (hb15)
    have HB15 := Lib.hid (bel_t HB14.out HV15.out)
    replace b0 := stays_below HV15.out _ _ _ b0
    replace b1 := stays_below HV15.out _ _ _ b1
    replace aa0 := stays_below HV15.out _ _ _ aa0
    replace aa1 := stays_below HV15.out _ _ _ aa1
    replace xx0 := stays_below HV15.out _ _ _ xx0
    replace xx1 := stays_below HV15.out _ _ _ xx1
    replace gg0 := stays_below HV15.out _ _ _ gg0
    replace gg1 := stays_below HV15.out _ _ _ gg1
    have zb0_15 : w.heap.size < w15.heap.size := block_lt_of_cell b0
    have zaa0_15 : w3.heap.size < w15.heap.size := block_lt_of_cell aa0
    have zxx0_15 : w4.heap.size < w15.heap.size := block_lt_of_cell xx0
    have zgg0_15 : w5.heap.size < w15.heap.size := block_lt_of_cell gg0
    replace S3 := Lib.hid (S3.out.keep HV15.out)
    replace S5 := Lib.hid (S5.out.keep HV15.out)
    replace S13 := Lib.hid (S13.out.keep HV15.out)
    go_wp2
    go_ret
    exact ⟨rfl, HB15.out⟩

namespace fnExactEraseBlock
open Go.ChangeShapes Go.WideShapes Go.ChangeAt Go.RowKit
theorem own : ownKnob Try.prog.godebug = none := by kernel_rfl
theorem laidOut : laidOutB Try.prog = true := by kernel_rfl
theorem spec_ok : LawSpec Rows.fnExactEraseBlockSpec 1 := ⟨rfl, fun H ds h => by
  match ds, h with
  | [_], _ => exact ⟨rfl, rfl, rfl⟩⟩
theorem rd35 : Try.prog.readableRec 35 = true ∧ 35 < Try.prog.types.size := ⟨by kernel_rfl, of_decide_eq_true (by kernel_rfl)⟩
set_option maxRecDepth 100000 in
theorem lifted (os : Os) (started : os.Started) (H : Type) (enc : TypeId × Value → H) :
    ReturnsInHanded {} Try.checked os 5 .any (Rows.fnExactEraseBlockSpec.pre6 enc Try.prog Try.f5 Rows.fnExactEraseBlockRow.domain false) (Rows.fnExactEraseBlockSpec.post enc Try.prog Try.f5 false true false false) := by
  refine law_lifted (C := Try.checked) (tb := 4) own started (by kernel_rfl) Try.func5 laidOut ?_ spec_ok (by rfl) Try.underlying4
    (ChangeSpec.witness6 (enc := enc) (C := Try.checked) false ⟨#[], #[.agg #[.int .i64 0, .slice none 0 0]], []⟩ 8 (by kernel_rfl) (by kernel_rfl) (by kernel_rfl) (by kernel_rfl)) ?_
  · rw [Try.params5]
    intro t ht
    simp only [List.mem_cons, List.not_mem_nil, or_false] at ht
    subst ht
    exact rd35
  · intro W base args ds ps hval0 hA0
    have hval : ∀ (j : Nat) t v, Try.f5.params[j]? = some t → args[j]? = some v → Value.okWide Try.prog W .any base t v := hval0
    have hA : DataW.TrodAll enc Try.prog W 0 (fun _ => true) true Try.f5.params.toList args.toList ds ps := hA0
    clear hval0 hA0
    rw [Try.params5] at hA hval
    obtain ⟨v0, vs0, d0, ds0, p0, q0, hargs, rfl, rfl, h0, r0⟩ := trodAll_cons hA
    obtain ⟨rfl, rfl, rfl⟩ := trodAll_nil r0
    obtain rfl : args = #[v0] := by cases args; simp_all
    obtain ⟨x0, rfl, hx0⟩ := open_B tyLB (hval 0 35 v0 rfl rfl) h0
    exact walk_FnExactEraseBlock x0 W hx0

theorem over : Rows.fnExactEraseBlockRow.holds Try.pinned (OpenSpec.ofChange Rows.fnExactEraseBlockSpec) :=
  OpenClaim.holds_of_wide 5 Try.f5 rfl rfl rfl rfl rfl rfl rfl ⟨rfl, rfl, rfl, rfl, rfl⟩ rfl rfl rfl rfl rfl (by kernel_rfl) Try.func5 (by kernel_rfl)
    (of_decide_eq_true (by kernel_rfl)) (by unfold Func.isWrapper; first | (rw [if_pos (by decide +kernel)]; kernel_rfl) | (rw [if_neg (by decide +kernel)]; exact ⟨rfl, rfl⟩))
    (fun os started H enc _ => lifted os started H enc)

theorem proved : Rows.FnExactEraseBlockSaid :=
  over
#print axioms proved
end fnExactEraseBlock
end Go.Proofs.Ytcmmamgbckglnaa
