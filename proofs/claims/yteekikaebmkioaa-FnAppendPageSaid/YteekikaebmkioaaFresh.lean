/-auto What the program's and the reference's FreshBlock return. -/
import Derived.Test.YteekikaebmkioaaHeads2
import Derived.Test.YteekikaebmkioaaRegs2
namespace Go.Proofs.Yteekikaebmkioaa
open Go.RowKit
set_option linter.unusedVariables false

/-- is block i empty and no head -/
def freshAt (ds : List Bl) (g h k : Int) (i : Nat) : Bool := (blockNextF (blAt ds i) == 0) && !((i : Int) == g) && !((i : Int) == h) && !((i : Int) == k)
/-- the one to be taken, of the first i blocks -/
def freshTo (ds : List Bl) (g h k : Int) : Nat → Int
  | 0 => -1
  | i + 1 => if freshAt ds g h k i && (decide (freshTo ds g h k i < 0) || decide ((blAt ds i).wear < (blAt ds (freshTo ds g h k i).toNat).wear)) then (i : Int) else freshTo ds g h k i
def freshBlockF (ds : List Bl) (g h k : Int) : Int := if headsValidF ds g h k then freshTo ds g h k ds.length else -1
theorem freshTo_zero (ds : List Bl) (g h k : Int) : freshTo ds g h k 0 = -1 := rfl
theorem freshTo_succ (ds : List Bl) (g h k : Int) (i : Nat) : freshTo ds g h k (i + 1) = if freshAt ds g h k i && (decide (freshTo ds g h k i < 0) || decide ((blAt ds i).wear < (blAt ds (freshTo ds g h k i).toNat).wear)) then (i : Int) else freshTo ds g h k i := rfl
theorem freshTo_b (ds : List Bl) (g h k : Int) (i : Nat) : -1 ≤ freshTo ds g h k i ∧ freshTo ds g h k i < i := by
  induction i with
  | zero => rw [freshTo_zero]; omega
  | succ i ih => rw [freshTo_succ]; split <;> omega
theorem ft_no (ds : List Bl) (g h k : Int) (i : Nat) (y : Int) (hy : y = freshTo ds g h k i) (hf : freshAt ds g h k i = false) : y = freshTo ds g h k (i + 1) := by rw [freshTo_succ, hf]; exact hy
theorem ft_first (ds : List Bl) (g h k : Int) (i : Nat) (y : Int) (hy : y = freshTo ds g h k i) (hf : freshAt ds g h k i = true) (h0 : y < 0) : (i : Int) = freshTo ds g h k (i + 1) := by rw [freshTo_succ, hf, ← hy]; simp [h0]
theorem ft_less (ds : List Bl) (g h k : Int) (i j : Nat) (y : Int) (hy : y = freshTo ds g h k i) (hf : freshAt ds g h k i = true) (hj : y = (j : Int)) (h0 : (blAt ds i).wear < (blAt ds j).wear) : (i : Int) = freshTo ds g h k (i + 1) := by
  rw [freshTo_succ, hf, ← hy, hj]; simp [h0]
theorem ft_more (ds : List Bl) (g h k : Int) (i j : Nat) (y : Int) (hy : y = freshTo ds g h k i) (hj : y = (j : Int)) (h0 : ¬ (blAt ds i).wear < (blAt ds j).wear) : y = freshTo ds g h k (i + 1) := by
  rw [freshTo_succ, ← hy, hj]
  rw [if_neg (by simp [h0])]
theorem fa_next (ds : List Bl) (g h k : Int) (i : Nat) (b : Bl) (hb : blAt ds i = b) (v : Int) (hv : blockNextF b = v) (h0 : (v == 0) = false) : freshAt ds g h k i = false := by rw [freshAt, hb, hv, h0]; rfl
theorem fa_head (ds : List Bl) (g h k : Int) (i : Nat) (h0 : ((i : Int) == g || (i : Int) == h || (i : Int) == k) = true) : freshAt ds g h k i = false := by
  rw [freshAt]
  cases e1 : ((i : Int) == g) <;> cases e2 : ((i : Int) == h) <;> cases e3 : ((i : Int) == k) <;> rw [e1, e2, e3] at h0 <;> simp at h0 ⊢
theorem fa_t (ds : List Bl) (g h k : Int) (i : Nat) (b : Bl) (hb : blAt ds i = b) (v : Int) (hv : blockNextF b = v) (h0 : (v == 0) = true) (h1 : ((i : Int) == g || (i : Int) == h || (i : Int) == k) = false) : freshAt ds g h k i = true := by
  rw [freshAt, hb, hv, h0]
  cases e1 : ((i : Int) == g) <;> cases e2 : ((i : Int) == h) <;> cases e3 : ((i : Int) == k) <;> simp_all
theorem fb_1 (ds : List Bl) (g h k : Int) (hv : headsValidF ds g h k = false) : freshBlockF ds g h k = -1 := by rw [freshBlockF, hv]; rfl
theorem fb_2 (ds : List Bl) (n : Nat) (g h k : Int) (hl : ds.length = n) (hv : headsValidF ds g h k = true) : freshBlockF ds g h k = freshTo ds g h k n := by rw [freshBlockF, hv, hl]; rfl
theorem fb_3 (ds : List Bl) (n : Nat) (g h k : Int) (hl : ds.length = n) (h0 : n = 0) : freshBlockF ds g h k = -1 := by
  rw [freshBlockF]; split
  · rw [hl, h0, freshTo_zero]
  · rfl
attribute [irreducible] freshAt freshTo freshBlockF

set_option maxHeartbeats 2000000 in
theorem iFreshBlock (A : Option Addr) (n c : Nat) (ds : List Bl) (g h k : Int) (w : World) (hd : DevAt w A n ds) :
    Calls Try.prog 50 #[.slice A n c, .agg #[.int .i64 g, .int .i64 h, .int .i64 k]] w fun e w' => e = .returned (.int .i64 (freshBlockF ds g h k)) ∧ Below w.heap.size w w' := by
  have HP := Lib.hid hd
  have hm := hd.2.1
  have HL := Lib.hid hd.1
  clear hd
  go_enter Try.func50, Try.ntmps50
  go_wp2_with fail
  refine (iHeadsValid _ _ _ ds _ _ _ _ (HP.out.keep (bel_1 _ _))).mono ?_
  rintro e w1 ⟨rfl, hb1⟩
  have HB1 := Lib.hid (bel_t (bel_1 _ _) hb1)
  have B0 : Hid (w1.cell? ⟨w.heap.size, 0, none⟩ = some (.int .i64 g)) := Lib.hid (stays_below hb1 _ _ _ (by simp [go_sem]))
  have B1 : Hid (w1.cell? ⟨w.heap.size, 1, none⟩ = some (.int .i64 h)) := Lib.hid (stays_below hb1 _ _ _ (by simp [go_sem]))
  have B2 : Hid (w1.cell? ⟨w.heap.size, 2, none⟩ = some (.int .i64 k)) := Lib.hid (stays_below hb1 _ _ _ (by simp [go_sem]))
  clear hb1
  cases hv : headsValidF ds g h k
  · have HF := Lib.hid (fb_1 ds g h k hv)
    clear hv
    go_wp2
    go_ret
    exact ⟨by rw [HF.out]; rfl, HB1.out⟩
  · have HF := Lib.hid (fb_2 ds n g h k HL.out hv)
    clear hv
    go_wp2
    go_loopw [5, 14] (fun v i wr => ∃ (j : Nat) (y : Int), j ≤ n ∧ v = .int .i64 y ∧ Hid (y = freshTo ds g h k j) ∧ i = .int .i64 (j : Int) ∧ Hid (Below w1.heap.size w1 wr)) (fun _ i _ => n - (intOf i).toNat)
    case atStart => exact ⟨0, -1, by omega, rfl, (by show (-1 : Int) = _; rw [freshTo_zero]), rfl, Below.refl _ _⟩
    case round =>
      obtain ⟨j, y, hj, rfl, HY, rfl, HB⟩ := hrel
      have HW := Lib.hid (bel_t HB1.out HB.out)
      by_cases hjn : j = n
      · subst hjn
        go_wp2
        go_ret
        exact ⟨by rw [HF.out, ← HY.out]; rfl, HW.out⟩
      · have hy0 : -1 ≤ y := by rw [HY.out]; exact (freshTo_b ds g h k j).1
        have hy1 : y < j := by rw [HY.out]; exact (freshTo_b ds g h k j).2
        obtain ⟨b, o, rfl, hC⟩ := HP.out.2.2 (by omega)
        have HC := Lib.hid hC
        obtain ⟨A', m, c', c0, c1, hps⟩ := (hC j (by omega)).keepS (stays_below HW.out)
        have HM := Lib.hid hps
        clear hC hps
        rcases hp : blAt ds j with ⟨z, ps⟩
        rw [hp] at c0 HM
        simp only [] at c0 HM
        have HE := Lib.hid hp
        clear hp
        have b0 := stays_below HB.out _ _ _ B0.out
        have b1 := stays_below HB.out _ _ _ B1.out
        have b2 := stays_below HB.out _ _ _ B2.out
        have hzb : w.heap.size < wr.heap.size := block_lt_of_cell b0
        go_wp2_with fail
        refine (isHead_any _ _ _ _ _).mono ?_
        rintro e w2 ⟨rfl, hb2⟩
        have HV2 := Lib.hid (bel_t (bel_1 _ _) hb2)
        have x0 : w2.cell? ⟨wr.heap.size, 0, none⟩ = some (.int .i64 z) := stays_below hb2 _ _ _ (by simp [go_sem])
        have x1 : w2.cell? ⟨wr.heap.size, 1, none⟩ = some (.slice A' m c') := stays_below hb2 _ _ _ (by simp [go_sem])
        clear hb2 b0 b1 b2
        cases hi : ((j : Int) == g || (j : Int) == h || (j : Int) == k)
        · go_wp2_with fail
          refine (iBlockNext _ _ _ _ ps _ (HM.out.keep HV2.out)).mono ?_
          obtain ⟨v, HN⟩ : ∃ v, Hid (blockNextF ⟨z, ps⟩ = v) := ⟨_, rfl⟩
          rw [HN.out]
          rintro e w3 ⟨rfl, hb3⟩
          have HV3 := Lib.hid (bel_t HV2.out hb3)
          have HB3 := Lib.hid (bel_t HB.out HV3.out)
          replace x0 := stays_below hb3 _ _ _ x0
          clear hb3
          cases hv0 : (v == 0)
          · have hv1 : (v != 0) = true := by rw [bne, hv0]; rfl
            have HG := Lib.hid (ft_no ds g h k j y HY.out (fa_next ds g h k j _ HE.out v HN.out hv0))
            go_wp2
            go_round
            case rel => exact ⟨j + 1, y, by omega, rfl, HG, by simp, HB3⟩
            case measure => simp [intOf]; omega
          · have hv1 : (v != 0) = false := by rw [bne, hv0]; rfl
            have HT := Lib.hid (fa_t ds g h k j _ HE.out v HN.out hv0 hi)
            by_cases hyn : y < 0
            · have HG := Lib.hid (ft_first ds g h k j y HY.out HT.out hyn)
              go_wp2
              go_quiet (fail)
              go_wp2
              go_round
              case rel => exact ⟨j + 1, j, by omega, rfl, HG, by simp, (bel_dn HB3.out _ : Below _ _ _)⟩
              case measure => simp [intOf]; omega
            · obtain ⟨q, rfl⟩ : ∃ q : Nat, y = (q : Int) := ⟨y.toNat, by omega⟩
              have hqj : q < j := by omega
              have hqn : q < n := by omega
              obtain ⟨A2, m2, c2, d0, d1, _⟩ := (HC.out q (by omega)).keepS (stays_below (bel_t HW.out HV3.out))
              by_cases hlt : z < (blAt ds q).wear
              · have HG := Lib.hid (ft_less ds g h k j q q HY.out HT.out rfl (by rw [HE.out]; exact hlt))
                go_wp2
                go_quiet (fail)
                go_wp2
                go_round
                case rel => exact ⟨j + 1, j, by omega, rfl, HG, by simp, (bel_dn HB3.out _ : Below _ _ _)⟩
                case measure => simp [intOf]; omega
              · have HG := Lib.hid (ft_more ds g h k j q q HY.out rfl (by rw [HE.out]; exact hlt))
                go_wp2
                go_quiet (fail)
                go_wp2
                go_round
                case rel => exact ⟨j + 1, q, by omega, rfl, HG, by simp, (bel_dn HB3.out _ : Below _ _ _)⟩
                case measure => simp [intOf]; omega
        · have HG := Lib.hid (ft_no ds g h k j y HY.out (fa_head ds g h k j hi))
          have HB3 := Lib.hid (bel_t HB.out HV2.out)
          go_wp2
          go_round
          case rel => exact ⟨j + 1, y, by omega, rfl, HG, by simp, HB3⟩
          case measure => simp [intOf]; omega

set_option maxHeartbeats 4000000 in
theorem sFreshBlock (A : Option Addr) (n c : Nat) (ds : List Bl) (g h k : Int) (w : World) (hd : DevAt w A n ds) :
    Calls Try.prog 51 #[.slice A n c, .agg #[.int .i64 g, .int .i64 h, .int .i64 k]] w fun e w' => e = .returned (.int .i64 (freshBlockF ds g h k)) ∧ Below w.heap.size w w' := by
  have HP := Lib.hid hd
  have hm := hd.2.1
  have HL := Lib.hid hd.1
  clear hd
  go_enter Try.func51, Try.ntmps51
  go_wp2
  have HB1 := Lib.hid (bel_1 w (.cells #[.int .i64 g, .int .i64 h, .int .i64 k] 54))
  have B0 : Hid ((w.alloc (.cells #[.int .i64 g, .int .i64 h, .int .i64 k] 54)).cell? ⟨w.heap.size, 0, none⟩ = some (.int .i64 g)) := Lib.hid (by simp [go_sem])
  have B1 : Hid ((w.alloc (.cells #[.int .i64 g, .int .i64 h, .int .i64 k] 54)).cell? ⟨w.heap.size, 1, none⟩ = some (.int .i64 h)) := Lib.hid (by simp [go_sem])
  have B2 : Hid ((w.alloc (.cells #[.int .i64 g, .int .i64 h, .int .i64 k] 54)).cell? ⟨w.heap.size, 2, none⟩ = some (.int .i64 k)) := Lib.hid (by simp [go_sem])
  generalize w.alloc (.cells #[.int .i64 g, .int .i64 h, .int .i64 k] 54) = w1 at *
  go_loopw [5, 6] (fun v i wr => ∃ (j : Nat) (y : Int), j ≤ n ∧ v = .int .i64 y ∧ Hid (y = freshTo ds g h k j) ∧ i = .int .i64 (j : Int) ∧ Hid (j = 0 ∨ headsValidF ds g h k = true) ∧ Hid (Below w1.heap.size w1 wr)) (fun _ i _ => n - (intOf i).toNat)
  case atStart => exact ⟨0, -1, by omega, rfl, (by show (-1 : Int) = _; rw [freshTo_zero]), rfl, Or.inl rfl, Below.refl _ _⟩
  case round =>
    obtain ⟨j, y, hj, rfl, HY, rfl, HZ, HB⟩ := hrel
    have HW := Lib.hid (bel_t HB1.out HB.out)
    by_cases hjn : j = n
    · have HF : Hid (freshBlockF ds g h k = y) := Lib.hid (by
        rcases HZ.out with h0 | h1
        · rw [fb_3 ds n g h k HL.out (by omega), HY.out, h0, freshTo_zero]
        · rw [fb_2 ds n g h k HL.out h1, HY.out, hjn])
      subst hjn
      go_wp2
      go_ret
      exact ⟨by rw [HF.out]; rfl, HW.out⟩
    · have b0 := stays_below HB.out _ _ _ B0.out
      have b1 := stays_below HB.out _ _ _ B1.out
      have b2 := stays_below HB.out _ _ _ B2.out
      go_wp2_with fail
      refine (sHeadsValid _ _ _ ds _ _ _ _ (HP.out.keep HW.out)).mono ?_
      rintro e w2 ⟨rfl, hb2⟩
      have HV2 := Lib.hid hb2
      replace b0 := stays_below hb2 _ _ _ b0
      replace b1 := stays_below hb2 _ _ _ b1
      replace b2 := stays_below hb2 _ _ _ b2
      clear hb2
      cases ht : headsValidF ds g h k
      · have HF : Hid (freshBlockF ds g h k = y) := Lib.hid (by
          rcases HZ.out with h0 | h1
          · rw [fb_1 ds g h k ht, HY.out, h0, freshTo_zero]
          · rw [ht] at h1; cases h1)
        clear ht
        go_wp2
        go_ret
        exact ⟨by rw [HF.out]; rfl, bel_t HW.out HV2.out⟩
      · have HT2 := Lib.hid ht
        clear ht
        have hy0 : -1 ≤ y := by rw [HY.out]; exact (freshTo_b ds g h k j).1
        have hy1 : y < j := by rw [HY.out]; exact (freshTo_b ds g h k j).2
        obtain ⟨b, o, rfl, hC⟩ := HP.out.2.2 (by omega)
        have HC := Lib.hid hC
        obtain ⟨A', m, c', c0, c1, hps⟩ := (hC j (by omega)).keepS (stays_below HW.out)
        have HM := Lib.hid hps
        clear hC hps
        rcases hp : blAt ds j with ⟨z, ps⟩
        rw [hp] at c0 HM
        simp only [] at c0 HM
        have HE := Lib.hid hp
        clear hp
        replace c0 := stays_below HV2.out _ _ _ c0
        replace c1 := stays_below HV2.out _ _ _ c1
        have hs0 : w.heap.size < w2.heap.size := block_lt_of_cell b0
        have hsb : b < w2.heap.size := block_lt_of_cell c0
        obtain ⟨v, HN⟩ : ∃ v, Hid (blockNextF ⟨z, ps⟩ = v) := ⟨_, rfl⟩
        cases hv0 : (v == 0)
        · have HG := Lib.hid (ft_no ds g h k j y HY.out (fa_next ds g h k j _ HE.out v HN.out hv0))
          go_wp2_with fail
          refine reg_begin (by kernel_rfl) (fun hHeld => ?_)
          refine reg_take 0 18 (v := ?_) rfl rfl (by kernel_rfl) (by kernel_rfl) (by kernel_rfl) (fun _ _ _ h => h) (Or.inl ⟨by rfl, ?_⟩) hHeld ?_
          rotate_left 1
          · intro wS hSw; go_simp <;> with_reducible rfl
          simp only [put_lit, List.set_cons_zero, List.set_cons_succ]
          refine reg_take 1 19 (v := ?_) rfl rfl (by kernel_rfl) (by kernel_rfl) (by kernel_rfl) (fun _ _ _ h => h) (Or.inl ⟨by rfl, ?_⟩) hHeld ?_
          rotate_left 1
          · intro wS hSw; go_simp <;> with_reducible rfl
          simp only [put_lit, List.set_cons_zero, List.set_cons_succ]
          refine reg_take 2 20 (v := ?_) rfl rfl (by kernel_rfl) (by kernel_rfl) (by kernel_rfl) (fun _ _ _ h => h) (Or.inl ⟨by rfl, ?_⟩) hHeld ?_
          rotate_left 1
          · intro wS hSw; go_simp <;> with_reducible rfl
          simp only [put_lit, List.set_cons_zero, List.set_cons_succ]
          refine reg_take 3 21 (v := ?_) rfl rfl (by kernel_rfl) (by kernel_rfl) (by kernel_rfl) (fun _ _ _ h => h) (Or.inl ⟨by rfl, ?_⟩) hHeld ?_
          rotate_left 1
          · intro wS hSw; have hqS := bcellB hSw; go_simp <;> with_reducible rfl
          simp only [put_lit, List.set_cons_zero, List.set_cons_succ]
          refine wpAnyH_ready (rs := [4]) (by kernel_rfl) (by simp) ?_
          refine AllReadyH.cons rfl (fun K hK => ?_) AllReadyH.nil
          go_simp
          refine (sBlockNext _ _ _ _ ps _ (HM.out.keep (bel_t HV2.out hHeld))).mono ?_
          rw [HN.out]
          rintro e w1 ⟨rfl, hb1⟩
          go_wp2_with fail
          refine hK.out _ _ ?_ (fun hHeld => ?_)
          · exact reg_call hHeld hb1 (Nat.le_refl _)
          clear hK K
          (try simp only [put_lit, List.set_cons_zero, List.set_cons_succ])
          refine reg_take 5 23 (v := ?_) rfl rfl (by kernel_rfl) (by kernel_rfl) (by kernel_rfl) (fun _ _ _ h => h) (Or.inl ⟨by rfl, ?_⟩) hHeld ?_
          rotate_left 1
          · intro wS hSw; go_simp <;> with_reducible rfl
          simp only [put_lit, List.set_cons_zero, List.set_cons_succ]
          refine reg_take 6 24 (v := ?_) rfl rfl (by kernel_rfl) (by kernel_rfl) (by kernel_rfl) (fun _ _ _ h => h) (Or.inl ⟨by rfl, ?_⟩) hHeld ?_
          rotate_left 1
          · intro wS hSw; go_simp <;> with_reducible rfl
          simp only [put_lit, List.set_cons_zero, List.set_cons_succ]
          refine reg_take 7 25 (v := undef) rfl rfl (by kernel_rfl) (by kernel_rfl) (by kernel_rfl) (fun _ _ _ h => h) (Or.inr ⟨by rfl, rfl⟩) hHeld ?_
          simp only [put_lit, List.set_cons_zero, List.set_cons_succ]
          refine reg_take 8 26 (v := undef) rfl rfl (by kernel_rfl) (by kernel_rfl) (by kernel_rfl) (fun _ _ _ h => h) (Or.inr ⟨by rfl, rfl⟩) hHeld ?_
          simp only [put_lit, List.set_cons_zero, List.set_cons_succ]
          refine reg_take 9 27 (v := undef) rfl rfl (by kernel_rfl) (by kernel_rfl) (by kernel_rfl) (fun _ _ _ h => h) (Or.inr ⟨by rfl, rfl⟩) hHeld ?_
          simp only [put_lit, List.set_cons_zero, List.set_cons_succ]
          refine reg_take 10 28 (v := undef) rfl rfl (by kernel_rfl) (by kernel_rfl) (by kernel_rfl) (fun _ _ _ h => h) (Or.inr ⟨by rfl, rfl⟩) hHeld ?_
          simp only [put_lit, List.set_cons_zero, List.set_cons_succ]
          refine reg_take 11 29 (v := ?_) rfl rfl (by kernel_rfl) (by kernel_rfl) (by kernel_rfl) (fun _ _ _ h => h) (Or.inl ⟨by rfl, ?_⟩) hHeld ?_
          rotate_left 1
          · intro wS hSw; go_simp <;> with_reducible rfl
          simp only [put_lit, List.set_cons_zero, List.set_cons_succ]
          refine reg_take 12 30 (v := ?_) rfl rfl (by kernel_rfl) (by kernel_rfl) (by kernel_rfl) (fun _ _ _ h => h) (Or.inl ⟨by rfl, ?_⟩) hHeld ?_
          rotate_left 1
          · intro wS hSw; go_simp <;> with_reducible rfl
          simp only [put_lit, List.set_cons_zero, List.set_cons_succ]
          refine reg_take 13 31 (v := undef) rfl rfl (by kernel_rfl) (by kernel_rfl) (by kernel_rfl) (fun _ _ _ h => h) (Or.inr ⟨by rfl, rfl⟩) hHeld ?_
          simp only [put_lit, List.set_cons_zero, List.set_cons_succ]
          refine reg_take 14 32 (v := undef) rfl rfl (by kernel_rfl) (by kernel_rfl) (by kernel_rfl) (fun _ _ _ h => h) (Or.inr ⟨by rfl, rfl⟩) hHeld ?_
          simp only [put_lit, List.set_cons_zero, List.set_cons_succ]
          refine reg_take 15 33 (v := undef) rfl rfl (by kernel_rfl) (by kernel_rfl) (by kernel_rfl) (fun _ _ _ h => h) (Or.inr ⟨by rfl, rfl⟩) hHeld ?_
          simp only [put_lit, List.set_cons_zero, List.set_cons_succ]
          refine reg_take 16 34 (v := undef) rfl rfl (by kernel_rfl) (by kernel_rfl) (by kernel_rfl) (fun _ _ _ h => h) (Or.inr ⟨by rfl, rfl⟩) hHeld ?_
          simp only [put_lit, List.set_cons_zero, List.set_cons_succ]
          refine reg_take 17 35 (v := ?_) rfl rfl (by kernel_rfl) (by kernel_rfl) (by kernel_rfl) (fun _ _ _ h => h) (Or.inl ⟨by rfl, ?_⟩) hHeld ?_
          rotate_left 1
          · intro wS hSw; go_simp <;> with_reducible rfl
          simp only [put_lit, List.set_cons_zero, List.set_cons_succ]
          refine reg_take 18 36 (v := ?_) rfl rfl (by kernel_rfl) (by kernel_rfl) (by kernel_rfl) (fun _ _ _ h => h) (Or.inl ⟨by rfl, ?_⟩) hHeld ?_
          rotate_left 1
          · intro wS hSw; go_simp <;> with_reducible rfl
          simp only [put_lit, List.set_cons_zero, List.set_cons_succ]
          refine reg_take 19 37 (v := undef) rfl rfl (by kernel_rfl) (by kernel_rfl) (by kernel_rfl) (fun _ _ _ h => h) (Or.inr ⟨by rfl, rfl⟩) hHeld ?_
          simp only [put_lit, List.set_cons_zero, List.set_cons_succ]
          refine reg_take 20 38 (v := undef) rfl rfl (by kernel_rfl) (by kernel_rfl) (by kernel_rfl) (fun _ _ _ h => h) (Or.inr ⟨by rfl, rfl⟩) hHeld ?_
          simp only [put_lit, List.set_cons_zero, List.set_cons_succ]
          refine reg_take 21 39 (v := undef) rfl rfl (by kernel_rfl) (by kernel_rfl) (by kernel_rfl) (fun _ _ _ h => h) (Or.inr ⟨by rfl, rfl⟩) hHeld ?_
          simp only [put_lit, List.set_cons_zero, List.set_cons_succ]
          refine reg_take 22 40 (v := undef) rfl rfl (by kernel_rfl) (by kernel_rfl) (by kernel_rfl) (fun _ _ _ h => h) (Or.inr ⟨by rfl, rfl⟩) hHeld ?_
          simp only [put_lit, List.set_cons_zero, List.set_cons_succ]
          refine reg_take 23 41 (v := ?_) rfl rfl (by kernel_rfl) (by kernel_rfl) (by kernel_rfl) (fun _ _ _ h => h) (Or.inl ⟨by rfl, ?_⟩) hHeld ?_
          rotate_left 1
          · intro wS hSw; go_simp <;> with_reducible rfl
          simp only [put_lit, List.set_cons_zero, List.set_cons_succ]
          refine reg_take 24 42 (v := ?_) rfl rfl (by kernel_rfl) (by kernel_rfl) (by kernel_rfl) (fun _ _ _ h => h) (Or.inl ⟨by rfl, ?_⟩) hHeld ?_
          rotate_left 1
          · intro wS hSw; go_simp <;> with_reducible rfl
          simp only [put_lit, List.set_cons_zero, List.set_cons_succ]
          refine reg_take 25 43 (v := undef) rfl rfl (by kernel_rfl) (by kernel_rfl) (by kernel_rfl) (fun _ _ _ h => h) (Or.inr ⟨by rfl, rfl⟩) hHeld ?_
          simp only [put_lit, List.set_cons_zero, List.set_cons_succ]
          refine reg_take 26 44 (v := undef) rfl rfl (by kernel_rfl) (by kernel_rfl) (by kernel_rfl) (fun _ _ _ h => h) (Or.inr ⟨by rfl, rfl⟩) hHeld ?_
          simp only [put_lit, List.set_cons_zero, List.set_cons_succ]
          refine reg_take 27 45 (v := undef) rfl rfl (by kernel_rfl) (by kernel_rfl) (by kernel_rfl) (fun _ _ _ h => h) (Or.inr ⟨by rfl, rfl⟩) hHeld ?_
          simp only [put_lit, List.set_cons_zero, List.set_cons_succ]
          refine reg_take 28 46 (v := undef) rfl rfl (by kernel_rfl) (by kernel_rfl) (by kernel_rfl) (fun _ _ _ h => h) (Or.inr ⟨by rfl, rfl⟩) hHeld ?_
          simp only [put_lit, List.set_cons_zero, List.set_cons_succ]
          refine reg_take 29 47 (v := undef) rfl rfl (by kernel_rfl) (by kernel_rfl) (by kernel_rfl) (fun _ _ _ h => h) (Or.inr ⟨by rfl, rfl⟩) hHeld ?_
          simp only [put_lit, List.set_cons_zero, List.set_cons_succ]
          refine reg_take 30 48 (v := undef) rfl rfl (by kernel_rfl) (by kernel_rfl) (by kernel_rfl) (fun _ _ _ h => h) (Or.inr ⟨by rfl, rfl⟩) hHeld ?_
          simp only [put_lit, List.set_cons_zero, List.set_cons_succ]
          refine reg_take 31 49 (v := undef) rfl rfl (by kernel_rfl) (by kernel_rfl) (by kernel_rfl) (fun _ _ _ h => h) (Or.inr ⟨by rfl, rfl⟩) hHeld ?_
          simp only [put_lit, List.set_cons_zero, List.set_cons_succ]
          refine reg_take 32 50 (v := undef) rfl rfl (by kernel_rfl) (by kernel_rfl) (by kernel_rfl) (fun _ _ _ h => h) (Or.inr ⟨by rfl, rfl⟩) hHeld ?_
          simp only [put_lit, List.set_cons_zero, List.set_cons_succ]
          refine reg_take 33 51 (v := undef) rfl rfl (by kernel_rfl) (by kernel_rfl) (by kernel_rfl) (fun _ _ _ h => h) (Or.inr ⟨by rfl, rfl⟩) hHeld ?_
          simp only [put_lit, List.set_cons_zero, List.set_cons_succ]
          refine reg_take 34 52 (v := undef) rfl rfl (by kernel_rfl) (by kernel_rfl) (by kernel_rfl) (fun _ _ _ h => h) (Or.inr ⟨by rfl, rfl⟩) hHeld ?_
          simp only [put_lit, List.set_cons_zero, List.set_cons_succ]
          refine reg_take 35 53 (v := undef) rfl rfl (by kernel_rfl) (by kernel_rfl) (by kernel_rfl) (fun _ _ _ h => h) (Or.inr ⟨by rfl, rfl⟩) hHeld ?_
          simp only [put_lit, List.set_cons_zero, List.set_cons_succ]
          refine reg_take 36 54 (v := undef) rfl rfl (by kernel_rfl) (by kernel_rfl) (by kernel_rfl) (fun _ _ _ h => h) (Or.inr ⟨by rfl, rfl⟩) hHeld ?_
          simp only [put_lit, List.set_cons_zero, List.set_cons_succ]
          refine reg_take 37 55 (v := undef) rfl rfl (by kernel_rfl) (by kernel_rfl) (by kernel_rfl) (fun _ _ _ h => h) (Or.inr ⟨by rfl, rfl⟩) hHeld ?_
          simp only [put_lit, List.set_cons_zero, List.set_cons_succ]
          refine reg_take 38 56 (v := undef) rfl rfl (by kernel_rfl) (by kernel_rfl) (by kernel_rfl) (fun _ _ _ h => h) (Or.inr ⟨by rfl, rfl⟩) hHeld ?_
          simp only [put_lit, List.set_cons_zero, List.set_cons_succ]
          refine reg_take 39 57 (v := undef) rfl rfl (by kernel_rfl) (by kernel_rfl) (by kernel_rfl) (fun _ _ _ h => h) (Or.inr ⟨by rfl, rfl⟩) hHeld ?_
          simp only [put_lit, List.set_cons_zero, List.set_cons_succ]
          refine reg_take 40 58 (v := ?_) rfl rfl (by kernel_rfl) (by kernel_rfl) (by kernel_rfl) (fun _ _ _ h => h) (Or.inl ⟨by rfl, ?_⟩) hHeld ?_
          rotate_left 1
          · intro wS hSw; go_simp <;> with_reducible rfl
          simp only [put_lit, List.set_cons_zero, List.set_cons_succ]
          refine wpAnyH_done (by kernel_rfl) ?_ _
          have HB3 := Lib.hid (bel_t HB.out (bel_t HV2.out hHeld))
          go_wp2
          go_round
          case rel => exact ⟨j + 1, y, by omega, rfl, HG, by simp, Or.inr HT2.out, HB3⟩
          case measure => simp [intOf]; omega
        · skip
          cases qg : ((j : Int) == g)
          · have qg' : ((j : Int) != g) = true := by rw [bne, qg]; rfl
            cases qh : ((j : Int) == h)
            · have qh' : ((j : Int) != h) = true := by rw [bne, qh]; rfl
              cases qk : ((j : Int) == k)
              · have qk' : ((j : Int) != k) = true := by rw [bne, qk]; rfl
                have HT := Lib.hid (fa_t ds g h k j _ HE.out v HN.out hv0 (by rw [qg, qh, qk]; rfl))
                by_cases hyn : y < 0
                · have HG := Lib.hid (ft_first ds g h k j y HY.out HT.out hyn)
                  go_wp2_with fail
                  refine reg_begin (by kernel_rfl) (fun hHeld => ?_)
                  refine reg_take 0 18 (v := ?_) rfl rfl (by kernel_rfl) (by kernel_rfl) (by kernel_rfl) (fun _ _ _ h => h) (Or.inl ⟨by rfl, ?_⟩) hHeld ?_
                  rotate_left 1
                  · intro wS hSw; go_simp <;> with_reducible rfl
                  simp only [put_lit, List.set_cons_zero, List.set_cons_succ]
                  refine reg_take 1 19 (v := ?_) rfl rfl (by kernel_rfl) (by kernel_rfl) (by kernel_rfl) (fun _ _ _ h => h) (Or.inl ⟨by rfl, ?_⟩) hHeld ?_
                  rotate_left 1
                  · intro wS hSw; go_simp <;> with_reducible rfl
                  simp only [put_lit, List.set_cons_zero, List.set_cons_succ]
                  refine reg_take 2 20 (v := ?_) rfl rfl (by kernel_rfl) (by kernel_rfl) (by kernel_rfl) (fun _ _ _ h => h) (Or.inl ⟨by rfl, ?_⟩) hHeld ?_
                  rotate_left 1
                  · intro wS hSw; go_simp <;> with_reducible rfl
                  simp only [put_lit, List.set_cons_zero, List.set_cons_succ]
                  refine reg_take 3 21 (v := ?_) rfl rfl (by kernel_rfl) (by kernel_rfl) (by kernel_rfl) (fun _ _ _ h => h) (Or.inl ⟨by rfl, ?_⟩) hHeld ?_
                  rotate_left 1
                  · intro wS hSw; have hqS := bcellB hSw; go_simp <;> with_reducible rfl
                  simp only [put_lit, List.set_cons_zero, List.set_cons_succ]
                  refine wpAnyH_ready (rs := [4]) (by kernel_rfl) (by simp) ?_
                  refine AllReadyH.cons rfl (fun K hK => ?_) AllReadyH.nil
                  go_simp
                  refine (sBlockNext _ _ _ _ ps _ (HM.out.keep (bel_t HV2.out hHeld))).mono ?_
                  rw [HN.out]
                  rintro e w1 ⟨rfl, hb1⟩
                  go_wp2_with fail
                  refine hK.out _ _ ?_ (fun hHeld => ?_)
                  · exact reg_call hHeld hb1 (Nat.le_refl _)
                  clear hK K
                  (try simp only [put_lit, List.set_cons_zero, List.set_cons_succ])
                  refine reg_take 5 23 (v := ?_) rfl rfl (by kernel_rfl) (by kernel_rfl) (by kernel_rfl) (fun _ _ _ h => h) (Or.inl ⟨by rfl, ?_⟩) hHeld ?_
                  rotate_left 1
                  · intro wS hSw; go_simp <;> with_reducible rfl
                  simp only [put_lit, List.set_cons_zero, List.set_cons_succ]
                  refine reg_take 6 24 (v := ?_) rfl rfl (by kernel_rfl) (by kernel_rfl) (by kernel_rfl) (fun _ _ _ h => h) (Or.inl ⟨by rfl, ?_⟩) hHeld ?_
                  rotate_left 1
                  · intro wS hSw; go_simp <;> with_reducible rfl
                  simp only [put_lit, List.set_cons_zero, List.set_cons_succ]
                  refine reg_take 7 25 (v := ?_) rfl rfl (by kernel_rfl) (by kernel_rfl) (by kernel_rfl) (fun _ _ _ h => h) (Or.inl ⟨by rfl, ?_⟩) hHeld ?_
                  rotate_left 1
                  · intro wS hSw; go_simp <;> with_reducible rfl
                  simp only [put_lit, List.set_cons_zero, List.set_cons_succ]
                  refine reg_take 8 26 (v := ?_) rfl rfl (by kernel_rfl) (by kernel_rfl) (by kernel_rfl) (fun _ _ _ h => h) (Or.inl ⟨by rfl, ?_⟩) hHeld ?_
                  rotate_left 1
                  · intro wS hSw; go_simp <;> with_reducible rfl
                  simp only [put_lit, List.set_cons_zero, List.set_cons_succ]
                  refine reg_take 9 27 (v := ?_) rfl rfl (by kernel_rfl) (by kernel_rfl) (by kernel_rfl) (fun _ _ _ h => h) (Or.inl ⟨by rfl, ?_⟩) hHeld ?_
                  rotate_left 1
                  · intro wS hSw; have hqS := bcellB hSw; go_simp <;> with_reducible rfl
                  simp only [put_lit, List.set_cons_zero, List.set_cons_succ]
                  refine reg_take 10 28 (v := ?_) rfl rfl (by kernel_rfl) (by kernel_rfl) (by kernel_rfl) (fun _ _ _ h => h) (Or.inl ⟨by rfl, ?_⟩) hHeld ?_
                  rotate_left 1
                  · intro wS hSw; go_simp <;> with_reducible rfl
                  simp only [put_lit, List.set_cons_zero, List.set_cons_succ]
                  refine reg_take 11 29 (v := ?_) rfl rfl (by kernel_rfl) (by kernel_rfl) (by kernel_rfl) (fun _ _ _ h => h) (Or.inl ⟨by rfl, ?_⟩) hHeld ?_
                  rotate_left 1
                  · intro wS hSw; go_simp <;> with_reducible rfl
                  simp only [put_lit, List.set_cons_zero, List.set_cons_succ]
                  refine reg_take 12 30 (v := ?_) rfl rfl (by kernel_rfl) (by kernel_rfl) (by kernel_rfl) (fun _ _ _ h => h) (Or.inl ⟨by rfl, ?_⟩) hHeld ?_
                  rotate_left 1
                  · intro wS hSw; go_simp <;> with_reducible rfl
                  simp only [put_lit, List.set_cons_zero, List.set_cons_succ]
                  refine reg_take 13 31 (v := ?_) rfl rfl (by kernel_rfl) (by kernel_rfl) (by kernel_rfl) (fun _ _ _ h => h) (Or.inl ⟨by rfl, ?_⟩) hHeld ?_
                  rotate_left 1
                  · intro wS hSw; go_simp <;> with_reducible rfl
                  simp only [put_lit, List.set_cons_zero, List.set_cons_succ]
                  refine reg_take 14 32 (v := ?_) rfl rfl (by kernel_rfl) (by kernel_rfl) (by kernel_rfl) (fun _ _ _ h => h) (Or.inl ⟨by rfl, ?_⟩) hHeld ?_
                  rotate_left 1
                  · intro wS hSw; go_simp <;> with_reducible rfl
                  simp only [put_lit, List.set_cons_zero, List.set_cons_succ]
                  refine reg_take 15 33 (v := ?_) rfl rfl (by kernel_rfl) (by kernel_rfl) (by kernel_rfl) (fun _ _ _ h => h) (Or.inl ⟨by rfl, ?_⟩) hHeld ?_
                  rotate_left 1
                  · intro wS hSw; have hqS := bcellB hSw; go_simp <;> with_reducible rfl
                  simp only [put_lit, List.set_cons_zero, List.set_cons_succ]
                  refine reg_take 16 34 (v := ?_) rfl rfl (by kernel_rfl) (by kernel_rfl) (by kernel_rfl) (fun _ _ _ h => h) (Or.inl ⟨by rfl, ?_⟩) hHeld ?_
                  rotate_left 1
                  · intro wS hSw; go_simp <;> with_reducible rfl
                  simp only [put_lit, List.set_cons_zero, List.set_cons_succ]
                  refine reg_take 17 35 (v := ?_) rfl rfl (by kernel_rfl) (by kernel_rfl) (by kernel_rfl) (fun _ _ _ h => h) (Or.inl ⟨by rfl, ?_⟩) hHeld ?_
                  rotate_left 1
                  · intro wS hSw; go_simp <;> with_reducible rfl
                  simp only [put_lit, List.set_cons_zero, List.set_cons_succ]
                  refine reg_take 18 36 (v := ?_) rfl rfl (by kernel_rfl) (by kernel_rfl) (by kernel_rfl) (fun _ _ _ h => h) (Or.inl ⟨by rfl, ?_⟩) hHeld ?_
                  rotate_left 1
                  · intro wS hSw; go_simp <;> with_reducible rfl
                  simp only [put_lit, List.set_cons_zero, List.set_cons_succ]
                  refine reg_take 19 37 (v := ?_) rfl rfl (by kernel_rfl) (by kernel_rfl) (by kernel_rfl) (fun _ _ _ h => h) (Or.inl ⟨by rfl, ?_⟩) hHeld ?_
                  rotate_left 1
                  · intro wS hSw; go_simp <;> with_reducible rfl
                  simp only [put_lit, List.set_cons_zero, List.set_cons_succ]
                  refine reg_take 20 38 (v := ?_) rfl rfl (by kernel_rfl) (by kernel_rfl) (by kernel_rfl) (fun _ _ _ h => h) (Or.inl ⟨by rfl, ?_⟩) hHeld ?_
                  rotate_left 1
                  · intro wS hSw; go_simp <;> with_reducible rfl
                  simp only [put_lit, List.set_cons_zero, List.set_cons_succ]
                  refine reg_take 21 39 (v := ?_) rfl rfl (by kernel_rfl) (by kernel_rfl) (by kernel_rfl) (fun _ _ _ h => h) (Or.inl ⟨by rfl, ?_⟩) hHeld ?_
                  rotate_left 1
                  · intro wS hSw; have hqS := bcellB hSw; go_simp <;> with_reducible rfl
                  simp only [put_lit, List.set_cons_zero, List.set_cons_succ]
                  refine reg_take 22 40 (v := ?_) rfl rfl (by kernel_rfl) (by kernel_rfl) (by kernel_rfl) (fun _ _ _ h => h) (Or.inl ⟨by rfl, ?_⟩) hHeld ?_
                  rotate_left 1
                  · intro wS hSw; go_simp <;> with_reducible rfl
                  simp only [put_lit, List.set_cons_zero, List.set_cons_succ]
                  refine reg_take 23 41 (v := ?_) rfl rfl (by kernel_rfl) (by kernel_rfl) (by kernel_rfl) (fun _ _ _ h => h) (Or.inl ⟨by rfl, ?_⟩) hHeld ?_
                  rotate_left 1
                  · intro wS hSw; go_simp <;> with_reducible rfl
                  simp only [put_lit, List.set_cons_zero, List.set_cons_succ]
                  refine reg_take 24 42 (v := ?_) rfl rfl (by kernel_rfl) (by kernel_rfl) (by kernel_rfl) (fun _ _ _ h => h) (Or.inl ⟨by rfl, ?_⟩) hHeld ?_
                  rotate_left 1
                  · intro wS hSw; go_simp <;> with_reducible rfl
                  simp only [put_lit, List.set_cons_zero, List.set_cons_succ]
                  refine reg_take 25 43 (v := ?_) rfl rfl (by kernel_rfl) (by kernel_rfl) (by kernel_rfl) (fun _ _ _ h => h) (Or.inl ⟨by rfl, ?_⟩) hHeld ?_
                  rotate_left 1
                  · intro wS hSw; go_simp <;> with_reducible rfl
                  simp only [put_lit, List.set_cons_zero, List.set_cons_succ]
                  refine reg_take 26 44 (v := ?_) rfl rfl (by kernel_rfl) (by kernel_rfl) (by kernel_rfl) (fun _ _ _ h => h) (Or.inl ⟨by rfl, ?_⟩) hHeld ?_
                  rotate_left 1
                  · intro wS hSw; go_simp <;> with_reducible rfl
                  simp only [put_lit, List.set_cons_zero, List.set_cons_succ]
                  refine reg_take 27 45 (v := ?_) rfl rfl (by kernel_rfl) (by kernel_rfl) (by kernel_rfl) (fun _ _ _ h => h) (Or.inl ⟨by rfl, ?_⟩) hHeld ?_
                  rotate_left 1
                  · intro wS hSw; go_simp <;> with_reducible rfl
                  simp only [put_lit, List.set_cons_zero, List.set_cons_succ]
                  refine reg_take 28 46 (v := undef) rfl rfl (by kernel_rfl) (by kernel_rfl) (by kernel_rfl) (fun _ _ _ h => h) (Or.inr ⟨by rfl, rfl⟩) hHeld ?_
                  simp only [put_lit, List.set_cons_zero, List.set_cons_succ]
                  refine reg_take 29 47 (v := undef) rfl rfl (by kernel_rfl) (by kernel_rfl) (by kernel_rfl) (fun _ _ _ h => h) (Or.inr ⟨by rfl, rfl⟩) hHeld ?_
                  simp only [put_lit, List.set_cons_zero, List.set_cons_succ]
                  refine reg_take 30 48 (v := undef) rfl rfl (by kernel_rfl) (by kernel_rfl) (by kernel_rfl) (fun _ _ _ h => h) (Or.inr ⟨by rfl, rfl⟩) hHeld ?_
                  simp only [put_lit, List.set_cons_zero, List.set_cons_succ]
                  refine reg_take 31 49 (v := undef) rfl rfl (by kernel_rfl) (by kernel_rfl) (by kernel_rfl) (fun _ _ _ h => h) (Or.inr ⟨by rfl, rfl⟩) hHeld ?_
                  simp only [put_lit, List.set_cons_zero, List.set_cons_succ]
                  refine reg_take 32 50 (v := undef) rfl rfl (by kernel_rfl) (by kernel_rfl) (by kernel_rfl) (fun _ _ _ h => h) (Or.inr ⟨by rfl, rfl⟩) hHeld ?_
                  simp only [put_lit, List.set_cons_zero, List.set_cons_succ]
                  refine reg_take 33 51 (v := undef) rfl rfl (by kernel_rfl) (by kernel_rfl) (by kernel_rfl) (fun _ _ _ h => h) (Or.inr ⟨by rfl, rfl⟩) hHeld ?_
                  simp only [put_lit, List.set_cons_zero, List.set_cons_succ]
                  refine reg_take 34 52 (v := undef) rfl rfl (by kernel_rfl) (by kernel_rfl) (by kernel_rfl) (fun _ _ _ h => h) (Or.inr ⟨by rfl, rfl⟩) hHeld ?_
                  simp only [put_lit, List.set_cons_zero, List.set_cons_succ]
                  refine reg_take 35 53 (v := undef) rfl rfl (by kernel_rfl) (by kernel_rfl) (by kernel_rfl) (fun _ _ _ h => h) (Or.inr ⟨by rfl, rfl⟩) hHeld ?_
                  simp only [put_lit, List.set_cons_zero, List.set_cons_succ]
                  refine reg_take 36 54 (v := undef) rfl rfl (by kernel_rfl) (by kernel_rfl) (by kernel_rfl) (fun _ _ _ h => h) (Or.inr ⟨by rfl, rfl⟩) hHeld ?_
                  simp only [put_lit, List.set_cons_zero, List.set_cons_succ]
                  refine reg_take 37 55 (v := undef) rfl rfl (by kernel_rfl) (by kernel_rfl) (by kernel_rfl) (fun _ _ _ h => h) (Or.inr ⟨by rfl, rfl⟩) hHeld ?_
                  simp only [put_lit, List.set_cons_zero, List.set_cons_succ]
                  refine reg_take 38 56 (v := undef) rfl rfl (by kernel_rfl) (by kernel_rfl) (by kernel_rfl) (fun _ _ _ h => h) (Or.inr ⟨by rfl, rfl⟩) hHeld ?_
                  simp only [put_lit, List.set_cons_zero, List.set_cons_succ]
                  refine reg_take 39 57 (v := ?_) rfl rfl (by kernel_rfl) (by kernel_rfl) (by kernel_rfl) (fun _ _ _ h => h) (Or.inl ⟨by rfl, ?_⟩) hHeld ?_
                  rotate_left 1
                  · intro wS hSw; go_simp <;> with_reducible rfl
                  simp only [put_lit, List.set_cons_zero, List.set_cons_succ]
                  refine reg_take 40 58 (v := ?_) rfl rfl (by kernel_rfl) (by kernel_rfl) (by kernel_rfl) (fun _ _ _ h => h) (Or.inl ⟨by rfl, ?_⟩) hHeld ?_
                  rotate_left 1
                  · intro wS hSw; go_simp <;> with_reducible rfl
                  simp only [put_lit, List.set_cons_zero, List.set_cons_succ]
                  refine wpAnyH_done (by kernel_rfl) ?_ _
                  have HB3 := Lib.hid (bel_t HB.out (bel_t HV2.out hHeld))
                  go_wp2
                  go_round
                  case rel => exact ⟨j + 1, j, by omega, rfl, HG, by simp, Or.inr HT2.out, HB3⟩
                  case measure => simp [intOf]; omega
                · obtain ⟨q, rfl⟩ : ∃ q : Nat, y = (q : Int) := ⟨y.toNat, by omega⟩
                  have hqj : q < j := by omega
                  have hqn : q < n := by omega
                  obtain ⟨A2, m2, c2, d0, d1, _⟩ := (HC.out q (by omega)).keepS (stays_below (bel_t HW.out HV2.out))
                  by_cases hlt : z < (blAt ds q).wear
                  · have HG := Lib.hid (ft_less ds g h k j q q HY.out HT.out rfl (by rw [HE.out]; exact hlt))
                    go_wp2_with fail
                    refine reg_begin (by kernel_rfl) (fun hHeld => ?_)
                    refine reg_take 0 18 (v := ?_) rfl rfl (by kernel_rfl) (by kernel_rfl) (by kernel_rfl) (fun _ _ _ h => h) (Or.inl ⟨by rfl, ?_⟩) hHeld ?_
                    rotate_left 1
                    · intro wS hSw; go_simp <;> with_reducible rfl
                    simp only [put_lit, List.set_cons_zero, List.set_cons_succ]
                    refine reg_take 1 19 (v := ?_) rfl rfl (by kernel_rfl) (by kernel_rfl) (by kernel_rfl) (fun _ _ _ h => h) (Or.inl ⟨by rfl, ?_⟩) hHeld ?_
                    rotate_left 1
                    · intro wS hSw; go_simp <;> with_reducible rfl
                    simp only [put_lit, List.set_cons_zero, List.set_cons_succ]
                    refine reg_take 2 20 (v := ?_) rfl rfl (by kernel_rfl) (by kernel_rfl) (by kernel_rfl) (fun _ _ _ h => h) (Or.inl ⟨by rfl, ?_⟩) hHeld ?_
                    rotate_left 1
                    · intro wS hSw; go_simp <;> with_reducible rfl
                    simp only [put_lit, List.set_cons_zero, List.set_cons_succ]
                    refine reg_take 3 21 (v := ?_) rfl rfl (by kernel_rfl) (by kernel_rfl) (by kernel_rfl) (fun _ _ _ h => h) (Or.inl ⟨by rfl, ?_⟩) hHeld ?_
                    rotate_left 1
                    · intro wS hSw; have hqS := bcellB hSw; go_simp <;> with_reducible rfl
                    simp only [put_lit, List.set_cons_zero, List.set_cons_succ]
                    refine wpAnyH_ready (rs := [4]) (by kernel_rfl) (by simp) ?_
                    refine AllReadyH.cons rfl (fun K hK => ?_) AllReadyH.nil
                    go_simp
                    refine (sBlockNext _ _ _ _ ps _ (HM.out.keep (bel_t HV2.out hHeld))).mono ?_
                    rw [HN.out]
                    rintro e w1 ⟨rfl, hb1⟩
                    go_wp2_with fail
                    refine hK.out _ _ ?_ (fun hHeld => ?_)
                    · exact reg_call hHeld hb1 (Nat.le_refl _)
                    clear hK K
                    (try simp only [put_lit, List.set_cons_zero, List.set_cons_succ])
                    refine reg_take 5 23 (v := ?_) rfl rfl (by kernel_rfl) (by kernel_rfl) (by kernel_rfl) (fun _ _ _ h => h) (Or.inl ⟨by rfl, ?_⟩) hHeld ?_
                    rotate_left 1
                    · intro wS hSw; go_simp <;> with_reducible rfl
                    simp only [put_lit, List.set_cons_zero, List.set_cons_succ]
                    refine reg_take 6 24 (v := ?_) rfl rfl (by kernel_rfl) (by kernel_rfl) (by kernel_rfl) (fun _ _ _ h => h) (Or.inl ⟨by rfl, ?_⟩) hHeld ?_
                    rotate_left 1
                    · intro wS hSw; go_simp <;> with_reducible rfl
                    simp only [put_lit, List.set_cons_zero, List.set_cons_succ]
                    refine reg_take 7 25 (v := ?_) rfl rfl (by kernel_rfl) (by kernel_rfl) (by kernel_rfl) (fun _ _ _ h => h) (Or.inl ⟨by rfl, ?_⟩) hHeld ?_
                    rotate_left 1
                    · intro wS hSw; go_simp <;> with_reducible rfl
                    simp only [put_lit, List.set_cons_zero, List.set_cons_succ]
                    refine reg_take 8 26 (v := ?_) rfl rfl (by kernel_rfl) (by kernel_rfl) (by kernel_rfl) (fun _ _ _ h => h) (Or.inl ⟨by rfl, ?_⟩) hHeld ?_
                    rotate_left 1
                    · intro wS hSw; go_simp <;> with_reducible rfl
                    simp only [put_lit, List.set_cons_zero, List.set_cons_succ]
                    refine reg_take 9 27 (v := ?_) rfl rfl (by kernel_rfl) (by kernel_rfl) (by kernel_rfl) (fun _ _ _ h => h) (Or.inl ⟨by rfl, ?_⟩) hHeld ?_
                    rotate_left 1
                    · intro wS hSw; have hqS := bcellB hSw; go_simp <;> with_reducible rfl
                    simp only [put_lit, List.set_cons_zero, List.set_cons_succ]
                    refine reg_take 10 28 (v := ?_) rfl rfl (by kernel_rfl) (by kernel_rfl) (by kernel_rfl) (fun _ _ _ h => h) (Or.inl ⟨by rfl, ?_⟩) hHeld ?_
                    rotate_left 1
                    · intro wS hSw; go_simp <;> with_reducible rfl
                    simp only [put_lit, List.set_cons_zero, List.set_cons_succ]
                    refine reg_take 11 29 (v := ?_) rfl rfl (by kernel_rfl) (by kernel_rfl) (by kernel_rfl) (fun _ _ _ h => h) (Or.inl ⟨by rfl, ?_⟩) hHeld ?_
                    rotate_left 1
                    · intro wS hSw; go_simp <;> with_reducible rfl
                    simp only [put_lit, List.set_cons_zero, List.set_cons_succ]
                    refine reg_take 12 30 (v := ?_) rfl rfl (by kernel_rfl) (by kernel_rfl) (by kernel_rfl) (fun _ _ _ h => h) (Or.inl ⟨by rfl, ?_⟩) hHeld ?_
                    rotate_left 1
                    · intro wS hSw; go_simp <;> with_reducible rfl
                    simp only [put_lit, List.set_cons_zero, List.set_cons_succ]
                    refine reg_take 13 31 (v := ?_) rfl rfl (by kernel_rfl) (by kernel_rfl) (by kernel_rfl) (fun _ _ _ h => h) (Or.inl ⟨by rfl, ?_⟩) hHeld ?_
                    rotate_left 1
                    · intro wS hSw; go_simp <;> with_reducible rfl
                    simp only [put_lit, List.set_cons_zero, List.set_cons_succ]
                    refine reg_take 14 32 (v := ?_) rfl rfl (by kernel_rfl) (by kernel_rfl) (by kernel_rfl) (fun _ _ _ h => h) (Or.inl ⟨by rfl, ?_⟩) hHeld ?_
                    rotate_left 1
                    · intro wS hSw; go_simp <;> with_reducible rfl
                    simp only [put_lit, List.set_cons_zero, List.set_cons_succ]
                    refine reg_take 15 33 (v := ?_) rfl rfl (by kernel_rfl) (by kernel_rfl) (by kernel_rfl) (fun _ _ _ h => h) (Or.inl ⟨by rfl, ?_⟩) hHeld ?_
                    rotate_left 1
                    · intro wS hSw; have hqS := bcellB hSw; go_simp <;> with_reducible rfl
                    simp only [put_lit, List.set_cons_zero, List.set_cons_succ]
                    refine reg_take 16 34 (v := ?_) rfl rfl (by kernel_rfl) (by kernel_rfl) (by kernel_rfl) (fun _ _ _ h => h) (Or.inl ⟨by rfl, ?_⟩) hHeld ?_
                    rotate_left 1
                    · intro wS hSw; go_simp <;> with_reducible rfl
                    simp only [put_lit, List.set_cons_zero, List.set_cons_succ]
                    refine reg_take 17 35 (v := ?_) rfl rfl (by kernel_rfl) (by kernel_rfl) (by kernel_rfl) (fun _ _ _ h => h) (Or.inl ⟨by rfl, ?_⟩) hHeld ?_
                    rotate_left 1
                    · intro wS hSw; go_simp <;> with_reducible rfl
                    simp only [put_lit, List.set_cons_zero, List.set_cons_succ]
                    refine reg_take 18 36 (v := ?_) rfl rfl (by kernel_rfl) (by kernel_rfl) (by kernel_rfl) (fun _ _ _ h => h) (Or.inl ⟨by rfl, ?_⟩) hHeld ?_
                    rotate_left 1
                    · intro wS hSw; go_simp <;> with_reducible rfl
                    simp only [put_lit, List.set_cons_zero, List.set_cons_succ]
                    refine reg_take 19 37 (v := ?_) rfl rfl (by kernel_rfl) (by kernel_rfl) (by kernel_rfl) (fun _ _ _ h => h) (Or.inl ⟨by rfl, ?_⟩) hHeld ?_
                    rotate_left 1
                    · intro wS hSw; go_simp <;> with_reducible rfl
                    simp only [put_lit, List.set_cons_zero, List.set_cons_succ]
                    refine reg_take 20 38 (v := ?_) rfl rfl (by kernel_rfl) (by kernel_rfl) (by kernel_rfl) (fun _ _ _ h => h) (Or.inl ⟨by rfl, ?_⟩) hHeld ?_
                    rotate_left 1
                    · intro wS hSw; go_simp <;> with_reducible rfl
                    simp only [put_lit, List.set_cons_zero, List.set_cons_succ]
                    refine reg_take 21 39 (v := ?_) rfl rfl (by kernel_rfl) (by kernel_rfl) (by kernel_rfl) (fun _ _ _ h => h) (Or.inl ⟨by rfl, ?_⟩) hHeld ?_
                    rotate_left 1
                    · intro wS hSw; have hqS := bcellB hSw; go_simp <;> with_reducible rfl
                    simp only [put_lit, List.set_cons_zero, List.set_cons_succ]
                    refine reg_take 22 40 (v := ?_) rfl rfl (by kernel_rfl) (by kernel_rfl) (by kernel_rfl) (fun _ _ _ h => h) (Or.inl ⟨by rfl, ?_⟩) hHeld ?_
                    rotate_left 1
                    · intro wS hSw; go_simp <;> with_reducible rfl
                    simp only [put_lit, List.set_cons_zero, List.set_cons_succ]
                    refine reg_take 23 41 (v := ?_) rfl rfl (by kernel_rfl) (by kernel_rfl) (by kernel_rfl) (fun _ _ _ h => h) (Or.inl ⟨by rfl, ?_⟩) hHeld ?_
                    rotate_left 1
                    · intro wS hSw; go_simp <;> with_reducible rfl
                    simp only [put_lit, List.set_cons_zero, List.set_cons_succ]
                    refine reg_take 24 42 (v := ?_) rfl rfl (by kernel_rfl) (by kernel_rfl) (by kernel_rfl) (fun _ _ _ h => h) (Or.inl ⟨by rfl, ?_⟩) hHeld ?_
                    rotate_left 1
                    · intro wS hSw; go_simp <;> with_reducible rfl
                    simp only [put_lit, List.set_cons_zero, List.set_cons_succ]
                    refine reg_take 25 43 (v := ?_) rfl rfl (by kernel_rfl) (by kernel_rfl) (by kernel_rfl) (fun _ _ _ h => h) (Or.inl ⟨by rfl, ?_⟩) hHeld ?_
                    rotate_left 1
                    · intro wS hSw; go_simp <;> with_reducible rfl
                    simp only [put_lit, List.set_cons_zero, List.set_cons_succ]
                    refine reg_take 26 44 (v := ?_) rfl rfl (by kernel_rfl) (by kernel_rfl) (by kernel_rfl) (fun _ _ _ h => h) (Or.inl ⟨by rfl, ?_⟩) hHeld ?_
                    rotate_left 1
                    · intro wS hSw; go_simp <;> with_reducible rfl
                    simp only [put_lit, List.set_cons_zero, List.set_cons_succ]
                    refine reg_take 27 45 (v := ?_) rfl rfl (by kernel_rfl) (by kernel_rfl) (by kernel_rfl) (fun _ _ _ h => h) (Or.inl ⟨by rfl, ?_⟩) hHeld ?_
                    rotate_left 1
                    · intro wS hSw; go_simp <;> with_reducible rfl
                    simp only [put_lit, List.set_cons_zero, List.set_cons_succ]
                    refine reg_take 28 46 (v := ?_) rfl rfl (by kernel_rfl) (by kernel_rfl) (by kernel_rfl) (fun _ _ _ h => h) (Or.inl ⟨by rfl, ?_⟩) hHeld ?_
                    rotate_left 1
                    · intro wS hSw; go_simp <;> with_reducible rfl
                    simp only [put_lit, List.set_cons_zero, List.set_cons_succ]
                    refine reg_take 29 47 (v := ?_) rfl rfl (by kernel_rfl) (by kernel_rfl) (by kernel_rfl) (fun _ _ _ h => h) (Or.inl ⟨by rfl, ?_⟩) hHeld ?_
                    rotate_left 1
                    · intro wS hSw; go_simp <;> with_reducible rfl
                    simp only [put_lit, List.set_cons_zero, List.set_cons_succ]
                    refine reg_take 30 48 (v := ?_) rfl rfl (by kernel_rfl) (by kernel_rfl) (by kernel_rfl) (fun _ _ _ h => h) (Or.inl ⟨by rfl, ?_⟩) hHeld ?_
                    rotate_left 1
                    · intro wS hSw; go_simp <;> with_reducible rfl
                    simp only [put_lit, List.set_cons_zero, List.set_cons_succ]
                    refine reg_take 31 49 (v := ?_) rfl rfl (by kernel_rfl) (by kernel_rfl) (by kernel_rfl) (fun _ _ _ h => h) (Or.inl ⟨by rfl, ?_⟩) hHeld ?_
                    rotate_left 1
                    · intro wS hSw; go_simp <;> with_reducible rfl
                    simp only [put_lit, List.set_cons_zero, List.set_cons_succ]
                    refine reg_take 32 50 (v := ?_) rfl rfl (by kernel_rfl) (by kernel_rfl) (by kernel_rfl) (fun _ _ _ h => h) (Or.inl ⟨by rfl, ?_⟩) hHeld ?_
                    rotate_left 1
                    · intro wS hSw; have hqS := bcellB hSw; go_simp <;> with_reducible rfl
                    simp only [put_lit, List.set_cons_zero, List.set_cons_succ]
                    refine reg_take 33 51 (v := ?_) rfl rfl (by kernel_rfl) (by kernel_rfl) (by kernel_rfl) (fun _ _ _ h => h) (Or.inl ⟨by rfl, ?_⟩) hHeld ?_
                    rotate_left 1
                    · intro wS hSw; go_simp <;> with_reducible rfl
                    simp only [put_lit, List.set_cons_zero, List.set_cons_succ]
                    refine reg_take 34 52 (v := ?_) rfl rfl (by kernel_rfl) (by kernel_rfl) (by kernel_rfl) (fun _ _ _ h => h) (Or.inl ⟨by rfl, ?_⟩) hHeld ?_
                    rotate_left 1
                    · intro wS hSw; go_simp <;> with_reducible rfl
                    simp only [put_lit, List.set_cons_zero, List.set_cons_succ]
                    refine reg_take 35 53 (v := ?_) rfl rfl (by kernel_rfl) (by kernel_rfl) (by kernel_rfl) (fun _ _ _ h => h) (Or.inl ⟨by rfl, ?_⟩) hHeld ?_
                    rotate_left 1
                    · intro wS hSw; go_simp <;> with_reducible rfl
                    simp only [put_lit, List.set_cons_zero, List.set_cons_succ]
                    refine reg_take 36 54 (v := ?_) rfl rfl (by kernel_rfl) (by kernel_rfl) (by kernel_rfl) (fun _ _ _ h => h) (Or.inl ⟨by rfl, ?_⟩) hHeld ?_
                    rotate_left 1
                    · intro wS hSw; go_simp <;> with_reducible rfl
                    simp only [put_lit, List.set_cons_zero, List.set_cons_succ]
                    refine reg_take 37 55 (v := ?_) rfl rfl (by kernel_rfl) (by kernel_rfl) (by kernel_rfl) (fun _ _ _ h => h) (Or.inl ⟨by rfl, ?_⟩) hHeld ?_
                    rotate_left 1
                    · intro wS hSw; have hqS := bcellB hSw; go_simp <;> with_reducible rfl
                    simp only [put_lit, List.set_cons_zero, List.set_cons_succ]
                    refine reg_take 38 56 (v := ?_) rfl rfl (by kernel_rfl) (by kernel_rfl) (by kernel_rfl) (fun _ _ _ h => h) (Or.inl ⟨by rfl, ?_⟩) hHeld ?_
                    rotate_left 1
                    · intro wS hSw; go_simp <;> with_reducible rfl
                    simp only [put_lit, List.set_cons_zero, List.set_cons_succ]
                    refine reg_take 39 57 (v := ?_) rfl rfl (by kernel_rfl) (by kernel_rfl) (by kernel_rfl) (fun _ _ _ h => h) (Or.inl ⟨by rfl, ?_⟩) hHeld ?_
                    rotate_left 1
                    · intro wS hSw; go_simp <;> with_reducible rfl
                    simp only [put_lit, List.set_cons_zero, List.set_cons_succ]
                    refine reg_take 40 58 (v := ?_) rfl rfl (by kernel_rfl) (by kernel_rfl) (by kernel_rfl) (fun _ _ _ h => h) (Or.inl ⟨by rfl, ?_⟩) hHeld ?_
                    rotate_left 1
                    · intro wS hSw; go_simp <;> with_reducible rfl
                    simp only [put_lit, List.set_cons_zero, List.set_cons_succ]
                    refine wpAnyH_done (by kernel_rfl) ?_ _
                    have HB3 := Lib.hid (bel_t HB.out (bel_t HV2.out hHeld))
                    go_wp2
                    go_round
                    case rel => exact ⟨j + 1, j, by omega, rfl, HG, by simp, Or.inr HT2.out, HB3⟩
                    case measure => simp [intOf]; omega
                  · have HG := Lib.hid (ft_more ds g h k j q q HY.out rfl (by rw [HE.out]; exact hlt))
                    go_wp2_with fail
                    refine reg_begin (by kernel_rfl) (fun hHeld => ?_)
                    refine reg_take 0 18 (v := ?_) rfl rfl (by kernel_rfl) (by kernel_rfl) (by kernel_rfl) (fun _ _ _ h => h) (Or.inl ⟨by rfl, ?_⟩) hHeld ?_
                    rotate_left 1
                    · intro wS hSw; go_simp <;> with_reducible rfl
                    simp only [put_lit, List.set_cons_zero, List.set_cons_succ]
                    refine reg_take 1 19 (v := ?_) rfl rfl (by kernel_rfl) (by kernel_rfl) (by kernel_rfl) (fun _ _ _ h => h) (Or.inl ⟨by rfl, ?_⟩) hHeld ?_
                    rotate_left 1
                    · intro wS hSw; go_simp <;> with_reducible rfl
                    simp only [put_lit, List.set_cons_zero, List.set_cons_succ]
                    refine reg_take 2 20 (v := ?_) rfl rfl (by kernel_rfl) (by kernel_rfl) (by kernel_rfl) (fun _ _ _ h => h) (Or.inl ⟨by rfl, ?_⟩) hHeld ?_
                    rotate_left 1
                    · intro wS hSw; go_simp <;> with_reducible rfl
                    simp only [put_lit, List.set_cons_zero, List.set_cons_succ]
                    refine reg_take 3 21 (v := ?_) rfl rfl (by kernel_rfl) (by kernel_rfl) (by kernel_rfl) (fun _ _ _ h => h) (Or.inl ⟨by rfl, ?_⟩) hHeld ?_
                    rotate_left 1
                    · intro wS hSw; have hqS := bcellB hSw; go_simp <;> with_reducible rfl
                    simp only [put_lit, List.set_cons_zero, List.set_cons_succ]
                    refine wpAnyH_ready (rs := [4]) (by kernel_rfl) (by simp) ?_
                    refine AllReadyH.cons rfl (fun K hK => ?_) AllReadyH.nil
                    go_simp
                    refine (sBlockNext _ _ _ _ ps _ (HM.out.keep (bel_t HV2.out hHeld))).mono ?_
                    rw [HN.out]
                    rintro e w1 ⟨rfl, hb1⟩
                    go_wp2_with fail
                    refine hK.out _ _ ?_ (fun hHeld => ?_)
                    · exact reg_call hHeld hb1 (Nat.le_refl _)
                    clear hK K
                    (try simp only [put_lit, List.set_cons_zero, List.set_cons_succ])
                    refine reg_take 5 23 (v := ?_) rfl rfl (by kernel_rfl) (by kernel_rfl) (by kernel_rfl) (fun _ _ _ h => h) (Or.inl ⟨by rfl, ?_⟩) hHeld ?_
                    rotate_left 1
                    · intro wS hSw; go_simp <;> with_reducible rfl
                    simp only [put_lit, List.set_cons_zero, List.set_cons_succ]
                    refine reg_take 6 24 (v := ?_) rfl rfl (by kernel_rfl) (by kernel_rfl) (by kernel_rfl) (fun _ _ _ h => h) (Or.inl ⟨by rfl, ?_⟩) hHeld ?_
                    rotate_left 1
                    · intro wS hSw; go_simp <;> with_reducible rfl
                    simp only [put_lit, List.set_cons_zero, List.set_cons_succ]
                    refine reg_take 7 25 (v := ?_) rfl rfl (by kernel_rfl) (by kernel_rfl) (by kernel_rfl) (fun _ _ _ h => h) (Or.inl ⟨by rfl, ?_⟩) hHeld ?_
                    rotate_left 1
                    · intro wS hSw; go_simp <;> with_reducible rfl
                    simp only [put_lit, List.set_cons_zero, List.set_cons_succ]
                    refine reg_take 8 26 (v := ?_) rfl rfl (by kernel_rfl) (by kernel_rfl) (by kernel_rfl) (fun _ _ _ h => h) (Or.inl ⟨by rfl, ?_⟩) hHeld ?_
                    rotate_left 1
                    · intro wS hSw; go_simp <;> with_reducible rfl
                    simp only [put_lit, List.set_cons_zero, List.set_cons_succ]
                    refine reg_take 9 27 (v := ?_) rfl rfl (by kernel_rfl) (by kernel_rfl) (by kernel_rfl) (fun _ _ _ h => h) (Or.inl ⟨by rfl, ?_⟩) hHeld ?_
                    rotate_left 1
                    · intro wS hSw; have hqS := bcellB hSw; go_simp <;> with_reducible rfl
                    simp only [put_lit, List.set_cons_zero, List.set_cons_succ]
                    refine reg_take 10 28 (v := ?_) rfl rfl (by kernel_rfl) (by kernel_rfl) (by kernel_rfl) (fun _ _ _ h => h) (Or.inl ⟨by rfl, ?_⟩) hHeld ?_
                    rotate_left 1
                    · intro wS hSw; go_simp <;> with_reducible rfl
                    simp only [put_lit, List.set_cons_zero, List.set_cons_succ]
                    refine reg_take 11 29 (v := ?_) rfl rfl (by kernel_rfl) (by kernel_rfl) (by kernel_rfl) (fun _ _ _ h => h) (Or.inl ⟨by rfl, ?_⟩) hHeld ?_
                    rotate_left 1
                    · intro wS hSw; go_simp <;> with_reducible rfl
                    simp only [put_lit, List.set_cons_zero, List.set_cons_succ]
                    refine reg_take 12 30 (v := ?_) rfl rfl (by kernel_rfl) (by kernel_rfl) (by kernel_rfl) (fun _ _ _ h => h) (Or.inl ⟨by rfl, ?_⟩) hHeld ?_
                    rotate_left 1
                    · intro wS hSw; go_simp <;> with_reducible rfl
                    simp only [put_lit, List.set_cons_zero, List.set_cons_succ]
                    refine reg_take 13 31 (v := ?_) rfl rfl (by kernel_rfl) (by kernel_rfl) (by kernel_rfl) (fun _ _ _ h => h) (Or.inl ⟨by rfl, ?_⟩) hHeld ?_
                    rotate_left 1
                    · intro wS hSw; go_simp <;> with_reducible rfl
                    simp only [put_lit, List.set_cons_zero, List.set_cons_succ]
                    refine reg_take 14 32 (v := ?_) rfl rfl (by kernel_rfl) (by kernel_rfl) (by kernel_rfl) (fun _ _ _ h => h) (Or.inl ⟨by rfl, ?_⟩) hHeld ?_
                    rotate_left 1
                    · intro wS hSw; go_simp <;> with_reducible rfl
                    simp only [put_lit, List.set_cons_zero, List.set_cons_succ]
                    refine reg_take 15 33 (v := ?_) rfl rfl (by kernel_rfl) (by kernel_rfl) (by kernel_rfl) (fun _ _ _ h => h) (Or.inl ⟨by rfl, ?_⟩) hHeld ?_
                    rotate_left 1
                    · intro wS hSw; have hqS := bcellB hSw; go_simp <;> with_reducible rfl
                    simp only [put_lit, List.set_cons_zero, List.set_cons_succ]
                    refine reg_take 16 34 (v := ?_) rfl rfl (by kernel_rfl) (by kernel_rfl) (by kernel_rfl) (fun _ _ _ h => h) (Or.inl ⟨by rfl, ?_⟩) hHeld ?_
                    rotate_left 1
                    · intro wS hSw; go_simp <;> with_reducible rfl
                    simp only [put_lit, List.set_cons_zero, List.set_cons_succ]
                    refine reg_take 17 35 (v := ?_) rfl rfl (by kernel_rfl) (by kernel_rfl) (by kernel_rfl) (fun _ _ _ h => h) (Or.inl ⟨by rfl, ?_⟩) hHeld ?_
                    rotate_left 1
                    · intro wS hSw; go_simp <;> with_reducible rfl
                    simp only [put_lit, List.set_cons_zero, List.set_cons_succ]
                    refine reg_take 18 36 (v := ?_) rfl rfl (by kernel_rfl) (by kernel_rfl) (by kernel_rfl) (fun _ _ _ h => h) (Or.inl ⟨by rfl, ?_⟩) hHeld ?_
                    rotate_left 1
                    · intro wS hSw; go_simp <;> with_reducible rfl
                    simp only [put_lit, List.set_cons_zero, List.set_cons_succ]
                    refine reg_take 19 37 (v := ?_) rfl rfl (by kernel_rfl) (by kernel_rfl) (by kernel_rfl) (fun _ _ _ h => h) (Or.inl ⟨by rfl, ?_⟩) hHeld ?_
                    rotate_left 1
                    · intro wS hSw; go_simp <;> with_reducible rfl
                    simp only [put_lit, List.set_cons_zero, List.set_cons_succ]
                    refine reg_take 20 38 (v := ?_) rfl rfl (by kernel_rfl) (by kernel_rfl) (by kernel_rfl) (fun _ _ _ h => h) (Or.inl ⟨by rfl, ?_⟩) hHeld ?_
                    rotate_left 1
                    · intro wS hSw; go_simp <;> with_reducible rfl
                    simp only [put_lit, List.set_cons_zero, List.set_cons_succ]
                    refine reg_take 21 39 (v := ?_) rfl rfl (by kernel_rfl) (by kernel_rfl) (by kernel_rfl) (fun _ _ _ h => h) (Or.inl ⟨by rfl, ?_⟩) hHeld ?_
                    rotate_left 1
                    · intro wS hSw; have hqS := bcellB hSw; go_simp <;> with_reducible rfl
                    simp only [put_lit, List.set_cons_zero, List.set_cons_succ]
                    refine reg_take 22 40 (v := ?_) rfl rfl (by kernel_rfl) (by kernel_rfl) (by kernel_rfl) (fun _ _ _ h => h) (Or.inl ⟨by rfl, ?_⟩) hHeld ?_
                    rotate_left 1
                    · intro wS hSw; go_simp <;> with_reducible rfl
                    simp only [put_lit, List.set_cons_zero, List.set_cons_succ]
                    refine reg_take 23 41 (v := ?_) rfl rfl (by kernel_rfl) (by kernel_rfl) (by kernel_rfl) (fun _ _ _ h => h) (Or.inl ⟨by rfl, ?_⟩) hHeld ?_
                    rotate_left 1
                    · intro wS hSw; go_simp <;> with_reducible rfl
                    simp only [put_lit, List.set_cons_zero, List.set_cons_succ]
                    refine reg_take 24 42 (v := ?_) rfl rfl (by kernel_rfl) (by kernel_rfl) (by kernel_rfl) (fun _ _ _ h => h) (Or.inl ⟨by rfl, ?_⟩) hHeld ?_
                    rotate_left 1
                    · intro wS hSw; go_simp <;> with_reducible rfl
                    simp only [put_lit, List.set_cons_zero, List.set_cons_succ]
                    refine reg_take 25 43 (v := ?_) rfl rfl (by kernel_rfl) (by kernel_rfl) (by kernel_rfl) (fun _ _ _ h => h) (Or.inl ⟨by rfl, ?_⟩) hHeld ?_
                    rotate_left 1
                    · intro wS hSw; go_simp <;> with_reducible rfl
                    simp only [put_lit, List.set_cons_zero, List.set_cons_succ]
                    refine reg_take 26 44 (v := ?_) rfl rfl (by kernel_rfl) (by kernel_rfl) (by kernel_rfl) (fun _ _ _ h => h) (Or.inl ⟨by rfl, ?_⟩) hHeld ?_
                    rotate_left 1
                    · intro wS hSw; go_simp <;> with_reducible rfl
                    simp only [put_lit, List.set_cons_zero, List.set_cons_succ]
                    refine reg_take 27 45 (v := ?_) rfl rfl (by kernel_rfl) (by kernel_rfl) (by kernel_rfl) (fun _ _ _ h => h) (Or.inl ⟨by rfl, ?_⟩) hHeld ?_
                    rotate_left 1
                    · intro wS hSw; go_simp <;> with_reducible rfl
                    simp only [put_lit, List.set_cons_zero, List.set_cons_succ]
                    refine reg_take 28 46 (v := ?_) rfl rfl (by kernel_rfl) (by kernel_rfl) (by kernel_rfl) (fun _ _ _ h => h) (Or.inl ⟨by rfl, ?_⟩) hHeld ?_
                    rotate_left 1
                    · intro wS hSw; go_simp <;> with_reducible rfl
                    simp only [put_lit, List.set_cons_zero, List.set_cons_succ]
                    refine reg_take 29 47 (v := ?_) rfl rfl (by kernel_rfl) (by kernel_rfl) (by kernel_rfl) (fun _ _ _ h => h) (Or.inl ⟨by rfl, ?_⟩) hHeld ?_
                    rotate_left 1
                    · intro wS hSw; go_simp <;> with_reducible rfl
                    simp only [put_lit, List.set_cons_zero, List.set_cons_succ]
                    refine reg_take 30 48 (v := ?_) rfl rfl (by kernel_rfl) (by kernel_rfl) (by kernel_rfl) (fun _ _ _ h => h) (Or.inl ⟨by rfl, ?_⟩) hHeld ?_
                    rotate_left 1
                    · intro wS hSw; go_simp <;> with_reducible rfl
                    simp only [put_lit, List.set_cons_zero, List.set_cons_succ]
                    refine reg_take 31 49 (v := ?_) rfl rfl (by kernel_rfl) (by kernel_rfl) (by kernel_rfl) (fun _ _ _ h => h) (Or.inl ⟨by rfl, ?_⟩) hHeld ?_
                    rotate_left 1
                    · intro wS hSw; go_simp <;> with_reducible rfl
                    simp only [put_lit, List.set_cons_zero, List.set_cons_succ]
                    refine reg_take 32 50 (v := ?_) rfl rfl (by kernel_rfl) (by kernel_rfl) (by kernel_rfl) (fun _ _ _ h => h) (Or.inl ⟨by rfl, ?_⟩) hHeld ?_
                    rotate_left 1
                    · intro wS hSw; have hqS := bcellB hSw; go_simp <;> with_reducible rfl
                    simp only [put_lit, List.set_cons_zero, List.set_cons_succ]
                    refine reg_take 33 51 (v := ?_) rfl rfl (by kernel_rfl) (by kernel_rfl) (by kernel_rfl) (fun _ _ _ h => h) (Or.inl ⟨by rfl, ?_⟩) hHeld ?_
                    rotate_left 1
                    · intro wS hSw; go_simp <;> with_reducible rfl
                    simp only [put_lit, List.set_cons_zero, List.set_cons_succ]
                    refine reg_take 34 52 (v := ?_) rfl rfl (by kernel_rfl) (by kernel_rfl) (by kernel_rfl) (fun _ _ _ h => h) (Or.inl ⟨by rfl, ?_⟩) hHeld ?_
                    rotate_left 1
                    · intro wS hSw; go_simp <;> with_reducible rfl
                    simp only [put_lit, List.set_cons_zero, List.set_cons_succ]
                    refine reg_take 35 53 (v := ?_) rfl rfl (by kernel_rfl) (by kernel_rfl) (by kernel_rfl) (fun _ _ _ h => h) (Or.inl ⟨by rfl, ?_⟩) hHeld ?_
                    rotate_left 1
                    · intro wS hSw; go_simp <;> with_reducible rfl
                    simp only [put_lit, List.set_cons_zero, List.set_cons_succ]
                    refine reg_take 36 54 (v := ?_) rfl rfl (by kernel_rfl) (by kernel_rfl) (by kernel_rfl) (fun _ _ _ h => h) (Or.inl ⟨by rfl, ?_⟩) hHeld ?_
                    rotate_left 1
                    · intro wS hSw; go_simp <;> with_reducible rfl
                    simp only [put_lit, List.set_cons_zero, List.set_cons_succ]
                    refine reg_take 37 55 (v := ?_) rfl rfl (by kernel_rfl) (by kernel_rfl) (by kernel_rfl) (fun _ _ _ h => h) (Or.inl ⟨by rfl, ?_⟩) hHeld ?_
                    rotate_left 1
                    · intro wS hSw; have hqS := bcellB hSw; go_simp <;> with_reducible rfl
                    simp only [put_lit, List.set_cons_zero, List.set_cons_succ]
                    refine reg_take 38 56 (v := ?_) rfl rfl (by kernel_rfl) (by kernel_rfl) (by kernel_rfl) (fun _ _ _ h => h) (Or.inl ⟨by rfl, ?_⟩) hHeld ?_
                    rotate_left 1
                    · intro wS hSw; go_simp <;> with_reducible rfl
                    simp only [put_lit, List.set_cons_zero, List.set_cons_succ]
                    refine reg_take 39 57 (v := ?_) rfl rfl (by kernel_rfl) (by kernel_rfl) (by kernel_rfl) (fun _ _ _ h => h) (Or.inl ⟨by rfl, ?_⟩) hHeld ?_
                    rotate_left 1
                    · intro wS hSw; go_simp <;> with_reducible rfl
                    simp only [put_lit, List.set_cons_zero, List.set_cons_succ]
                    refine reg_take 40 58 (v := ?_) rfl rfl (by kernel_rfl) (by kernel_rfl) (by kernel_rfl) (fun _ _ _ h => h) (Or.inl ⟨by rfl, ?_⟩) hHeld ?_
                    rotate_left 1
                    · intro wS hSw; go_simp <;> with_reducible rfl
                    simp only [put_lit, List.set_cons_zero, List.set_cons_succ]
                    refine wpAnyH_done (by kernel_rfl) ?_ _
                    have HB3 := Lib.hid (bel_t HB.out (bel_t HV2.out hHeld))
                    go_wp2
                    go_round
                    case rel => exact ⟨j + 1, q, by omega, rfl, HG, by simp, Or.inr HT2.out, HB3⟩
                    case measure => simp [intOf]; omega
              · have qk' : ((j : Int) != k) = false := by rw [bne, qk]; rfl
                have HG := Lib.hid (ft_no ds g h k j y HY.out (fa_head ds g h k j (by rw [qg, qh, qk]; simp)))
                go_wp2_with fail
                refine reg_begin (by kernel_rfl) (fun hHeld => ?_)
                refine reg_take 0 18 (v := ?_) rfl rfl (by kernel_rfl) (by kernel_rfl) (by kernel_rfl) (fun _ _ _ h => h) (Or.inl ⟨by rfl, ?_⟩) hHeld ?_
                rotate_left 1
                · intro wS hSw; go_simp <;> with_reducible rfl
                simp only [put_lit, List.set_cons_zero, List.set_cons_succ]
                refine reg_take 1 19 (v := ?_) rfl rfl (by kernel_rfl) (by kernel_rfl) (by kernel_rfl) (fun _ _ _ h => h) (Or.inl ⟨by rfl, ?_⟩) hHeld ?_
                rotate_left 1
                · intro wS hSw; go_simp <;> with_reducible rfl
                simp only [put_lit, List.set_cons_zero, List.set_cons_succ]
                refine reg_take 2 20 (v := ?_) rfl rfl (by kernel_rfl) (by kernel_rfl) (by kernel_rfl) (fun _ _ _ h => h) (Or.inl ⟨by rfl, ?_⟩) hHeld ?_
                rotate_left 1
                · intro wS hSw; go_simp <;> with_reducible rfl
                simp only [put_lit, List.set_cons_zero, List.set_cons_succ]
                refine reg_take 3 21 (v := ?_) rfl rfl (by kernel_rfl) (by kernel_rfl) (by kernel_rfl) (fun _ _ _ h => h) (Or.inl ⟨by rfl, ?_⟩) hHeld ?_
                rotate_left 1
                · intro wS hSw; have hqS := bcellB hSw; go_simp <;> with_reducible rfl
                simp only [put_lit, List.set_cons_zero, List.set_cons_succ]
                refine wpAnyH_ready (rs := [4]) (by kernel_rfl) (by simp) ?_
                refine AllReadyH.cons rfl (fun K hK => ?_) AllReadyH.nil
                go_simp
                refine (sBlockNext _ _ _ _ ps _ (HM.out.keep (bel_t HV2.out hHeld))).mono ?_
                rw [HN.out]
                rintro e w1 ⟨rfl, hb1⟩
                go_wp2_with fail
                refine hK.out _ _ ?_ (fun hHeld => ?_)
                · exact reg_call hHeld hb1 (Nat.le_refl _)
                clear hK K
                (try simp only [put_lit, List.set_cons_zero, List.set_cons_succ])
                refine reg_take 5 23 (v := ?_) rfl rfl (by kernel_rfl) (by kernel_rfl) (by kernel_rfl) (fun _ _ _ h => h) (Or.inl ⟨by rfl, ?_⟩) hHeld ?_
                rotate_left 1
                · intro wS hSw; go_simp <;> with_reducible rfl
                simp only [put_lit, List.set_cons_zero, List.set_cons_succ]
                refine reg_take 6 24 (v := ?_) rfl rfl (by kernel_rfl) (by kernel_rfl) (by kernel_rfl) (fun _ _ _ h => h) (Or.inl ⟨by rfl, ?_⟩) hHeld ?_
                rotate_left 1
                · intro wS hSw; go_simp <;> with_reducible rfl
                simp only [put_lit, List.set_cons_zero, List.set_cons_succ]
                refine reg_take 7 25 (v := ?_) rfl rfl (by kernel_rfl) (by kernel_rfl) (by kernel_rfl) (fun _ _ _ h => h) (Or.inl ⟨by rfl, ?_⟩) hHeld ?_
                rotate_left 1
                · intro wS hSw; go_simp <;> with_reducible rfl
                simp only [put_lit, List.set_cons_zero, List.set_cons_succ]
                refine reg_take 8 26 (v := ?_) rfl rfl (by kernel_rfl) (by kernel_rfl) (by kernel_rfl) (fun _ _ _ h => h) (Or.inl ⟨by rfl, ?_⟩) hHeld ?_
                rotate_left 1
                · intro wS hSw; go_simp <;> with_reducible rfl
                simp only [put_lit, List.set_cons_zero, List.set_cons_succ]
                refine reg_take 9 27 (v := ?_) rfl rfl (by kernel_rfl) (by kernel_rfl) (by kernel_rfl) (fun _ _ _ h => h) (Or.inl ⟨by rfl, ?_⟩) hHeld ?_
                rotate_left 1
                · intro wS hSw; have hqS := bcellB hSw; go_simp <;> with_reducible rfl
                simp only [put_lit, List.set_cons_zero, List.set_cons_succ]
                refine reg_take 10 28 (v := ?_) rfl rfl (by kernel_rfl) (by kernel_rfl) (by kernel_rfl) (fun _ _ _ h => h) (Or.inl ⟨by rfl, ?_⟩) hHeld ?_
                rotate_left 1
                · intro wS hSw; go_simp <;> with_reducible rfl
                simp only [put_lit, List.set_cons_zero, List.set_cons_succ]
                refine reg_take 11 29 (v := ?_) rfl rfl (by kernel_rfl) (by kernel_rfl) (by kernel_rfl) (fun _ _ _ h => h) (Or.inl ⟨by rfl, ?_⟩) hHeld ?_
                rotate_left 1
                · intro wS hSw; go_simp <;> with_reducible rfl
                simp only [put_lit, List.set_cons_zero, List.set_cons_succ]
                refine reg_take 12 30 (v := ?_) rfl rfl (by kernel_rfl) (by kernel_rfl) (by kernel_rfl) (fun _ _ _ h => h) (Or.inl ⟨by rfl, ?_⟩) hHeld ?_
                rotate_left 1
                · intro wS hSw; go_simp <;> with_reducible rfl
                simp only [put_lit, List.set_cons_zero, List.set_cons_succ]
                refine reg_take 13 31 (v := ?_) rfl rfl (by kernel_rfl) (by kernel_rfl) (by kernel_rfl) (fun _ _ _ h => h) (Or.inl ⟨by rfl, ?_⟩) hHeld ?_
                rotate_left 1
                · intro wS hSw; go_simp <;> with_reducible rfl
                simp only [put_lit, List.set_cons_zero, List.set_cons_succ]
                refine reg_take 14 32 (v := ?_) rfl rfl (by kernel_rfl) (by kernel_rfl) (by kernel_rfl) (fun _ _ _ h => h) (Or.inl ⟨by rfl, ?_⟩) hHeld ?_
                rotate_left 1
                · intro wS hSw; go_simp <;> with_reducible rfl
                simp only [put_lit, List.set_cons_zero, List.set_cons_succ]
                refine reg_take 15 33 (v := ?_) rfl rfl (by kernel_rfl) (by kernel_rfl) (by kernel_rfl) (fun _ _ _ h => h) (Or.inl ⟨by rfl, ?_⟩) hHeld ?_
                rotate_left 1
                · intro wS hSw; have hqS := bcellB hSw; go_simp <;> with_reducible rfl
                simp only [put_lit, List.set_cons_zero, List.set_cons_succ]
                refine reg_take 16 34 (v := ?_) rfl rfl (by kernel_rfl) (by kernel_rfl) (by kernel_rfl) (fun _ _ _ h => h) (Or.inl ⟨by rfl, ?_⟩) hHeld ?_
                rotate_left 1
                · intro wS hSw; go_simp <;> with_reducible rfl
                simp only [put_lit, List.set_cons_zero, List.set_cons_succ]
                refine reg_take 17 35 (v := ?_) rfl rfl (by kernel_rfl) (by kernel_rfl) (by kernel_rfl) (fun _ _ _ h => h) (Or.inl ⟨by rfl, ?_⟩) hHeld ?_
                rotate_left 1
                · intro wS hSw; go_simp <;> with_reducible rfl
                simp only [put_lit, List.set_cons_zero, List.set_cons_succ]
                refine reg_take 18 36 (v := ?_) rfl rfl (by kernel_rfl) (by kernel_rfl) (by kernel_rfl) (fun _ _ _ h => h) (Or.inl ⟨by rfl, ?_⟩) hHeld ?_
                rotate_left 1
                · intro wS hSw; go_simp <;> with_reducible rfl
                simp only [put_lit, List.set_cons_zero, List.set_cons_succ]
                refine reg_take 19 37 (v := ?_) rfl rfl (by kernel_rfl) (by kernel_rfl) (by kernel_rfl) (fun _ _ _ h => h) (Or.inl ⟨by rfl, ?_⟩) hHeld ?_
                rotate_left 1
                · intro wS hSw; go_simp <;> with_reducible rfl
                simp only [put_lit, List.set_cons_zero, List.set_cons_succ]
                refine reg_take 20 38 (v := ?_) rfl rfl (by kernel_rfl) (by kernel_rfl) (by kernel_rfl) (fun _ _ _ h => h) (Or.inl ⟨by rfl, ?_⟩) hHeld ?_
                rotate_left 1
                · intro wS hSw; go_simp <;> with_reducible rfl
                simp only [put_lit, List.set_cons_zero, List.set_cons_succ]
                refine reg_take 21 39 (v := ?_) rfl rfl (by kernel_rfl) (by kernel_rfl) (by kernel_rfl) (fun _ _ _ h => h) (Or.inl ⟨by rfl, ?_⟩) hHeld ?_
                rotate_left 1
                · intro wS hSw; have hqS := bcellB hSw; go_simp <;> with_reducible rfl
                simp only [put_lit, List.set_cons_zero, List.set_cons_succ]
                refine reg_take 22 40 (v := ?_) rfl rfl (by kernel_rfl) (by kernel_rfl) (by kernel_rfl) (fun _ _ _ h => h) (Or.inl ⟨by rfl, ?_⟩) hHeld ?_
                rotate_left 1
                · intro wS hSw; go_simp <;> with_reducible rfl
                simp only [put_lit, List.set_cons_zero, List.set_cons_succ]
                refine reg_take 23 41 (v := ?_) rfl rfl (by kernel_rfl) (by kernel_rfl) (by kernel_rfl) (fun _ _ _ h => h) (Or.inl ⟨by rfl, ?_⟩) hHeld ?_
                rotate_left 1
                · intro wS hSw; go_simp <;> with_reducible rfl
                simp only [put_lit, List.set_cons_zero, List.set_cons_succ]
                refine reg_take 24 42 (v := ?_) rfl rfl (by kernel_rfl) (by kernel_rfl) (by kernel_rfl) (fun _ _ _ h => h) (Or.inl ⟨by rfl, ?_⟩) hHeld ?_
                rotate_left 1
                · intro wS hSw; go_simp <;> with_reducible rfl
                simp only [put_lit, List.set_cons_zero, List.set_cons_succ]
                refine reg_take 25 43 (v := undef) rfl rfl (by kernel_rfl) (by kernel_rfl) (by kernel_rfl) (fun _ _ _ h => h) (Or.inr ⟨by rfl, rfl⟩) hHeld ?_
                simp only [put_lit, List.set_cons_zero, List.set_cons_succ]
                refine reg_take 26 44 (v := undef) rfl rfl (by kernel_rfl) (by kernel_rfl) (by kernel_rfl) (fun _ _ _ h => h) (Or.inr ⟨by rfl, rfl⟩) hHeld ?_
                simp only [put_lit, List.set_cons_zero, List.set_cons_succ]
                refine reg_take 27 45 (v := undef) rfl rfl (by kernel_rfl) (by kernel_rfl) (by kernel_rfl) (fun _ _ _ h => h) (Or.inr ⟨by rfl, rfl⟩) hHeld ?_
                simp only [put_lit, List.set_cons_zero, List.set_cons_succ]
                refine reg_take 28 46 (v := undef) rfl rfl (by kernel_rfl) (by kernel_rfl) (by kernel_rfl) (fun _ _ _ h => h) (Or.inr ⟨by rfl, rfl⟩) hHeld ?_
                simp only [put_lit, List.set_cons_zero, List.set_cons_succ]
                refine reg_take 29 47 (v := undef) rfl rfl (by kernel_rfl) (by kernel_rfl) (by kernel_rfl) (fun _ _ _ h => h) (Or.inr ⟨by rfl, rfl⟩) hHeld ?_
                simp only [put_lit, List.set_cons_zero, List.set_cons_succ]
                refine reg_take 30 48 (v := undef) rfl rfl (by kernel_rfl) (by kernel_rfl) (by kernel_rfl) (fun _ _ _ h => h) (Or.inr ⟨by rfl, rfl⟩) hHeld ?_
                simp only [put_lit, List.set_cons_zero, List.set_cons_succ]
                refine reg_take 31 49 (v := undef) rfl rfl (by kernel_rfl) (by kernel_rfl) (by kernel_rfl) (fun _ _ _ h => h) (Or.inr ⟨by rfl, rfl⟩) hHeld ?_
                simp only [put_lit, List.set_cons_zero, List.set_cons_succ]
                refine reg_take 32 50 (v := undef) rfl rfl (by kernel_rfl) (by kernel_rfl) (by kernel_rfl) (fun _ _ _ h => h) (Or.inr ⟨by rfl, rfl⟩) hHeld ?_
                simp only [put_lit, List.set_cons_zero, List.set_cons_succ]
                refine reg_take 33 51 (v := undef) rfl rfl (by kernel_rfl) (by kernel_rfl) (by kernel_rfl) (fun _ _ _ h => h) (Or.inr ⟨by rfl, rfl⟩) hHeld ?_
                simp only [put_lit, List.set_cons_zero, List.set_cons_succ]
                refine reg_take 34 52 (v := undef) rfl rfl (by kernel_rfl) (by kernel_rfl) (by kernel_rfl) (fun _ _ _ h => h) (Or.inr ⟨by rfl, rfl⟩) hHeld ?_
                simp only [put_lit, List.set_cons_zero, List.set_cons_succ]
                refine reg_take 35 53 (v := undef) rfl rfl (by kernel_rfl) (by kernel_rfl) (by kernel_rfl) (fun _ _ _ h => h) (Or.inr ⟨by rfl, rfl⟩) hHeld ?_
                simp only [put_lit, List.set_cons_zero, List.set_cons_succ]
                refine reg_take 36 54 (v := undef) rfl rfl (by kernel_rfl) (by kernel_rfl) (by kernel_rfl) (fun _ _ _ h => h) (Or.inr ⟨by rfl, rfl⟩) hHeld ?_
                simp only [put_lit, List.set_cons_zero, List.set_cons_succ]
                refine reg_take 37 55 (v := undef) rfl rfl (by kernel_rfl) (by kernel_rfl) (by kernel_rfl) (fun _ _ _ h => h) (Or.inr ⟨by rfl, rfl⟩) hHeld ?_
                simp only [put_lit, List.set_cons_zero, List.set_cons_succ]
                refine reg_take 38 56 (v := undef) rfl rfl (by kernel_rfl) (by kernel_rfl) (by kernel_rfl) (fun _ _ _ h => h) (Or.inr ⟨by rfl, rfl⟩) hHeld ?_
                simp only [put_lit, List.set_cons_zero, List.set_cons_succ]
                refine reg_take 39 57 (v := undef) rfl rfl (by kernel_rfl) (by kernel_rfl) (by kernel_rfl) (fun _ _ _ h => h) (Or.inr ⟨by rfl, rfl⟩) hHeld ?_
                simp only [put_lit, List.set_cons_zero, List.set_cons_succ]
                refine reg_take 40 58 (v := ?_) rfl rfl (by kernel_rfl) (by kernel_rfl) (by kernel_rfl) (fun _ _ _ h => h) (Or.inl ⟨by rfl, ?_⟩) hHeld ?_
                rotate_left 1
                · intro wS hSw; go_simp <;> with_reducible rfl
                simp only [put_lit, List.set_cons_zero, List.set_cons_succ]
                refine wpAnyH_done (by kernel_rfl) ?_ _
                have HB3 := Lib.hid (bel_t HB.out (bel_t HV2.out hHeld))
                go_wp2
                go_round
                case rel => exact ⟨j + 1, y, by omega, rfl, HG, by simp, Or.inr HT2.out, HB3⟩
                case measure => simp [intOf]; omega
            · have qh' : ((j : Int) != h) = false := by rw [bne, qh]; rfl
              have HG := Lib.hid (ft_no ds g h k j y HY.out (fa_head ds g h k j (by rw [qg, qh]; simp)))
              go_wp2_with fail
              refine reg_begin (by kernel_rfl) (fun hHeld => ?_)
              refine reg_take 0 18 (v := ?_) rfl rfl (by kernel_rfl) (by kernel_rfl) (by kernel_rfl) (fun _ _ _ h => h) (Or.inl ⟨by rfl, ?_⟩) hHeld ?_
              rotate_left 1
              · intro wS hSw; go_simp <;> with_reducible rfl
              simp only [put_lit, List.set_cons_zero, List.set_cons_succ]
              refine reg_take 1 19 (v := ?_) rfl rfl (by kernel_rfl) (by kernel_rfl) (by kernel_rfl) (fun _ _ _ h => h) (Or.inl ⟨by rfl, ?_⟩) hHeld ?_
              rotate_left 1
              · intro wS hSw; go_simp <;> with_reducible rfl
              simp only [put_lit, List.set_cons_zero, List.set_cons_succ]
              refine reg_take 2 20 (v := ?_) rfl rfl (by kernel_rfl) (by kernel_rfl) (by kernel_rfl) (fun _ _ _ h => h) (Or.inl ⟨by rfl, ?_⟩) hHeld ?_
              rotate_left 1
              · intro wS hSw; go_simp <;> with_reducible rfl
              simp only [put_lit, List.set_cons_zero, List.set_cons_succ]
              refine reg_take 3 21 (v := ?_) rfl rfl (by kernel_rfl) (by kernel_rfl) (by kernel_rfl) (fun _ _ _ h => h) (Or.inl ⟨by rfl, ?_⟩) hHeld ?_
              rotate_left 1
              · intro wS hSw; have hqS := bcellB hSw; go_simp <;> with_reducible rfl
              simp only [put_lit, List.set_cons_zero, List.set_cons_succ]
              refine wpAnyH_ready (rs := [4]) (by kernel_rfl) (by simp) ?_
              refine AllReadyH.cons rfl (fun K hK => ?_) AllReadyH.nil
              go_simp
              refine (sBlockNext _ _ _ _ ps _ (HM.out.keep (bel_t HV2.out hHeld))).mono ?_
              rw [HN.out]
              rintro e w1 ⟨rfl, hb1⟩
              go_wp2_with fail
              refine hK.out _ _ ?_ (fun hHeld => ?_)
              · exact reg_call hHeld hb1 (Nat.le_refl _)
              clear hK K
              (try simp only [put_lit, List.set_cons_zero, List.set_cons_succ])
              refine reg_take 5 23 (v := ?_) rfl rfl (by kernel_rfl) (by kernel_rfl) (by kernel_rfl) (fun _ _ _ h => h) (Or.inl ⟨by rfl, ?_⟩) hHeld ?_
              rotate_left 1
              · intro wS hSw; go_simp <;> with_reducible rfl
              simp only [put_lit, List.set_cons_zero, List.set_cons_succ]
              refine reg_take 6 24 (v := ?_) rfl rfl (by kernel_rfl) (by kernel_rfl) (by kernel_rfl) (fun _ _ _ h => h) (Or.inl ⟨by rfl, ?_⟩) hHeld ?_
              rotate_left 1
              · intro wS hSw; go_simp <;> with_reducible rfl
              simp only [put_lit, List.set_cons_zero, List.set_cons_succ]
              refine reg_take 7 25 (v := ?_) rfl rfl (by kernel_rfl) (by kernel_rfl) (by kernel_rfl) (fun _ _ _ h => h) (Or.inl ⟨by rfl, ?_⟩) hHeld ?_
              rotate_left 1
              · intro wS hSw; go_simp <;> with_reducible rfl
              simp only [put_lit, List.set_cons_zero, List.set_cons_succ]
              refine reg_take 8 26 (v := ?_) rfl rfl (by kernel_rfl) (by kernel_rfl) (by kernel_rfl) (fun _ _ _ h => h) (Or.inl ⟨by rfl, ?_⟩) hHeld ?_
              rotate_left 1
              · intro wS hSw; go_simp <;> with_reducible rfl
              simp only [put_lit, List.set_cons_zero, List.set_cons_succ]
              refine reg_take 9 27 (v := ?_) rfl rfl (by kernel_rfl) (by kernel_rfl) (by kernel_rfl) (fun _ _ _ h => h) (Or.inl ⟨by rfl, ?_⟩) hHeld ?_
              rotate_left 1
              · intro wS hSw; have hqS := bcellB hSw; go_simp <;> with_reducible rfl
              simp only [put_lit, List.set_cons_zero, List.set_cons_succ]
              refine reg_take 10 28 (v := ?_) rfl rfl (by kernel_rfl) (by kernel_rfl) (by kernel_rfl) (fun _ _ _ h => h) (Or.inl ⟨by rfl, ?_⟩) hHeld ?_
              rotate_left 1
              · intro wS hSw; go_simp <;> with_reducible rfl
              simp only [put_lit, List.set_cons_zero, List.set_cons_succ]
              refine reg_take 11 29 (v := ?_) rfl rfl (by kernel_rfl) (by kernel_rfl) (by kernel_rfl) (fun _ _ _ h => h) (Or.inl ⟨by rfl, ?_⟩) hHeld ?_
              rotate_left 1
              · intro wS hSw; go_simp <;> with_reducible rfl
              simp only [put_lit, List.set_cons_zero, List.set_cons_succ]
              refine reg_take 12 30 (v := ?_) rfl rfl (by kernel_rfl) (by kernel_rfl) (by kernel_rfl) (fun _ _ _ h => h) (Or.inl ⟨by rfl, ?_⟩) hHeld ?_
              rotate_left 1
              · intro wS hSw; go_simp <;> with_reducible rfl
              simp only [put_lit, List.set_cons_zero, List.set_cons_succ]
              refine reg_take 13 31 (v := ?_) rfl rfl (by kernel_rfl) (by kernel_rfl) (by kernel_rfl) (fun _ _ _ h => h) (Or.inl ⟨by rfl, ?_⟩) hHeld ?_
              rotate_left 1
              · intro wS hSw; go_simp <;> with_reducible rfl
              simp only [put_lit, List.set_cons_zero, List.set_cons_succ]
              refine reg_take 14 32 (v := ?_) rfl rfl (by kernel_rfl) (by kernel_rfl) (by kernel_rfl) (fun _ _ _ h => h) (Or.inl ⟨by rfl, ?_⟩) hHeld ?_
              rotate_left 1
              · intro wS hSw; go_simp <;> with_reducible rfl
              simp only [put_lit, List.set_cons_zero, List.set_cons_succ]
              refine reg_take 15 33 (v := ?_) rfl rfl (by kernel_rfl) (by kernel_rfl) (by kernel_rfl) (fun _ _ _ h => h) (Or.inl ⟨by rfl, ?_⟩) hHeld ?_
              rotate_left 1
              · intro wS hSw; have hqS := bcellB hSw; go_simp <;> with_reducible rfl
              simp only [put_lit, List.set_cons_zero, List.set_cons_succ]
              refine reg_take 16 34 (v := ?_) rfl rfl (by kernel_rfl) (by kernel_rfl) (by kernel_rfl) (fun _ _ _ h => h) (Or.inl ⟨by rfl, ?_⟩) hHeld ?_
              rotate_left 1
              · intro wS hSw; go_simp <;> with_reducible rfl
              simp only [put_lit, List.set_cons_zero, List.set_cons_succ]
              refine reg_take 17 35 (v := ?_) rfl rfl (by kernel_rfl) (by kernel_rfl) (by kernel_rfl) (fun _ _ _ h => h) (Or.inl ⟨by rfl, ?_⟩) hHeld ?_
              rotate_left 1
              · intro wS hSw; go_simp <;> with_reducible rfl
              simp only [put_lit, List.set_cons_zero, List.set_cons_succ]
              refine reg_take 18 36 (v := ?_) rfl rfl (by kernel_rfl) (by kernel_rfl) (by kernel_rfl) (fun _ _ _ h => h) (Or.inl ⟨by rfl, ?_⟩) hHeld ?_
              rotate_left 1
              · intro wS hSw; go_simp <;> with_reducible rfl
              simp only [put_lit, List.set_cons_zero, List.set_cons_succ]
              refine reg_take 19 37 (v := undef) rfl rfl (by kernel_rfl) (by kernel_rfl) (by kernel_rfl) (fun _ _ _ h => h) (Or.inr ⟨by rfl, rfl⟩) hHeld ?_
              simp only [put_lit, List.set_cons_zero, List.set_cons_succ]
              refine reg_take 20 38 (v := undef) rfl rfl (by kernel_rfl) (by kernel_rfl) (by kernel_rfl) (fun _ _ _ h => h) (Or.inr ⟨by rfl, rfl⟩) hHeld ?_
              simp only [put_lit, List.set_cons_zero, List.set_cons_succ]
              refine reg_take 21 39 (v := undef) rfl rfl (by kernel_rfl) (by kernel_rfl) (by kernel_rfl) (fun _ _ _ h => h) (Or.inr ⟨by rfl, rfl⟩) hHeld ?_
              simp only [put_lit, List.set_cons_zero, List.set_cons_succ]
              refine reg_take 22 40 (v := undef) rfl rfl (by kernel_rfl) (by kernel_rfl) (by kernel_rfl) (fun _ _ _ h => h) (Or.inr ⟨by rfl, rfl⟩) hHeld ?_
              simp only [put_lit, List.set_cons_zero, List.set_cons_succ]
              refine reg_take 23 41 (v := ?_) rfl rfl (by kernel_rfl) (by kernel_rfl) (by kernel_rfl) (fun _ _ _ h => h) (Or.inl ⟨by rfl, ?_⟩) hHeld ?_
              rotate_left 1
              · intro wS hSw; go_simp <;> with_reducible rfl
              simp only [put_lit, List.set_cons_zero, List.set_cons_succ]
              refine reg_take 24 42 (v := ?_) rfl rfl (by kernel_rfl) (by kernel_rfl) (by kernel_rfl) (fun _ _ _ h => h) (Or.inl ⟨by rfl, ?_⟩) hHeld ?_
              rotate_left 1
              · intro wS hSw; go_simp <;> with_reducible rfl
              simp only [put_lit, List.set_cons_zero, List.set_cons_succ]
              refine reg_take 25 43 (v := undef) rfl rfl (by kernel_rfl) (by kernel_rfl) (by kernel_rfl) (fun _ _ _ h => h) (Or.inr ⟨by rfl, rfl⟩) hHeld ?_
              simp only [put_lit, List.set_cons_zero, List.set_cons_succ]
              refine reg_take 26 44 (v := undef) rfl rfl (by kernel_rfl) (by kernel_rfl) (by kernel_rfl) (fun _ _ _ h => h) (Or.inr ⟨by rfl, rfl⟩) hHeld ?_
              simp only [put_lit, List.set_cons_zero, List.set_cons_succ]
              refine reg_take 27 45 (v := undef) rfl rfl (by kernel_rfl) (by kernel_rfl) (by kernel_rfl) (fun _ _ _ h => h) (Or.inr ⟨by rfl, rfl⟩) hHeld ?_
              simp only [put_lit, List.set_cons_zero, List.set_cons_succ]
              refine reg_take 28 46 (v := undef) rfl rfl (by kernel_rfl) (by kernel_rfl) (by kernel_rfl) (fun _ _ _ h => h) (Or.inr ⟨by rfl, rfl⟩) hHeld ?_
              simp only [put_lit, List.set_cons_zero, List.set_cons_succ]
              refine reg_take 29 47 (v := undef) rfl rfl (by kernel_rfl) (by kernel_rfl) (by kernel_rfl) (fun _ _ _ h => h) (Or.inr ⟨by rfl, rfl⟩) hHeld ?_
              simp only [put_lit, List.set_cons_zero, List.set_cons_succ]
              refine reg_take 30 48 (v := undef) rfl rfl (by kernel_rfl) (by kernel_rfl) (by kernel_rfl) (fun _ _ _ h => h) (Or.inr ⟨by rfl, rfl⟩) hHeld ?_
              simp only [put_lit, List.set_cons_zero, List.set_cons_succ]
              refine reg_take 31 49 (v := undef) rfl rfl (by kernel_rfl) (by kernel_rfl) (by kernel_rfl) (fun _ _ _ h => h) (Or.inr ⟨by rfl, rfl⟩) hHeld ?_
              simp only [put_lit, List.set_cons_zero, List.set_cons_succ]
              refine reg_take 32 50 (v := undef) rfl rfl (by kernel_rfl) (by kernel_rfl) (by kernel_rfl) (fun _ _ _ h => h) (Or.inr ⟨by rfl, rfl⟩) hHeld ?_
              simp only [put_lit, List.set_cons_zero, List.set_cons_succ]
              refine reg_take 33 51 (v := undef) rfl rfl (by kernel_rfl) (by kernel_rfl) (by kernel_rfl) (fun _ _ _ h => h) (Or.inr ⟨by rfl, rfl⟩) hHeld ?_
              simp only [put_lit, List.set_cons_zero, List.set_cons_succ]
              refine reg_take 34 52 (v := undef) rfl rfl (by kernel_rfl) (by kernel_rfl) (by kernel_rfl) (fun _ _ _ h => h) (Or.inr ⟨by rfl, rfl⟩) hHeld ?_
              simp only [put_lit, List.set_cons_zero, List.set_cons_succ]
              refine reg_take 35 53 (v := undef) rfl rfl (by kernel_rfl) (by kernel_rfl) (by kernel_rfl) (fun _ _ _ h => h) (Or.inr ⟨by rfl, rfl⟩) hHeld ?_
              simp only [put_lit, List.set_cons_zero, List.set_cons_succ]
              refine reg_take 36 54 (v := undef) rfl rfl (by kernel_rfl) (by kernel_rfl) (by kernel_rfl) (fun _ _ _ h => h) (Or.inr ⟨by rfl, rfl⟩) hHeld ?_
              simp only [put_lit, List.set_cons_zero, List.set_cons_succ]
              refine reg_take 37 55 (v := undef) rfl rfl (by kernel_rfl) (by kernel_rfl) (by kernel_rfl) (fun _ _ _ h => h) (Or.inr ⟨by rfl, rfl⟩) hHeld ?_
              simp only [put_lit, List.set_cons_zero, List.set_cons_succ]
              refine reg_take 38 56 (v := undef) rfl rfl (by kernel_rfl) (by kernel_rfl) (by kernel_rfl) (fun _ _ _ h => h) (Or.inr ⟨by rfl, rfl⟩) hHeld ?_
              simp only [put_lit, List.set_cons_zero, List.set_cons_succ]
              refine reg_take 39 57 (v := undef) rfl rfl (by kernel_rfl) (by kernel_rfl) (by kernel_rfl) (fun _ _ _ h => h) (Or.inr ⟨by rfl, rfl⟩) hHeld ?_
              simp only [put_lit, List.set_cons_zero, List.set_cons_succ]
              refine reg_take 40 58 (v := ?_) rfl rfl (by kernel_rfl) (by kernel_rfl) (by kernel_rfl) (fun _ _ _ h => h) (Or.inl ⟨by rfl, ?_⟩) hHeld ?_
              rotate_left 1
              · intro wS hSw; go_simp <;> with_reducible rfl
              simp only [put_lit, List.set_cons_zero, List.set_cons_succ]
              refine wpAnyH_done (by kernel_rfl) ?_ _
              have HB3 := Lib.hid (bel_t HB.out (bel_t HV2.out hHeld))
              go_wp2
              go_round
              case rel => exact ⟨j + 1, y, by omega, rfl, HG, by simp, Or.inr HT2.out, HB3⟩
              case measure => simp [intOf]; omega
          · have qg' : ((j : Int) != g) = false := by rw [bne, qg]; rfl
            have HG := Lib.hid (ft_no ds g h k j y HY.out (fa_head ds g h k j (by rw [qg]; rfl)))
            go_wp2_with fail
            refine reg_begin (by kernel_rfl) (fun hHeld => ?_)
            refine reg_take 0 18 (v := ?_) rfl rfl (by kernel_rfl) (by kernel_rfl) (by kernel_rfl) (fun _ _ _ h => h) (Or.inl ⟨by rfl, ?_⟩) hHeld ?_
            rotate_left 1
            · intro wS hSw; go_simp <;> with_reducible rfl
            simp only [put_lit, List.set_cons_zero, List.set_cons_succ]
            refine reg_take 1 19 (v := ?_) rfl rfl (by kernel_rfl) (by kernel_rfl) (by kernel_rfl) (fun _ _ _ h => h) (Or.inl ⟨by rfl, ?_⟩) hHeld ?_
            rotate_left 1
            · intro wS hSw; go_simp <;> with_reducible rfl
            simp only [put_lit, List.set_cons_zero, List.set_cons_succ]
            refine reg_take 2 20 (v := ?_) rfl rfl (by kernel_rfl) (by kernel_rfl) (by kernel_rfl) (fun _ _ _ h => h) (Or.inl ⟨by rfl, ?_⟩) hHeld ?_
            rotate_left 1
            · intro wS hSw; go_simp <;> with_reducible rfl
            simp only [put_lit, List.set_cons_zero, List.set_cons_succ]
            refine reg_take 3 21 (v := ?_) rfl rfl (by kernel_rfl) (by kernel_rfl) (by kernel_rfl) (fun _ _ _ h => h) (Or.inl ⟨by rfl, ?_⟩) hHeld ?_
            rotate_left 1
            · intro wS hSw; have hqS := bcellB hSw; go_simp <;> with_reducible rfl
            simp only [put_lit, List.set_cons_zero, List.set_cons_succ]
            refine wpAnyH_ready (rs := [4]) (by kernel_rfl) (by simp) ?_
            refine AllReadyH.cons rfl (fun K hK => ?_) AllReadyH.nil
            go_simp
            refine (sBlockNext _ _ _ _ ps _ (HM.out.keep (bel_t HV2.out hHeld))).mono ?_
            rw [HN.out]
            rintro e w1 ⟨rfl, hb1⟩
            go_wp2_with fail
            refine hK.out _ _ ?_ (fun hHeld => ?_)
            · exact reg_call hHeld hb1 (Nat.le_refl _)
            clear hK K
            (try simp only [put_lit, List.set_cons_zero, List.set_cons_succ])
            refine reg_take 5 23 (v := ?_) rfl rfl (by kernel_rfl) (by kernel_rfl) (by kernel_rfl) (fun _ _ _ h => h) (Or.inl ⟨by rfl, ?_⟩) hHeld ?_
            rotate_left 1
            · intro wS hSw; go_simp <;> with_reducible rfl
            simp only [put_lit, List.set_cons_zero, List.set_cons_succ]
            refine reg_take 6 24 (v := ?_) rfl rfl (by kernel_rfl) (by kernel_rfl) (by kernel_rfl) (fun _ _ _ h => h) (Or.inl ⟨by rfl, ?_⟩) hHeld ?_
            rotate_left 1
            · intro wS hSw; go_simp <;> with_reducible rfl
            simp only [put_lit, List.set_cons_zero, List.set_cons_succ]
            refine reg_take 7 25 (v := ?_) rfl rfl (by kernel_rfl) (by kernel_rfl) (by kernel_rfl) (fun _ _ _ h => h) (Or.inl ⟨by rfl, ?_⟩) hHeld ?_
            rotate_left 1
            · intro wS hSw; go_simp <;> with_reducible rfl
            simp only [put_lit, List.set_cons_zero, List.set_cons_succ]
            refine reg_take 8 26 (v := ?_) rfl rfl (by kernel_rfl) (by kernel_rfl) (by kernel_rfl) (fun _ _ _ h => h) (Or.inl ⟨by rfl, ?_⟩) hHeld ?_
            rotate_left 1
            · intro wS hSw; go_simp <;> with_reducible rfl
            simp only [put_lit, List.set_cons_zero, List.set_cons_succ]
            refine reg_take 9 27 (v := ?_) rfl rfl (by kernel_rfl) (by kernel_rfl) (by kernel_rfl) (fun _ _ _ h => h) (Or.inl ⟨by rfl, ?_⟩) hHeld ?_
            rotate_left 1
            · intro wS hSw; have hqS := bcellB hSw; go_simp <;> with_reducible rfl
            simp only [put_lit, List.set_cons_zero, List.set_cons_succ]
            refine reg_take 10 28 (v := ?_) rfl rfl (by kernel_rfl) (by kernel_rfl) (by kernel_rfl) (fun _ _ _ h => h) (Or.inl ⟨by rfl, ?_⟩) hHeld ?_
            rotate_left 1
            · intro wS hSw; go_simp <;> with_reducible rfl
            simp only [put_lit, List.set_cons_zero, List.set_cons_succ]
            refine reg_take 11 29 (v := ?_) rfl rfl (by kernel_rfl) (by kernel_rfl) (by kernel_rfl) (fun _ _ _ h => h) (Or.inl ⟨by rfl, ?_⟩) hHeld ?_
            rotate_left 1
            · intro wS hSw; go_simp <;> with_reducible rfl
            simp only [put_lit, List.set_cons_zero, List.set_cons_succ]
            refine reg_take 12 30 (v := ?_) rfl rfl (by kernel_rfl) (by kernel_rfl) (by kernel_rfl) (fun _ _ _ h => h) (Or.inl ⟨by rfl, ?_⟩) hHeld ?_
            rotate_left 1
            · intro wS hSw; go_simp <;> with_reducible rfl
            simp only [put_lit, List.set_cons_zero, List.set_cons_succ]
            refine reg_take 13 31 (v := undef) rfl rfl (by kernel_rfl) (by kernel_rfl) (by kernel_rfl) (fun _ _ _ h => h) (Or.inr ⟨by rfl, rfl⟩) hHeld ?_
            simp only [put_lit, List.set_cons_zero, List.set_cons_succ]
            refine reg_take 14 32 (v := undef) rfl rfl (by kernel_rfl) (by kernel_rfl) (by kernel_rfl) (fun _ _ _ h => h) (Or.inr ⟨by rfl, rfl⟩) hHeld ?_
            simp only [put_lit, List.set_cons_zero, List.set_cons_succ]
            refine reg_take 15 33 (v := undef) rfl rfl (by kernel_rfl) (by kernel_rfl) (by kernel_rfl) (fun _ _ _ h => h) (Or.inr ⟨by rfl, rfl⟩) hHeld ?_
            simp only [put_lit, List.set_cons_zero, List.set_cons_succ]
            refine reg_take 16 34 (v := undef) rfl rfl (by kernel_rfl) (by kernel_rfl) (by kernel_rfl) (fun _ _ _ h => h) (Or.inr ⟨by rfl, rfl⟩) hHeld ?_
            simp only [put_lit, List.set_cons_zero, List.set_cons_succ]
            refine reg_take 17 35 (v := ?_) rfl rfl (by kernel_rfl) (by kernel_rfl) (by kernel_rfl) (fun _ _ _ h => h) (Or.inl ⟨by rfl, ?_⟩) hHeld ?_
            rotate_left 1
            · intro wS hSw; go_simp <;> with_reducible rfl
            simp only [put_lit, List.set_cons_zero, List.set_cons_succ]
            refine reg_take 18 36 (v := ?_) rfl rfl (by kernel_rfl) (by kernel_rfl) (by kernel_rfl) (fun _ _ _ h => h) (Or.inl ⟨by rfl, ?_⟩) hHeld ?_
            rotate_left 1
            · intro wS hSw; go_simp <;> with_reducible rfl
            simp only [put_lit, List.set_cons_zero, List.set_cons_succ]
            refine reg_take 19 37 (v := undef) rfl rfl (by kernel_rfl) (by kernel_rfl) (by kernel_rfl) (fun _ _ _ h => h) (Or.inr ⟨by rfl, rfl⟩) hHeld ?_
            simp only [put_lit, List.set_cons_zero, List.set_cons_succ]
            refine reg_take 20 38 (v := undef) rfl rfl (by kernel_rfl) (by kernel_rfl) (by kernel_rfl) (fun _ _ _ h => h) (Or.inr ⟨by rfl, rfl⟩) hHeld ?_
            simp only [put_lit, List.set_cons_zero, List.set_cons_succ]
            refine reg_take 21 39 (v := undef) rfl rfl (by kernel_rfl) (by kernel_rfl) (by kernel_rfl) (fun _ _ _ h => h) (Or.inr ⟨by rfl, rfl⟩) hHeld ?_
            simp only [put_lit, List.set_cons_zero, List.set_cons_succ]
            refine reg_take 22 40 (v := undef) rfl rfl (by kernel_rfl) (by kernel_rfl) (by kernel_rfl) (fun _ _ _ h => h) (Or.inr ⟨by rfl, rfl⟩) hHeld ?_
            simp only [put_lit, List.set_cons_zero, List.set_cons_succ]
            refine reg_take 23 41 (v := ?_) rfl rfl (by kernel_rfl) (by kernel_rfl) (by kernel_rfl) (fun _ _ _ h => h) (Or.inl ⟨by rfl, ?_⟩) hHeld ?_
            rotate_left 1
            · intro wS hSw; go_simp <;> with_reducible rfl
            simp only [put_lit, List.set_cons_zero, List.set_cons_succ]
            refine reg_take 24 42 (v := ?_) rfl rfl (by kernel_rfl) (by kernel_rfl) (by kernel_rfl) (fun _ _ _ h => h) (Or.inl ⟨by rfl, ?_⟩) hHeld ?_
            rotate_left 1
            · intro wS hSw; go_simp <;> with_reducible rfl
            simp only [put_lit, List.set_cons_zero, List.set_cons_succ]
            refine reg_take 25 43 (v := undef) rfl rfl (by kernel_rfl) (by kernel_rfl) (by kernel_rfl) (fun _ _ _ h => h) (Or.inr ⟨by rfl, rfl⟩) hHeld ?_
            simp only [put_lit, List.set_cons_zero, List.set_cons_succ]
            refine reg_take 26 44 (v := undef) rfl rfl (by kernel_rfl) (by kernel_rfl) (by kernel_rfl) (fun _ _ _ h => h) (Or.inr ⟨by rfl, rfl⟩) hHeld ?_
            simp only [put_lit, List.set_cons_zero, List.set_cons_succ]
            refine reg_take 27 45 (v := undef) rfl rfl (by kernel_rfl) (by kernel_rfl) (by kernel_rfl) (fun _ _ _ h => h) (Or.inr ⟨by rfl, rfl⟩) hHeld ?_
            simp only [put_lit, List.set_cons_zero, List.set_cons_succ]
            refine reg_take 28 46 (v := undef) rfl rfl (by kernel_rfl) (by kernel_rfl) (by kernel_rfl) (fun _ _ _ h => h) (Or.inr ⟨by rfl, rfl⟩) hHeld ?_
            simp only [put_lit, List.set_cons_zero, List.set_cons_succ]
            refine reg_take 29 47 (v := undef) rfl rfl (by kernel_rfl) (by kernel_rfl) (by kernel_rfl) (fun _ _ _ h => h) (Or.inr ⟨by rfl, rfl⟩) hHeld ?_
            simp only [put_lit, List.set_cons_zero, List.set_cons_succ]
            refine reg_take 30 48 (v := undef) rfl rfl (by kernel_rfl) (by kernel_rfl) (by kernel_rfl) (fun _ _ _ h => h) (Or.inr ⟨by rfl, rfl⟩) hHeld ?_
            simp only [put_lit, List.set_cons_zero, List.set_cons_succ]
            refine reg_take 31 49 (v := undef) rfl rfl (by kernel_rfl) (by kernel_rfl) (by kernel_rfl) (fun _ _ _ h => h) (Or.inr ⟨by rfl, rfl⟩) hHeld ?_
            simp only [put_lit, List.set_cons_zero, List.set_cons_succ]
            refine reg_take 32 50 (v := undef) rfl rfl (by kernel_rfl) (by kernel_rfl) (by kernel_rfl) (fun _ _ _ h => h) (Or.inr ⟨by rfl, rfl⟩) hHeld ?_
            simp only [put_lit, List.set_cons_zero, List.set_cons_succ]
            refine reg_take 33 51 (v := undef) rfl rfl (by kernel_rfl) (by kernel_rfl) (by kernel_rfl) (fun _ _ _ h => h) (Or.inr ⟨by rfl, rfl⟩) hHeld ?_
            simp only [put_lit, List.set_cons_zero, List.set_cons_succ]
            refine reg_take 34 52 (v := undef) rfl rfl (by kernel_rfl) (by kernel_rfl) (by kernel_rfl) (fun _ _ _ h => h) (Or.inr ⟨by rfl, rfl⟩) hHeld ?_
            simp only [put_lit, List.set_cons_zero, List.set_cons_succ]
            refine reg_take 35 53 (v := undef) rfl rfl (by kernel_rfl) (by kernel_rfl) (by kernel_rfl) (fun _ _ _ h => h) (Or.inr ⟨by rfl, rfl⟩) hHeld ?_
            simp only [put_lit, List.set_cons_zero, List.set_cons_succ]
            refine reg_take 36 54 (v := undef) rfl rfl (by kernel_rfl) (by kernel_rfl) (by kernel_rfl) (fun _ _ _ h => h) (Or.inr ⟨by rfl, rfl⟩) hHeld ?_
            simp only [put_lit, List.set_cons_zero, List.set_cons_succ]
            refine reg_take 37 55 (v := undef) rfl rfl (by kernel_rfl) (by kernel_rfl) (by kernel_rfl) (fun _ _ _ h => h) (Or.inr ⟨by rfl, rfl⟩) hHeld ?_
            simp only [put_lit, List.set_cons_zero, List.set_cons_succ]
            refine reg_take 38 56 (v := undef) rfl rfl (by kernel_rfl) (by kernel_rfl) (by kernel_rfl) (fun _ _ _ h => h) (Or.inr ⟨by rfl, rfl⟩) hHeld ?_
            simp only [put_lit, List.set_cons_zero, List.set_cons_succ]
            refine reg_take 39 57 (v := undef) rfl rfl (by kernel_rfl) (by kernel_rfl) (by kernel_rfl) (fun _ _ _ h => h) (Or.inr ⟨by rfl, rfl⟩) hHeld ?_
            simp only [put_lit, List.set_cons_zero, List.set_cons_succ]
            refine reg_take 40 58 (v := ?_) rfl rfl (by kernel_rfl) (by kernel_rfl) (by kernel_rfl) (fun _ _ _ h => h) (Or.inl ⟨by rfl, ?_⟩) hHeld ?_
            rotate_left 1
            · intro wS hSw; go_simp <;> with_reducible rfl
            simp only [put_lit, List.set_cons_zero, List.set_cons_succ]
            refine wpAnyH_done (by kernel_rfl) ?_ _
            have HB3 := Lib.hid (bel_t HB.out (bel_t HV2.out hHeld))
            go_wp2
            go_round
            case rel => exact ⟨j + 1, y, by omega, rfl, HG, by simp, Or.inr HT2.out, HB3⟩
            case measure => simp [intOf]; omega

end Go.Proofs.Yteekikaebmkioaa
