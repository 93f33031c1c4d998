/-auto What the laws' own helpers on devices return: sizes, copies, comparisons. -/
import Derived.Test.YtjphehapnhfecaaMem3
import Derived.Test.YtjphehapnhfecaaCopies
namespace Go.Proofs.Ytjphehapnhfecaa
open Go.RowKit
set_option linter.unusedVariables false

set_option maxHeartbeats 400000 in
theorem szBlockS_any (A : Option Addr) (n c : Nat) (ds : List Bl) (x : Int) (w : World) (h : DevAt w A n ds) (h0 : 0 ≤ x) (h1 : x ≤ 1048576) :
    Calls Try.prog 13 #[.slice A n c, .int .i64 x] w fun e w' => ∃ r : Int, e = .returned (.int .i64 r) ∧ (r < 0 ∨ (n ≤ 1048576 ∧ ∀ i, i < n → (blAt ds i).pages.length ≤ 1048576)) ∧ Below w.heap.size w w' := by
  have HP := Lib.hid h
  have hm := h.2.1
  clear h
  by_cases hx : x < n
  · go_enter Try.func13, Try.ntmps13
    go_wp2
    go_ret
    exact ⟨-1, rfl, Or.inl (by decide), Below.refl _ _⟩
  · have hv : ¬ (x - (n : Int) < 0) := by omega
    go_enter Try.func13, Try.ntmps13
    go_wp2
    go_loopw [1, 5] (fun l i wr => ∃ (k : Nat) (y : Int), k ≤ n ∧ l = .int .i64 y ∧ 0 ≤ y ∧ y ≤ 1048576 ∧ i = .int .i64 (k : Int) ∧ Hid (∀ i, i < k → (blAt ds i).pages.length ≤ 1048576) ∧ Hid (Below w.heap.size w wr)) (fun _ i _ => n - (intOf i).toNat)
    case atStart => exact ⟨0, x - n, by omega, rfl, by omega, by omega, rfl, (fun i hi => absurd hi (by omega)), Below.refl _ _⟩
    case round =>
      obtain ⟨k, y, hk, rfl, hy0, hy1, rfl, HS, HB⟩ := hrel
      by_cases hkn : k = n
      · subst hkn
        go_wp2
        go_ret
        exact ⟨y, rfl, Or.inr ⟨by omega, HS.out⟩, HB.out⟩
      · obtain ⟨b, o, rfl, hC⟩ := HP.out.2.2 (by omega)
        obtain ⟨A', m, c', c0, c1, hps⟩ := (hC k (by omega)).keepS (stays_below HB.out)
        have hmm := hps.2.1
        have HM := Lib.hid hps.1
        clear hC hps
        by_cases hym : y < m
        · go_wp2_with fail
          refine (szBlock_any _ _ _ _ _ _ hy0 hy1 hmm).mono ?_
          rw [if_pos hym]
          rintro e w1 ⟨rfl, hb1⟩
          go_wp2
          go_ret
          exact ⟨-1, rfl, Or.inl (by decide), bel_t HB.out hb1⟩
        · go_wp2_with fail
          refine (szBlock_any _ _ _ _ _ _ hy0 hy1 hmm).mono ?_
          rw [if_neg (by omega)]
          rintro e w1 ⟨rfl, hb1⟩
          have hv1 : ¬ (y - (m : Int) < 0) := by omega
          have HB1 := Lib.hid (bel_t HB.out hb1)
          clear hb1
          go_wp2
          go_round
          case rel =>
            refine ⟨k + 1, y - m, by omega, rfl, by omega, by omega, by simp, (fun i hi => ?_), HB1⟩
            by_cases e : i = k
            · rw [e, HM.out]; omega
            · exact HS.out i (by omega)
          case measure => simp [intOf]; omega

set_option maxHeartbeats 400000 in
theorem toBlockS_any (A : Option Addr) (n c : Nat) (ds : List Bl) (w : World) (h : DevAt w A n ds) (hn : n ≤ 1048576) (hp : ∀ i, i < n → (blAt ds i).pages.length ≤ 1048576) :
    Calls Try.prog 15 #[.slice A n c] w fun e w' => ∃ g G, e = .returned (.slice (some ⟨g, 0, none⟩) n n) ∧ DvRow w' w.heap.size g n n G ds ∧ Below w.heap.size w w' := by
  have HP := Lib.hid h
  have HS := Lib.hid hp
  have hm := h.2.1
  have HL := Lib.hid h.1
  clear h hp
  have hmk := make_row (P := Try.prog) (t := 43) (e := 30) (size := 2) (bytes := 32) (z := .agg #[.int .i64 0, .slice none 0 0]) Try.underlying43 (by kernel_rfl) n (by omega) hm
  go_enter Try.func15, Try.ntmps15
  go_wp2
  clear hmk
  have HB0 := Lib.hid (bel_1 w (.cells (madeCells #[.int .i64 0, .slice none 0 0] (n * 2)) 30))
  have HR := Lib.hid (dvrow_made w n 30 ds HL.out (fun _ => 0))
  generalize w.alloc (.cells (madeCells #[.int .i64 0, .slice none 0 0] (n * 2)) 30) = W at *
  go_loopw [4] (fun i wr => ∃ (k : Nat) (G : Nat → Nat), k ≤ n ∧ i = .int .i64 (k : Int) ∧ Hid (DvRow wr w.heap.size w.heap.size n k G ds) ∧ Hid (Below w.heap.size w wr)) (fun i _ => n - (intOf i).toNat)
  case atStart => exact ⟨0, _, by omega, rfl, HR.out, HB0.out⟩
  case round =>
    obtain ⟨k, G, hk, rfl, HQ, HB⟩ := hrel
    by_cases hkn : k = n
    · subst hkn
      go_wp2
      go_ret
      exact ⟨w.heap.size, G, rfl, HQ.out, HB.out⟩
    · obtain ⟨b, o, rfl, hC⟩ := HP.out.2.2 (by omega)
      obtain ⟨A', m, c', c0, c1, hps⟩ := (hC k (by omega)).keepS (stays_below HB.out)
      have hmm := hps.2.1
      have hm20 : m ≤ 1048576 := by rw [← hps.1]; exact HS.out k (by omega)
      have HM := Lib.hid hps
      clear hC hps
      rcases hp : blAt ds k with ⟨z, ps⟩
      rw [hp] at c0 HM
      simp only [] at c0 HM
      have HE := Lib.hid hp
      clear hp
      go_wp2_with fail
      refine (toBlock_any _ _ _ _ ps _ HM.out hm20).mono ?_
      rintro e w1 ⟨g1, rfl, hg1, hR1, hb1⟩
      have HB1 := Lib.hid (bel_t HB.out hb1)
      have HD1 := Lib.hid (HQ.out.keep hb1)
      have HR1 := Lib.hid hR1
      clear hb1 hR1
      obtain ⟨v0, v1, e0, e1⟩ := HD1.out.2.2.2.2.1 k (by omega)
      have hf0 := HD1.out.2.2.2.1 (k * 2)
      have hf1 := HD1.out.2.2.2.1 (k * 2 + 1)
      go_wp2
      go_round
      case rel =>
        rw [s2_eq]
        have hq := HD1.out.set (k' := k + 1) (p := k) (q := g1) (m := m) (c := m) (A := some ⟨g1, 0, none⟩) (by omega) (fun i hi => by omega) ⟨z, ps⟩ hmm (Or.inr ⟨rfl, HR1.out⟩) (Nat.le_trans HB.out.size hg1) HR1.out.2.1 (by have := HQ.out.2.2.1; omega) (fun j hj hjk => by have := (HQ.out.2.2.2.2.2 j hj).2.1; omega)
        rw [← HE.out, bls_set_self ds k (by rw [HL.out]; omega)] at hq
        rw [HE.out] at hq
        exact ⟨k + 1, _, by omega, by simp, hq, (bel_2s HB1.out (Nat.le_refl _) _ _ _ _ : Below _ _ _)⟩
      case measure => simp [intOf]; omega

set_option maxHeartbeats 400000 in
theorem eqBlockS_refl (A : Option Addr) (n c : Nat) (A' : Option Addr) (c' : Nat) (ds : List Bl) (w : World) (h : DevAt w A n ds) (h' : DevAt w A' n ds) :
    Calls Try.prog 18 #[.slice A n c, .slice A' n c'] w fun e w' => e = .returned (.bool true) ∧ Below w.heap.size w w' := by
  have HP := Lib.hid h
  have HP' := Lib.hid h'
  have hm := h.2.1
  clear h h'
  go_enter Try.func18, Try.ntmps18
  go_wp2
  go_loopw [5] (fun i wr => ∃ k : Nat, k ≤ n ∧ i = .int .i64 (k : Int) ∧ Hid (Below w.heap.size w wr)) (fun i _ => n - (intOf i).toNat)
  case atStart => exact ⟨0, by omega, rfl, Below.refl _ _⟩
  case round =>
    obtain ⟨k, hk, rfl, HB⟩ := hrel
    by_cases hkn : k = n
    · subst hkn
      go_wp2
      go_ret
      exact ⟨rfl, HB.out⟩
    · obtain ⟨b, o, rfl, hC⟩ := HP.out.2.2 (by omega)
      obtain ⟨b', o', rfl, hC'⟩ := HP'.out.2.2 (by omega)
      obtain ⟨A1, m1, c1', c0, c1, hp1⟩ := (hC k (by omega)).keepS (stays_below HB.out)
      obtain ⟨A2, m2, c2', d0, d1, hp2⟩ := (hC' k (by omega)).keepS (stays_below HB.out)
      obtain rfl : m1 = m2 := hp1.1.symm.trans hp2.1
      have hbz : b < wr.heap.size := block_lt_of_cell c0
      have hbz' : b' < wr.heap.size := block_lt_of_cell d0
      have HQ1 := Lib.hid hp1
      have HQ2 := Lib.hid hp2
      clear hC hC' hp1 hp2
      go_wp2_with fail
      refine reg_begin (by kernel_rfl) (fun hHeld => ?_)
      refine reg_take 0 17 (v := ?_) rfl rfl (by kernel_rfl) (by kernel_rfl) (by kernel_rfl) (fun _ _ _ h => h) (Or.inl ⟨by rfl, ?_⟩) hHeld ?_
      rotate_left 1
      · intro wS hSw; go_simp <;> with_reducible rfl
      simp only [put_lit, List.set_cons_zero, List.set_cons_succ]
      refine reg_take 1 18 (v := ?_) rfl rfl (by kernel_rfl) (by kernel_rfl) (by kernel_rfl) (fun _ _ _ h => h) (Or.inl ⟨by rfl, ?_⟩) hHeld ?_
      rotate_left 1
      · intro wS hSw; go_simp <;> with_reducible rfl
      simp only [put_lit, List.set_cons_zero, List.set_cons_succ]
      refine reg_take 2 19 (v := ?_) rfl rfl (by kernel_rfl) (by kernel_rfl) (by kernel_rfl) (fun _ _ _ h => h) (Or.inl ⟨by rfl, ?_⟩) hHeld ?_
      rotate_left 1
      · intro wS hSw; go_simp <;> with_reducible rfl
      simp only [put_lit, List.set_cons_zero, List.set_cons_succ]
      refine reg_take 3 20 (v := ?_) rfl rfl (by kernel_rfl) (by kernel_rfl) (by kernel_rfl) (fun _ _ _ h => h) (Or.inl ⟨by rfl, ?_⟩) hHeld ?_
      rotate_left 1
      · intro wS hSw; have hqS := bcellB hSw; go_simp <;> with_reducible rfl
      simp only [put_lit, List.set_cons_zero, List.set_cons_succ]
      refine reg_take 4 21 (v := ?_) rfl rfl (by kernel_rfl) (by kernel_rfl) (by kernel_rfl) (fun _ _ _ h => h) (Or.inl ⟨by rfl, ?_⟩) hHeld ?_
      rotate_left 1
      · intro wS hSw; go_simp <;> with_reducible rfl
      simp only [put_lit, List.set_cons_zero, List.set_cons_succ]
      refine reg_take 5 22 (v := ?_) rfl rfl (by kernel_rfl) (by kernel_rfl) (by kernel_rfl) (fun _ _ _ h => h) (Or.inl ⟨by rfl, ?_⟩) hHeld ?_
      rotate_left 1
      · intro wS hSw; go_simp <;> with_reducible rfl
      simp only [put_lit, List.set_cons_zero, List.set_cons_succ]
      refine reg_take 6 23 (v := ?_) rfl rfl (by kernel_rfl) (by kernel_rfl) (by kernel_rfl) (fun _ _ _ h => h) (Or.inl ⟨by rfl, ?_⟩) hHeld ?_
      rotate_left 1
      · intro wS hSw; go_simp <;> with_reducible rfl
      simp only [put_lit, List.set_cons_zero, List.set_cons_succ]
      refine reg_take 7 24 (v := ?_) rfl rfl (by kernel_rfl) (by kernel_rfl) (by kernel_rfl) (fun _ _ _ h => h) (Or.inl ⟨by rfl, ?_⟩) hHeld ?_
      rotate_left 1
      · intro wS hSw; have hqS := bcellB hSw; go_simp <;> with_reducible rfl
      simp only [put_lit, List.set_cons_zero, List.set_cons_succ]
      refine wpAnyH_ready (rs := [8]) (by kernel_rfl) (by simp) ?_
      refine AllReadyH.cons rfl (fun K hK => ?_) AllReadyH.nil
      go_simp
      refine (eqBlock_refl _ _ _ _ _ _ (blAt ds k).pages _ (HQ1.out.keep hHeld) (HQ2.out.keep hHeld)).mono ?_
      rintro e w1 ⟨rfl, hb1⟩
      go_wp2_with fail
      refine hK.out _ _ ?_ (fun hHeld => ?_)
      · exact reg_call hHeld hb1 (Nat.le_refl _)
      clear hK K
      (try simp only [put_lit, List.set_cons_zero, List.set_cons_succ])
      refine reg_take 9 26 (v := ?_) rfl rfl (by kernel_rfl) (by kernel_rfl) (by kernel_rfl) (fun _ _ _ h => h) (Or.inl ⟨by rfl, ?_⟩) hHeld ?_
      rotate_left 1
      · intro wS hSw; go_simp <;> with_reducible rfl
      simp only [put_lit, List.set_cons_zero, List.set_cons_succ]
      refine wpAnyH_done (by kernel_rfl) ?_ _
      go_wp2
      go_round
      case rel => exact ⟨k + 1, by omega, by simp, (bel_t HB.out hHeld : Below _ _ _)⟩
      case measure => simp [intOf]; omega

end Go.Proofs.Ytjphehapnhfecaa
