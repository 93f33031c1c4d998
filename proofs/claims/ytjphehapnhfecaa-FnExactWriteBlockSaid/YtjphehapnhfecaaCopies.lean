/-auto What the laws' own helpers on pages and blocks return: sizes, copies, comparisons. -/
import Derived.Test.YtjphehapnhfecaaMem2
import Derived.Test.YtjphehapnhfecaaPages2
import Derived.Test.YtjphehapnhfecaaRegs2
namespace Go.Proofs.Ytjphehapnhfecaa
open Go.RowKit
set_option linter.unusedVariables false

theorem szPageS_any (A : Option Addr) (n c : Nat) (x : Int) (w : World) (h0 : 0 ≤ x) (h1 : x ≤ 1048576) (hn : n ≤ 9223372036854775807) :
    Calls Try.prog 22 #[.slice A n c, .int .i64 x] w fun e w' => e = .returned (.int .i64 (if x < n then -1 else x - n)) ∧ Below w.heap.size w w' := by
  by_cases hx : x < n
  · rw [if_pos hx]
    go_enter Try.func22, Try.ntmps22
    go_wp2
    go_ret
    exact ⟨rfl, Below.refl _ _⟩
  · rw [if_neg hx]
    go_enter Try.func22, Try.ntmps22
    go_wp2
    go_ret
    exact ⟨rfl, Below.refl _ _⟩

theorem szBlock_any (z : Int) (A : Option Addr) (n c : Nat) (x : Int) (w : World) (h0 : 0 ≤ x) (h1 : x ≤ 1048576) (hn : n ≤ 9223372036854775807) :
    Calls Try.prog 5 #[.agg #[.int .i64 z, .slice A n c], .int .i64 x] w fun e w' => e = .returned (.int .i64 (if x < n then -1 else x - n)) ∧ Below w.heap.size w w' := by
  by_cases hx : x < n
  · rw [if_pos hx]
    go_enter Try.func5, Try.ntmps5
    go_wp2_with fail
    refine (szPageS_any _ _ _ _ _ h0 h1 hn).mono ?_
    rw [if_pos hx]
    rintro e w1 ⟨rfl, hb1⟩
    go_wp2
    go_ret
    exact ⟨rfl, bel_t (bel_1 _ _) hb1⟩
  · rw [if_neg hx]
    go_enter Try.func5, Try.ntmps5
    go_wp2_with fail
    refine (szPageS_any _ _ _ _ _ h0 h1 hn).mono ?_
    rw [if_neg (by omega)]
    rintro e w1 ⟨rfl, hb1⟩
    go_wp2
    go_ret
    exact ⟨rfl, bel_t (bel_1 _ _) hb1⟩

set_option maxHeartbeats 400000 in
theorem toPageS_any (A : Option Addr) (n c : Nat) (ps : List Pg) (w : World) (h : PgsAt w A n ps) (hn : n ≤ 1048576) :
    Calls Try.prog 27 #[.slice A n c] w fun e w' => ∃ g, e = .returned (.slice (some ⟨g, 0, none⟩) n n) ∧ w.heap.size ≤ g ∧ PgRow w' g n ps ∧ Below w.heap.size w w' := by
  obtain ⟨hl, hm, hc⟩ := h
  have HC := Lib.hid hc
  have HL := Lib.hid hl
  clear hc hl
  have hmk := make_row (P := Try.prog) (t := 28) (e := 34) (size := 5) (bytes := 40) (z := .agg #[.bool false, .int .i64 0, .int .i64 0, .int .i64 0, .int .i64 0]) Try.underlying28 (by kernel_rfl) n (by omega) hm
  go_enter Try.func27, Try.ntmps27
  go_wp2
  clear hmk
  have HB0 := Lib.hid (bel_1 w (.cells (madeCells #[.bool false, .int .i64 0, .int .i64 0, .int .i64 0, .int .i64 0] (n * 5)) 34))
  have HR := Lib.hid (pgrow_made w n 34)
  generalize w.alloc (.cells (madeCells #[.bool false, .int .i64 0, .int .i64 0, .int .i64 0, .int .i64 0] (n * 5)) 34) = W at *
  go_loopw [4] (fun i wr => ∃ (k : Nat) (qs : List Pg), k ≤ n ∧ i = .int .i64 (k : Int) ∧ Hid (PgRow wr w.heap.size n qs ∧ ∀ i, i < k → pgAt qs i = pgAt ps i) ∧ Hid (Below w.heap.size w wr)) (fun i _ => n - (intOf i).toNat)
  case atStart => exact ⟨0, _, by omega, rfl, ⟨HR.out, fun i hi => absurd hi (by omega)⟩, HB0.out⟩
  case round =>
    obtain ⟨k, qs, hk, rfl, HQ, HB⟩ := hrel
    by_cases hkn : k = n
    · subst hkn
      go_wp2
      go_ret
      exact ⟨w.heap.size, rfl, Nat.le_refl _, (pgs_ext (HQ.out.1.1.trans HL.out.symm) (fun i hi => HQ.out.2 i (by rw [HQ.out.1.1] at hi; exact hi))) ▸ HQ.out.1, HB.out⟩
    · obtain ⟨b, o, rfl, hC⟩ := HC.out (by omega)
      obtain ⟨c0, c1, c2, c3, c4⟩ := (hC k (by omega)).keep (stays_below HB.out)
      clear hC
      rcases hp : pgAt ps k with ⟨f, fi, pl, va, st⟩
      rw [hp] at c0 c1 c2 c3 c4
      simp only [] at c0 c1 c2 c3 c4
      have HP := Lib.hid hp
      clear hp
      go_wp2_with fail
      refine (toPage_any _ _ _ _ _ _).mono ?_
      rintro e w1 ⟨rfl, hb1⟩
      have HR1 := Lib.hid (HQ.out.1.keep hb1)
      have HB1 := Lib.hid (bel_t HB.out hb1)
      clear hb1
      obtain ⟨e0, e1, e2, e3, e4⟩ := HR1.out.2.2.1 k (by omega)
      have hf0 := HR1.out.2.2.2 (k * 5)
      have hf1 := HR1.out.2.2.2 (k * 5 + 1)
      have hf2 := HR1.out.2.2.2 (k * 5 + 2)
      have hf3 := HR1.out.2.2.2 (k * 5 + 3)
      have hf4 := HR1.out.2.2.2 (k * 5 + 4)
      go_wp2
      go_round
      case rel =>
        rw [s5_eq]
        refine ⟨k + 1, qs.set k ⟨f, fi, pl, va, st⟩, by omega, by simp, ⟨HR1.out.set (by omega) ⟨f, fi, pl, va, st⟩, fun i hi => ?_⟩, bel_5 HB1.out (Nat.le_refl _) ⟨f, fi, pl, va, st⟩⟩
        rw [pgAt_set qs k i _ (by rw [HR1.out.1]; omega)]
        by_cases e : i = k
        · rw [if_pos e, e, HP.out]
        · rw [if_neg e]; exact HQ.out.2 i (by omega)
      case measure => simp [intOf]; omega

set_option maxHeartbeats 400000 in
theorem toBlock_any (z : Int) (A : Option Addr) (n c : Nat) (ps : List Pg) (w : World) (h : PgsAt w A n ps) (hn : n ≤ 1048576) :
    Calls Try.prog 7 #[.agg #[.int .i64 z, .slice A n c]] w fun e w' => ∃ g, e = .returned (.agg #[.int .i64 z, .slice (some ⟨g, 0, none⟩) n n]) ∧ w.heap.size ≤ g ∧ PgRow w' g n ps ∧ Below w.heap.size w w' := by
  have HP := Lib.hid h
  clear h
  go_enter Try.func7, Try.ntmps7
  go_wp2_with fail
  refine (toPageS_any _ _ _ ps _ (HP.out.keep (bel_3 _ _ _ _)) hn).mono ?_
  rintro e w1 ⟨g, rfl, hg, HR1, hb1⟩
  have HB1 := Lib.hid (bel_t (bel_3 _ _ _ _) hb1)
  have HR := Lib.hid HR1
  obtain ⟨hc1, hf1⟩ := bcell hb1
  simp at hg
  clear HR1 hb1
  go_wp2
  refine bodyPost_ret (v := .agg #[.int .i64 z, .slice (some ⟨g, 0, none⟩) n n]) (by simp [results, Try.results7, go_sem, hc1]) rfl ⟨g, rfl, by omega, ?_, ?_⟩
  · exact ((HR.out.setOther (a := ⟨_, _, none⟩) (by simp; omega) _).setOther (a := ⟨_, _, none⟩) (by simp; omega) _).setOther (a := ⟨_, _, none⟩) (by simp; omega) _
  · exact ((HB1.out.setCell (p := ⟨_, _, none⟩) (by simp <;> omega) _).setCell (p := ⟨_, _, none⟩) (by simp <;> omega) _).setCell (p := ⟨_, _, none⟩) (by simp <;> omega) _

set_option maxHeartbeats 400000 in
theorem eqPageS_refl (A : Option Addr) (n c : Nat) (A' : Option Addr) (c' : Nat) (ps : List Pg) (w : World) (h : PgsAt w A n ps) (h' : PgsAt w A' n ps) :
    Calls Try.prog 32 #[.slice A n c, .slice A' n c'] w fun e w' => e = .returned (.bool true) ∧ Below w.heap.size w w' := by
  have HP := Lib.hid h
  have HP' := Lib.hid h'
  have hm := h.2.1
  clear h h'
  go_enter Try.func32, Try.ntmps32
  go_wp2
  go_loopw [5] (fun i wr => ∃ k : Nat, k ≤ n ∧ i = .int .i64 (k : Int) ∧ Hid (Below w.heap.size w wr)) (fun i _ => n - (intOf i).toNat)
  case atStart => exact ⟨0, by omega, rfl, Below.refl _ _⟩
  case round =>
    obtain ⟨k, hk, rfl, HB⟩ := hrel
    by_cases hkn : k = n
    · subst hkn
      go_wp2
      go_ret
      exact ⟨rfl, HB.out⟩
    · obtain ⟨b, o, rfl, hC⟩ := HP.out.2.2 (by omega)
      obtain ⟨b', o', rfl, hC'⟩ := HP'.out.2.2 (by omega)
      obtain ⟨c0, c1, c2, c3, c4⟩ := (hC k (by omega)).keep (stays_below HB.out)
      obtain ⟨d0, d1, d2, d3, d4⟩ := (hC' k (by omega)).keep (stays_below HB.out)
      have hbz : b < wr.heap.size := block_lt_of_cell c0
      have hbz' : b' < wr.heap.size := block_lt_of_cell d0
      rcases hp : pgAt ps k with ⟨f, fi, pl, va, st⟩
      rw [hp] at c0 c1 c2 c3 c4 d0 d1 d2 d3 d4
      simp only [] at c0 c1 c2 c3 c4 d0 d1 d2 d3 d4
      have HE := Lib.hid (pgEq_refl ⟨f, fi, pl, va, st⟩)
      clear hC hC' hp
      go_wp2_with fail
      refine reg_begin (by kernel_rfl) (fun hHeld => ?_)
      refine reg_take 0 17 (v := ?_) rfl rfl (by kernel_rfl) (by kernel_rfl) (by kernel_rfl) (fun _ _ _ h => h) (Or.inl ⟨by rfl, ?_⟩) hHeld ?_
      rotate_left 1
      · intro wS hSw; go_simp <;> with_reducible rfl
      simp only [put_lit, List.set_cons_zero, List.set_cons_succ]
      refine reg_take 1 18 (v := ?_) rfl rfl (by kernel_rfl) (by kernel_rfl) (by kernel_rfl) (fun _ _ _ h => h) (Or.inl ⟨by rfl, ?_⟩) hHeld ?_
      rotate_left 1
      · intro wS hSw; go_simp <;> with_reducible rfl
      simp only [put_lit, List.set_cons_zero, List.set_cons_succ]
      refine reg_take 2 19 (v := ?_) rfl rfl (by kernel_rfl) (by kernel_rfl) (by kernel_rfl) (fun _ _ _ h => h) (Or.inl ⟨by rfl, ?_⟩) hHeld ?_
      rotate_left 1
      · intro wS hSw; go_simp <;> with_reducible rfl
      simp only [put_lit, List.set_cons_zero, List.set_cons_succ]
      refine reg_take 3 20 (v := ?_) rfl rfl (by kernel_rfl) (by kernel_rfl) (by kernel_rfl) (fun _ _ _ h => h) (Or.inl ⟨by rfl, ?_⟩) hHeld ?_
      rotate_left 1
      · intro wS hSw; have hqS := bcellB hSw; go_simp <;> with_reducible rfl
      simp only [put_lit, List.set_cons_zero, List.set_cons_succ]
      refine reg_take 4 21 (v := ?_) rfl rfl (by kernel_rfl) (by kernel_rfl) (by kernel_rfl) (fun _ _ _ h => h) (Or.inl ⟨by rfl, ?_⟩) hHeld ?_
      rotate_left 1
      · intro wS hSw; go_simp <;> with_reducible rfl
      simp only [put_lit, List.set_cons_zero, List.set_cons_succ]
      refine reg_take 5 22 (v := ?_) rfl rfl (by kernel_rfl) (by kernel_rfl) (by kernel_rfl) (fun _ _ _ h => h) (Or.inl ⟨by rfl, ?_⟩) hHeld ?_
      rotate_left 1
      · intro wS hSw; go_simp <;> with_reducible rfl
      simp only [put_lit, List.set_cons_zero, List.set_cons_succ]
      refine reg_take 6 23 (v := ?_) rfl rfl (by kernel_rfl) (by kernel_rfl) (by kernel_rfl) (fun _ _ _ h => h) (Or.inl ⟨by rfl, ?_⟩) hHeld ?_
      rotate_left 1
      · intro wS hSw; go_simp <;> with_reducible rfl
      simp only [put_lit, List.set_cons_zero, List.set_cons_succ]
      refine reg_take 7 24 (v := ?_) rfl rfl (by kernel_rfl) (by kernel_rfl) (by kernel_rfl) (fun _ _ _ h => h) (Or.inl ⟨by rfl, ?_⟩) hHeld ?_
      rotate_left 1
      · intro wS hSw; have hqS := bcellB hSw; go_simp <;> with_reducible rfl
      simp only [put_lit, List.set_cons_zero, List.set_cons_succ]
      refine wpAnyH_ready (rs := [8]) (by kernel_rfl) (by simp) ?_
      refine AllReadyH.cons rfl (fun K hK => ?_) AllReadyH.nil
      go_simp
      refine (eqPage_any _ _ _ _ _ _ _ _ _ _ _).mono ?_
      rw [HE.out]
      rintro e w1 ⟨rfl, hb1⟩
      go_wp2_with fail
      refine hK.out _ _ ?_ (fun hHeld => ?_)
      · exact reg_call hHeld hb1 (Nat.le_refl _)
      clear hK K
      (try simp only [put_lit, List.set_cons_zero, List.set_cons_succ])
      refine reg_take 9 26 (v := ?_) rfl rfl (by kernel_rfl) (by kernel_rfl) (by kernel_rfl) (fun _ _ _ h => h) (Or.inl ⟨by rfl, ?_⟩) hHeld ?_
      rotate_left 1
      · intro wS hSw; go_simp <;> with_reducible rfl
      simp only [put_lit, List.set_cons_zero, List.set_cons_succ]
      refine wpAnyH_done (by kernel_rfl) ?_ _
      go_wp2
      go_round
      case rel => exact ⟨k + 1, by omega, by simp, (bel_t HB.out hHeld : Below _ _ _)⟩
      case measure => simp [intOf]; omega

set_option maxHeartbeats 400000 in
theorem eqBlock_refl (z : Int) (A : Option Addr) (n c : Nat) (A' : Option Addr) (c' : Nat) (ps : List Pg) (w : World) (h : PgsAt w A n ps) (h' : PgsAt w A' n ps) :
    Calls Try.prog 10 #[.agg #[.int .i64 z, .slice A n c], .agg #[.int .i64 z, .slice A' n c']] w fun e w' => e = .returned (.bool true) ∧ Below w.heap.size w w' := by
  have HP := Lib.hid h
  have HP' := Lib.hid h'
  clear h h'
  go_enter Try.func10, Try.ntmps10
  go_wp2_with fail
  refine (eqPageS_refl _ _ _ _ _ ps _ (HP.out.keep (bel_2 _ _ _)) (HP'.out.keep (bel_2 _ _ _))).mono ?_
  rintro e w1 ⟨rfl, hb1⟩
  go_wp2
  go_ret
  exact ⟨rfl, bel_t (bel_2 _ _ _) hb1⟩

end Go.Proofs.Ytjphehapnhfecaa
