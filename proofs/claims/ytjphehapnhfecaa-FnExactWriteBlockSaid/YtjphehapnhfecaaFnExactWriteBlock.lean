/- The law FnExactWriteBlock: for every block and page the program's WriteBlock returns what the reference's returns, and keeps nothing of it, so the law returns true. No conditions. -/
import Derived.Test.YtjphehapnhfecaaRows
import Derived.Test.YtjphehapnhfecaaTypes
import Derived.Test.YtjphehapnhfecaaMarks
import Derived.Test.YtjphehapnhfecaaPutPage
import Derived.Deep.DeepCutAuto
import Derived.Deep.DrawnRows
namespace Go.Proofs.Ytjphehapnhfecaa
open Go.RowKit
set_option linter.unusedVariables false
attribute [local go_sem ↓] Go.wp_at_zero Go.wp_at_succ

/-- a block in a box of its own -/
def CutB (W wx : World) (g : Nat) (A : Option Addr) (n c q : Nat) (wb : Bl) : Prop := W.heap.size ≤ g ∧ g < wx.heap.size ∧ wx.cell? ⟨g, 0, none⟩ = some (.int .i64 wb.wear) ∧ wx.cell? ⟨g, 1, none⟩ = some (.slice A n c) ∧ n ≤ 9223372036854775807 ∧ Sl wx A n q wb.pages ∧ W.heap.size ≤ q ∧ q ≠ g ∧ (q < wx.heap.size ∨ n = 0) ∧ Below W.heap.size W wx
/-- .. whose pages lie in old memory, or nowhere -/
def CutB0 (W wx : World) (g : Nat) (A : Option Addr) (n c q : Nat) (wb : Bl) : Prop := W.heap.size ≤ g ∧ g < wx.heap.size ∧ wx.cell? ⟨g, 0, none⟩ = some (.int .i64 wb.wear) ∧ wx.cell? ⟨g, 1, none⟩ = some (.slice A n c) ∧ n ≤ 9223372036854775807 ∧ Sl wx A n q wb.pages ∧ q ≠ g ∧ (q < wx.heap.size ∨ q = 0) ∧ Below W.heap.size W wx
theorem bel_p {w w' : World} (h : Below w.heap.size w w') : Below w.heap.size w w' := h
theorem wb_len (b : Bl) (p : Pg) : (writeBlockF b p).1.pages.length ≤ 4 := by
  cases h1 : blockValidF b
  · rw [wb_1 b p h1]; exact Nat.zero_le _
  · cases h2 : pageValidF p
    · rw [wb_2 b p h2]; exact Nat.zero_le _
    · cases h3 : p.full
      · rw [wb_3 b p h3]; exact Nat.zero_le _
      · exact Nat.le_of_eq (wb_all b p h1 h2 h3).1

set_option maxRecDepth 100000 in
set_option maxHeartbeats 16000000 in
theorem walk_FnExactWriteBlock (x : Ba) (y : Pg) (w : World) (hx : PgsAt w x.A x.n x.ps) :
    Calls Try.prog 3 #[x.val, y.val] w fun e w' => e = .returned (.bool true) ∧ Below w.heap.size w w' := by
  obtain ⟨z, A, n, c, ps⟩ := x
  obtain ⟨f, fi, pl, va, st⟩ := y
  simp only [Ba.val, Pg.val] at *
  have HP := Lib.hid hx
  have hm := hx.2.1
  clear hx
  obtain ⟨⟨wb, nx⟩, HWB⟩ : ∃ r, Hid (writeBlockF ⟨z, ps⟩ ⟨f, fi, pl, va, st⟩ = r) := ⟨_, rfl⟩
  have hlen : wb.pages.length ≤ 4 := by have := wb_len ⟨z, ps⟩ ⟨f, fi, pl, va, st⟩; rw [HWB.out] at this; exact this
  have HB0 := Lib.hid (bel_2 w (.cells #[.int .i64 z, .slice A n c] 24) (.cells #[.bool f, .int .i64 fi, .int .i64 pl, .int .i64 va, .int .i64 st] 26))
  have B0 : Hid (((w.alloc (.cells #[.int .i64 z, .slice A n c] 24)).alloc (.cells #[.bool f, .int .i64 fi, .int .i64 pl, .int .i64 va, .int .i64 st] 26)).cell? ⟨w.heap.size, 0, none⟩ = some (.int .i64 z)) := Lib.hid (by simp [go_sem])
  have B1 : Hid (((w.alloc (.cells #[.int .i64 z, .slice A n c] 24)).alloc (.cells #[.bool f, .int .i64 fi, .int .i64 pl, .int .i64 va, .int .i64 st] 26)).cell? ⟨w.heap.size, 1, none⟩ = some (.slice A n c)) := Lib.hid (by simp [go_sem])
  have P0 : Hid (((w.alloc (.cells #[.int .i64 z, .slice A n c] 24)).alloc (.cells #[.bool f, .int .i64 fi, .int .i64 pl, .int .i64 va, .int .i64 st] 26)).cell? ⟨w.heap.size + 1, 0, none⟩ = some (.bool f)) := Lib.hid (by simp [go_sem])
  have P1 : Hid (((w.alloc (.cells #[.int .i64 z, .slice A n c] 24)).alloc (.cells #[.bool f, .int .i64 fi, .int .i64 pl, .int .i64 va, .int .i64 st] 26)).cell? ⟨w.heap.size + 1, 1, none⟩ = some (.int .i64 fi)) := Lib.hid (by simp [go_sem])
  have P2 : Hid (((w.alloc (.cells #[.int .i64 z, .slice A n c] 24)).alloc (.cells #[.bool f, .int .i64 fi, .int .i64 pl, .int .i64 va, .int .i64 st] 26)).cell? ⟨w.heap.size + 1, 2, none⟩ = some (.int .i64 pl)) := Lib.hid (by simp [go_sem])
  have P3 : Hid (((w.alloc (.cells #[.int .i64 z, .slice A n c] 24)).alloc (.cells #[.bool f, .int .i64 fi, .int .i64 pl, .int .i64 va, .int .i64 st] 26)).cell? ⟨w.heap.size + 1, 3, none⟩ = some (.int .i64 va)) := Lib.hid (by simp [go_sem])
  have P4 : Hid (((w.alloc (.cells #[.int .i64 z, .slice A n c] 24)).alloc (.cells #[.bool f, .int .i64 fi, .int .i64 pl, .int .i64 va, .int .i64 st] 26)).cell? ⟨w.heap.size + 1, 4, none⟩ = some (.int .i64 st)) := Lib.hid (by simp [go_sem])
  by_cases hn : 1048576 < n
  · go_enter Try.func3, Try.ntmps3
    go_wp2_with fail
    refine (szBlock_any _ _ _ _ _ _ (by omega) (by omega) hm).mono ?_
    rw [if_pos (by omega)]
    rintro e w1 ⟨rfl, hb1⟩
    go_wp2
    go_ret
    exact ⟨rfl, bel_t HB0.out hb1⟩
  · go_enter Try.func3, Try.ntmps3
    go_wp2_with fail
    refine (szBlock_any _ _ _ _ _ _ (by omega) (by omega) hm).mono ?_
    generalize ((w.alloc (.cells #[.int .i64 z, .slice A n c] 24)).alloc (.cells #[.bool f, .int .i64 fi, .int .i64 pl, .int .i64 va, .int .i64 st] 26)) = W at *
    rw [if_neg (by omega)]
    rintro e w1 ⟨rfl, hb1⟩
    have hv1 : ¬ (1048576 - (n : Int) < 0) := by omega
    have HB1 := Lib.hid (bel_t HB0.out hb1)
    have b0 := stays_below hb1 _ _ _ B0.out
    have b1 := stays_below hb1 _ _ _ B1.out
    have p0 := stays_below hb1 _ _ _ P0.out
    have p1 := stays_below hb1 _ _ _ P1.out
    have p2 := stays_below hb1 _ _ _ P2.out
    have p3 := stays_below hb1 _ _ _ P3.out
    have p4 := stays_below hb1 _ _ _ P4.out
    clear hb1 HB0 B0 B1 P0 P1 P2 P3 P4
    have hs1 : w.heap.size + 1 < w1.heap.size := block_lt_of_cell p0
    have zb_1 : w.heap.size < w1.heap.size := block_lt_of_cell b0
    have zp_1 : w.heap.size + 1 < w1.heap.size := block_lt_of_cell p0
    go_upto_region 5 with fail
    go_cut [6, 7] (fun x6 x7 wx => ∃ (g : Nat) (A' : Option Addr) (n' c' q : Nat), x6 = .pointer (some ⟨g, 0, none⟩) ∧ x7 = .int .i64 nx ∧ CutB0 w1 wx g A' n' c' q wb)
    case first =>
      refine reg_begin (by kernel_rfl) (fun hHeld => ?_)
      refine reg_take 0 22 (v := ?_) rfl rfl (by kernel_rfl) (by kernel_rfl) (by kernel_rfl) (fun _ _ _ h => h) (Or.inl ⟨by rfl, ?_⟩) hHeld ?_
      rotate_left 1
      · intro wS hSw; have hqS := bcellB hSw; go_simp <;> with_reducible rfl
      simp only [put_lit, List.set_cons_zero, List.set_cons_succ]
      refine reg_take 2 24 (v := ?_) rfl rfl (by kernel_rfl) (by kernel_rfl) (by kernel_rfl) (fun _ _ _ h => h) (Or.inl ⟨by rfl, ?_⟩) hHeld ?_
      rotate_left 1
      · intro wS hSw; have hqS := bcellB hSw; go_simp <;> with_reducible rfl
      simp only [put_lit, List.set_cons_zero, List.set_cons_succ]
      refine wpAnyH_ready (rs := [1, 8]) (by kernel_rfl) (by simp) ?_
      refine AllReadyH.cons rfl (fun K hK => ?_) ?_
      · skip
        go_simp
        refine (toBlock_any _ _ _ _ ps _ (HP.out.keep (bel_t HB1.out hHeld)) (by omega)).mono ?_
        rintro e wa1 ⟨g4, rfl, hg4, hR4, hba1⟩
        have hna1 : w1.heap.size ≤ wa1.heap.size := Nat.le_trans hHeld.size hba1.size
        have HQB := Lib.hid hR4
        clear hR4
        go_wp2_with fail
        refine hK.out _ _ ?_ (fun hHeld => ?_)
        · exact reg_call hHeld hba1 (Nat.le_refl _)
        clear hK K
        (try simp only [put_lit, List.set_cons_zero, List.set_cons_succ])
        refine wpAnyH_ready (rs := [3, 8]) (by kernel_rfl) (by simp) ?_
        refine AllReadyH.cons rfl (fun K hK => ?_) ?_
        · skip
          go_simp
          refine (toPage_any _ _ _ _ _ _).mono ?_
          rintro e wa2 ⟨rfl, hba2⟩
          have hna2 : w1.heap.size ≤ wa2.heap.size := Nat.le_trans hHeld.size hba2.size
          have HQB : Hid (PgRow wa2 g4 n ps) := Lib.hid (by first | exact HQB.out.keep hba2 | exact (HQB.out.keep (bel_1 _ _)).keep hba2)
          go_wp2_with fail
          refine hK.out _ _ ?_ (fun hHeld => ?_)
          · exact reg_call hHeld hba2 (Nat.le_refl _)
          clear hK K
          (try simp only [put_lit, List.set_cons_zero, List.set_cons_succ])
          refine wpAnyH_ready (rs := [4, 8]) (by kernel_rfl) (by simp) ?_
          refine AllReadyH.cons rfl (fun K hK => ?_) ?_
          · skip
            go_simp
            refine (sWriteBlock _ _ _ _ ps _ _ _ _ _ _ (by first | exact HQB.out.at hm | exact (HQB.out.at hm).keep (bel_1 _ _))).mono ?_
            rw [HWB.out]
            simp only []
            rintro e wa3 ⟨v5, rfl, ⟨A5, n5, c5, q5, rfl, hn5, hq5, hS5⟩, hba3⟩
            have hna3 : w1.heap.size ≤ wa3.heap.size := Nat.le_trans hHeld.size hba3.size
            have hqW : w1.heap.size ≤ q5 := Nat.le_trans hHeld.size hq5
            (try simp at hq5)
            obtain ⟨q6, hq6, hT6⟩ := hS5.norm 0
            obtain ⟨wE, hwE⟩ : ∃ x, x = wa3.heap.size := ⟨_, rfl⟩
            have hq7 : q6 < wE ∨ n5 = 0 ∧ q6 = 0 := by omega
            have HS6 := Lib.hid hT6
            have hza3 : wa3.heap.size = wa3.heap.size := rfl
            clear hS5 hT6
            go_wp2_with fail
            refine hK.out _ _ ?_ (fun hHeld => ?_)
            · exact reg_call hHeld hba3 (Nat.le_refl _)
            clear hK K
            (try simp only [put_lit, List.set_cons_zero, List.set_cons_succ])
            refine reg_take 5 21 (v := ?_) rfl rfl (by kernel_rfl) (by kernel_rfl) (by kernel_rfl) (fun _ _ _ h => h) (Or.inl ⟨by rfl, ?_⟩) hHeld ?_
            rotate_left 1
            · intro wS hSw; go_simp <;> with_reducible rfl
            simp only [put_lit, List.set_cons_zero, List.set_cons_succ]
            refine reg_take 6 27 (v := ?_) rfl rfl (by kernel_rfl) (by kernel_rfl) (by kernel_rfl) (fun _ _ _ h => h) (Or.inl ⟨by rfl, ?_⟩) hHeld ?_
            rotate_left 1
            · intro wS hSw; go_simp <;> with_reducible rfl
            simp only [put_lit, List.set_cons_zero, List.set_cons_succ]
            refine reg_take 7 28 (v := ?_) rfl rfl (by kernel_rfl) (by kernel_rfl) (by kernel_rfl) (fun _ _ _ h => h) (Or.inl ⟨by rfl, ?_⟩) hHeld ?_
            rotate_left 1
            · intro wS hSw; go_simp <;> with_reducible rfl
            simp only [put_lit, List.set_cons_zero, List.set_cons_succ]
            refine wpAnyH_ready (rs := [8]) (by kernel_rfl) (by simp) ?_
            refine AllReadyH.cons rfl (fun K hK => ?_) AllReadyH.nil
            go_simp
            refine hK.out _ _ ?_ (fun hHeld => ?_)
            · exact reg_alloc hHeld (Nat.le_refl _) _
            clear hK K
            (try simp only [put_lit, List.set_cons_zero, List.set_cons_succ])
            refine wpAnyH_ready (rs := [9]) (by kernel_rfl) (by simp) ?_
            refine AllReadyH.cons rfl (fun K hK => ?_) AllReadyH.nil
            go_simp
            refine hK.out _ _ ?_ (fun hHeld => ?_)
            · first | exact reg_swap hHeld (by first | with_reducible assumption | exact Nat.le_refl _ | (simp; done) | (simp; omega)) _ | exact (hHeld.setCell (p := ⟨_, 0, none⟩) (by first | with_reducible assumption | exact Nat.le_refl _ | (simp; done) | (simp; omega)) _).setCell (p := ⟨_, 1, none⟩) (by first | with_reducible assumption | exact Nat.le_refl _ | (simp; done) | (simp; omega)) _
            clear hK K
            (try simp only [put_lit, List.set_cons_zero, List.set_cons_succ])
            refine reg_take 10 7 (v := ?_) rfl rfl (by kernel_rfl) (by kernel_rfl) (by kernel_rfl) (fun _ _ _ h => h) (Or.inl ⟨by rfl, ?_⟩) hHeld ?_
            rotate_left 1
            · intro wS hSw; go_simp <;> with_reducible rfl
            simp only [put_lit, List.set_cons_zero, List.set_cons_succ]
            refine wpAnyH_done (by kernel_rfl) ?_ _
            obtain ⟨X, eX⟩ := leafW hHeld
            have x0 : X.cell? ⟨wa3.heap.size, 0, none⟩ = some (.int .i64 wb.wear) := by rw [eX]; go_simp
            have x1 : X.cell? ⟨wa3.heap.size, 1, none⟩ = some (.slice A5 n5 c5) := by rw [eX]; go_simp
            have hGX : wa3.heap.size < X.heap.size := block_lt_of_cell x0
            have S6 : Sl X A5 n5 q6 wb.pages := by rw [eX]; first | exact HS6.out.keep (bel_1 _ _) | exact (HS6.out.setOther (a := ⟨wa3.heap.size, 0, none⟩) (by first | omega | (simp; omega)) _).setOther (a := ⟨wa3.heap.size, 1, none⟩) (by first | omega | (simp; omega)) _
            have hqX : q6 < X.heap.size ∨ n5 = 0 := by rcases S6 with h0 | h0; exact Or.inr h0.1; exact Or.inl h0.2.2.1
            have hXs : wE ≤ X.heap.size := by rw [eX, hwE]; first | exact Nat.le_refl _ | (rw [World.size_setCell, World.size_setCell]; exact Nat.le_refl _) | (rw [World.size_alloc]; omega)
            rw [← eX] at hHeld ⊢
            clear eX
            go_wp2_with fail
            go_meet
            exact ⟨wa3.heap.size, A5, n5, c5, q6, rfl, rfl, by first | omega | (simp; omega), hGX, x0, x1, hn5, S6, by first | omega | (simp; omega), by omega, hHeld⟩
          refine AllReadyH.cons rfl (fun K hK => ?_) AllReadyH.nil
          go_simp
          refine hK.out _ _ ?_ (fun hHeld => ?_)
          · exact reg_alloc hHeld (Nat.le_refl _) _
          clear hK K
          (try simp only [put_lit, List.set_cons_zero, List.set_cons_succ])
          refine wpAnyH_ready (rs := [4]) (by kernel_rfl) (by simp) ?_
          refine AllReadyH.cons rfl (fun K hK => ?_) AllReadyH.nil
          go_simp
          refine (sWriteBlock _ _ _ _ ps _ _ _ _ _ _ (by first | exact HQB.out.at hm | exact (HQB.out.at hm).keep (bel_1 _ _))).mono ?_
          rw [HWB.out]
          simp only []
          rintro e wa7 ⟨v5, rfl, ⟨A5, n5, c5, q5, rfl, hn5, hq5, hS5⟩, hba7⟩
          have hna7 : w1.heap.size ≤ wa7.heap.size := Nat.le_trans hHeld.size hba7.size
          have hqW : w1.heap.size ≤ q5 := Nat.le_trans hHeld.size hq5
          (try simp at hq5)
          obtain ⟨q6, hq6, hT6⟩ := hS5.norm 0
          obtain ⟨wE, hwE⟩ : ∃ x, x = wa7.heap.size := ⟨_, rfl⟩
          have hq7 : q6 < wE ∨ n5 = 0 ∧ q6 = 0 := by omega
          have HS6 := Lib.hid hT6
          have hza7 : wa7.heap.size = wa7.heap.size := rfl
          clear hS5 hT6
          have hGaa7 : ∀ o, wa7.cell? ⟨wa2.heap.size, o, none⟩ = (#[.int .i64 0, .slice none 0 0] : Array Value)[o]? := fun o => ((bcell hba7).1 _ o (by simp)).trans (by simp [go_sem])
          have hGaa7f : ∀ o, wa7.frozen? ⟨wa2.heap.size, o, none⟩ = false := fun o => ((bcell hba7).2 _ o (by simp)).trans (by simp [go_sem])
          have hGaa7s : wa2.heap.size < wa7.heap.size := Nat.lt_of_lt_of_le (by simp) hba7.size
          go_wp2_with fail
          refine hK.out _ _ ?_ (fun hHeld => ?_)
          · exact reg_call hHeld hba7 (Nat.le_refl _)
          clear hK K
          (try simp only [put_lit, List.set_cons_zero, List.set_cons_succ])
          refine reg_take 5 21 (v := ?_) rfl rfl (by kernel_rfl) (by kernel_rfl) (by kernel_rfl) (fun _ _ _ h => h) (Or.inl ⟨by rfl, ?_⟩) hHeld ?_
          rotate_left 1
          · intro wS hSw; go_simp <;> with_reducible rfl
          simp only [put_lit, List.set_cons_zero, List.set_cons_succ]
          refine reg_take 6 27 (v := ?_) rfl rfl (by kernel_rfl) (by kernel_rfl) (by kernel_rfl) (fun _ _ _ h => h) (Or.inl ⟨by rfl, ?_⟩) hHeld ?_
          rotate_left 1
          · intro wS hSw; go_simp <;> with_reducible rfl
          simp only [put_lit, List.set_cons_zero, List.set_cons_succ]
          refine reg_take 7 28 (v := ?_) rfl rfl (by kernel_rfl) (by kernel_rfl) (by kernel_rfl) (fun _ _ _ h => h) (Or.inl ⟨by rfl, ?_⟩) hHeld ?_
          rotate_left 1
          · intro wS hSw; go_simp <;> with_reducible rfl
          simp only [put_lit, List.set_cons_zero, List.set_cons_succ]
          refine wpAnyH_ready (rs := [9]) (by kernel_rfl) (by simp) ?_
          refine AllReadyH.cons rfl (fun K hK => ?_) AllReadyH.nil
          go_simp
          refine hK.out _ _ ?_ (fun hHeld => ?_)
          · first | exact reg_swap hHeld (by first | with_reducible assumption | exact Nat.le_refl _ | (simp; done) | (simp; omega)) _ | exact (hHeld.setCell (p := ⟨_, 0, none⟩) (by first | with_reducible assumption | exact Nat.le_refl _ | (simp; done) | (simp; omega)) _).setCell (p := ⟨_, 1, none⟩) (by first | with_reducible assumption | exact Nat.le_refl _ | (simp; done) | (simp; omega)) _
          clear hK K
          (try simp only [put_lit, List.set_cons_zero, List.set_cons_succ])
          refine reg_take 10 7 (v := ?_) rfl rfl (by kernel_rfl) (by kernel_rfl) (by kernel_rfl) (fun _ _ _ h => h) (Or.inl ⟨by rfl, ?_⟩) hHeld ?_
          rotate_left 1
          · intro wS hSw; go_simp <;> with_reducible rfl
          simp only [put_lit, List.set_cons_zero, List.set_cons_succ]
          refine wpAnyH_done (by kernel_rfl) ?_ _
          obtain ⟨X, eX⟩ := leafW hHeld
          have x0 : X.cell? ⟨wa2.heap.size, 0, none⟩ = some (.int .i64 wb.wear) := by rw [eX]; go_simp
          have x1 : X.cell? ⟨wa2.heap.size, 1, none⟩ = some (.slice A5 n5 c5) := by rw [eX]; go_simp
          have hGX : wa2.heap.size < X.heap.size := block_lt_of_cell x0
          have S6 : Sl X A5 n5 q6 wb.pages := by rw [eX]; first | exact HS6.out.keep (bel_1 _ _) | exact (HS6.out.setOther (a := ⟨wa2.heap.size, 0, none⟩) (by first | omega | (simp; omega)) _).setOther (a := ⟨wa2.heap.size, 1, none⟩) (by first | omega | (simp; omega)) _
          have hqX : q6 < X.heap.size ∨ n5 = 0 := by rcases S6 with h0 | h0; exact Or.inr h0.1; exact Or.inl h0.2.2.1
          have hXs : wE ≤ X.heap.size := by rw [eX, hwE]; first | exact Nat.le_refl _ | (rw [World.size_setCell, World.size_setCell]; exact Nat.le_refl _) | (rw [World.size_alloc]; omega)
          rw [← eX] at hHeld ⊢
          clear eX
          go_wp2_with fail
          go_meet
          exact ⟨wa2.heap.size, A5, n5, c5, q6, rfl, rfl, by first | omega | (simp; omega), hGX, x0, x1, hn5, S6, by first | omega | (simp; omega), by omega, hHeld⟩
        refine AllReadyH.cons rfl (fun K hK => ?_) AllReadyH.nil
        go_simp
        refine hK.out _ _ ?_ (fun hHeld => ?_)
        · exact reg_alloc hHeld (Nat.le_refl _) _
        clear hK K
        (try simp only [put_lit, List.set_cons_zero, List.set_cons_succ])
        refine wpAnyH_ready (rs := [3]) (by kernel_rfl) (by simp) ?_
        refine AllReadyH.cons rfl (fun K hK => ?_) AllReadyH.nil
        go_simp
        refine (toPage_any _ _ _ _ _ _).mono ?_
        rintro e wa10 ⟨rfl, hba10⟩
        have hna10 : w1.heap.size ≤ wa10.heap.size := Nat.le_trans hHeld.size hba10.size
        have HQB : Hid (PgRow wa10 g4 n ps) := Lib.hid (by first | exact HQB.out.keep hba10 | exact (HQB.out.keep (bel_1 _ _)).keep hba10)
        have hGaa10 : ∀ o, wa10.cell? ⟨wa1.heap.size, o, none⟩ = (#[.int .i64 0, .slice none 0 0] : Array Value)[o]? := fun o => ((bcell hba10).1 _ o (by simp)).trans (by simp [go_sem])
        have hGaa10f : ∀ o, wa10.frozen? ⟨wa1.heap.size, o, none⟩ = false := fun o => ((bcell hba10).2 _ o (by simp)).trans (by simp [go_sem])
        have hGaa10s : wa1.heap.size < wa10.heap.size := Nat.lt_of_lt_of_le (by simp) hba10.size
        go_wp2_with fail
        refine hK.out _ _ ?_ (fun hHeld => ?_)
        · exact reg_call hHeld hba10 (Nat.le_refl _)
        clear hK K
        (try simp only [put_lit, List.set_cons_zero, List.set_cons_succ])
        refine wpAnyH_ready (rs := [4]) (by kernel_rfl) (by simp) ?_
        refine AllReadyH.cons rfl (fun K hK => ?_) AllReadyH.nil
        go_simp
        refine (sWriteBlock _ _ _ _ ps _ _ _ _ _ _ (by first | exact HQB.out.at hm | exact (HQB.out.at hm).keep (bel_1 _ _))).mono ?_
        rw [HWB.out]
        simp only []
        rintro e wa11 ⟨v5, rfl, ⟨A5, n5, c5, q5, rfl, hn5, hq5, hS5⟩, hba11⟩
        have hna11 : w1.heap.size ≤ wa11.heap.size := Nat.le_trans hHeld.size hba11.size
        have hqW : w1.heap.size ≤ q5 := Nat.le_trans hHeld.size hq5
        (try simp at hq5)
        obtain ⟨q6, hq6, hT6⟩ := hS5.norm 0
        obtain ⟨wE, hwE⟩ : ∃ x, x = wa11.heap.size := ⟨_, rfl⟩
        have hq7 : q6 < wE ∨ n5 = 0 ∧ q6 = 0 := by omega
        have HS6 := Lib.hid hT6
        have hza11 : wa11.heap.size = wa11.heap.size := rfl
        clear hS5 hT6
        have hGaa11 : ∀ o, wa11.cell? ⟨wa1.heap.size, o, none⟩ = (#[.int .i64 0, .slice none 0 0] : Array Value)[o]? := fun o => ((bcell hba11).1 _ o hGaa10s).trans (hGaa10 o)
        have hGaa11f : ∀ o, wa11.frozen? ⟨wa1.heap.size, o, none⟩ = false := fun o => ((bcell hba11).2 _ o hGaa10s).trans (hGaa10f o)
        have hGaa11s : wa1.heap.size < wa11.heap.size := Nat.lt_of_lt_of_le hGaa10s hba11.size
        go_wp2_with fail
        refine hK.out _ _ ?_ (fun hHeld => ?_)
        · exact reg_call hHeld hba11 (Nat.le_refl _)
        clear hK K
        (try simp only [put_lit, List.set_cons_zero, List.set_cons_succ])
        refine reg_take 5 21 (v := ?_) rfl rfl (by kernel_rfl) (by kernel_rfl) (by kernel_rfl) (fun _ _ _ h => h) (Or.inl ⟨by rfl, ?_⟩) hHeld ?_
        rotate_left 1
        · intro wS hSw; go_simp <;> with_reducible rfl
        simp only [put_lit, List.set_cons_zero, List.set_cons_succ]
        refine reg_take 6 27 (v := ?_) rfl rfl (by kernel_rfl) (by kernel_rfl) (by kernel_rfl) (fun _ _ _ h => h) (Or.inl ⟨by rfl, ?_⟩) hHeld ?_
        rotate_left 1
        · intro wS hSw; go_simp <;> with_reducible rfl
        simp only [put_lit, List.set_cons_zero, List.set_cons_succ]
        refine reg_take 7 28 (v := ?_) rfl rfl (by kernel_rfl) (by kernel_rfl) (by kernel_rfl) (fun _ _ _ h => h) (Or.inl ⟨by rfl, ?_⟩) hHeld ?_
        rotate_left 1
        · intro wS hSw; go_simp <;> with_reducible rfl
        simp only [put_lit, List.set_cons_zero, List.set_cons_succ]
        refine wpAnyH_ready (rs := [9]) (by kernel_rfl) (by simp) ?_
        refine AllReadyH.cons rfl (fun K hK => ?_) AllReadyH.nil
        go_simp
        refine hK.out _ _ ?_ (fun hHeld => ?_)
        · first | exact reg_swap hHeld (by first | with_reducible assumption | exact Nat.le_refl _ | (simp; done) | (simp; omega)) _ | exact (hHeld.setCell (p := ⟨_, 0, none⟩) (by first | with_reducible assumption | exact Nat.le_refl _ | (simp; done) | (simp; omega)) _).setCell (p := ⟨_, 1, none⟩) (by first | with_reducible assumption | exact Nat.le_refl _ | (simp; done) | (simp; omega)) _
        clear hK K
        (try simp only [put_lit, List.set_cons_zero, List.set_cons_succ])
        refine reg_take 10 7 (v := ?_) rfl rfl (by kernel_rfl) (by kernel_rfl) (by kernel_rfl) (fun _ _ _ h => h) (Or.inl ⟨by rfl, ?_⟩) hHeld ?_
        rotate_left 1
        · intro wS hSw; go_simp <;> with_reducible rfl
        simp only [put_lit, List.set_cons_zero, List.set_cons_succ]
        refine wpAnyH_done (by kernel_rfl) ?_ _
        obtain ⟨X, eX⟩ := leafW hHeld
        have x0 : X.cell? ⟨wa1.heap.size, 0, none⟩ = some (.int .i64 wb.wear) := by rw [eX]; go_simp
        have x1 : X.cell? ⟨wa1.heap.size, 1, none⟩ = some (.slice A5 n5 c5) := by rw [eX]; go_simp
        have hGX : wa1.heap.size < X.heap.size := block_lt_of_cell x0
        have S6 : Sl X A5 n5 q6 wb.pages := by rw [eX]; first | exact HS6.out.keep (bel_1 _ _) | exact (HS6.out.setOther (a := ⟨wa1.heap.size, 0, none⟩) (by first | omega | (simp; omega)) _).setOther (a := ⟨wa1.heap.size, 1, none⟩) (by first | omega | (simp; omega)) _
        have hqX : q6 < X.heap.size ∨ n5 = 0 := by rcases S6 with h0 | h0; exact Or.inr h0.1; exact Or.inl h0.2.2.1
        have hXs : wE ≤ X.heap.size := by rw [eX, hwE]; first | exact Nat.le_refl _ | (rw [World.size_setCell, World.size_setCell]; exact Nat.le_refl _) | (rw [World.size_alloc]; omega)
        rw [← eX] at hHeld ⊢
        clear eX
        go_wp2_with fail
        go_meet
        exact ⟨wa1.heap.size, A5, n5, c5, q6, rfl, rfl, by first | omega | (simp; omega), hGX, x0, x1, hn5, S6, by first | omega | (simp; omega), by omega, hHeld⟩
      refine AllReadyH.cons rfl (fun K hK => ?_) AllReadyH.nil
      go_simp
      refine hK.out _ _ ?_ (fun hHeld => ?_)
      · exact reg_alloc hHeld (Nat.le_refl _) _
      clear hK K
      (try simp only [put_lit, List.set_cons_zero, List.set_cons_succ])
      refine wpAnyH_ready (rs := [1]) (by kernel_rfl) (by simp) ?_
      refine AllReadyH.cons rfl (fun K hK => ?_) AllReadyH.nil
      go_simp
      refine (toBlock_any _ _ _ _ ps _ (HP.out.keep (bel_t HB1.out hHeld)) (by omega)).mono ?_
      rintro e wa14 ⟨g4, rfl, hg4, hR4, hba14⟩
      have hna14 : w1.heap.size ≤ wa14.heap.size := Nat.le_trans hHeld.size hba14.size
      have HQB := Lib.hid hR4
      clear hR4
      have hGaa14 : ∀ o, wa14.cell? ⟨w1.heap.size, o, none⟩ = (#[.int .i64 0, .slice none 0 0] : Array Value)[o]? := fun o => ((bcell hba14).1 _ o (by simp)).trans (by simp [go_sem])
      have hGaa14f : ∀ o, wa14.frozen? ⟨w1.heap.size, o, none⟩ = false := fun o => ((bcell hba14).2 _ o (by simp)).trans (by simp [go_sem])
      have hGaa14s : w1.heap.size < wa14.heap.size := Nat.lt_of_lt_of_le (by simp) hba14.size
      go_wp2_with fail
      refine hK.out _ _ ?_ (fun hHeld => ?_)
      · exact reg_call hHeld hba14 (Nat.le_refl _)
      clear hK K
      (try simp only [put_lit, List.set_cons_zero, List.set_cons_succ])
      refine wpAnyH_ready (rs := [3]) (by kernel_rfl) (by simp) ?_
      refine AllReadyH.cons rfl (fun K hK => ?_) AllReadyH.nil
      go_simp
      refine (toPage_any _ _ _ _ _ _).mono ?_
      rintro e wa15 ⟨rfl, hba15⟩
      have hna15 : w1.heap.size ≤ wa15.heap.size := Nat.le_trans hHeld.size hba15.size
      have HQB : Hid (PgRow wa15 g4 n ps) := Lib.hid (by first | exact HQB.out.keep hba15 | exact (HQB.out.keep (bel_1 _ _)).keep hba15)
      have hGaa15 : ∀ o, wa15.cell? ⟨w1.heap.size, o, none⟩ = (#[.int .i64 0, .slice none 0 0] : Array Value)[o]? := fun o => ((bcell hba15).1 _ o hGaa14s).trans (hGaa14 o)
      have hGaa15f : ∀ o, wa15.frozen? ⟨w1.heap.size, o, none⟩ = false := fun o => ((bcell hba15).2 _ o hGaa14s).trans (hGaa14f o)
      have hGaa15s : w1.heap.size < wa15.heap.size := Nat.lt_of_lt_of_le hGaa14s hba15.size
      go_wp2_with fail
      refine hK.out _ _ ?_ (fun hHeld => ?_)
      · exact reg_call hHeld hba15 (Nat.le_refl _)
      clear hK K
      (try simp only [put_lit, List.set_cons_zero, List.set_cons_succ])
      refine wpAnyH_ready (rs := [4]) (by kernel_rfl) (by simp) ?_
      refine AllReadyH.cons rfl (fun K hK => ?_) AllReadyH.nil
      go_simp
      refine (sWriteBlock _ _ _ _ ps _ _ _ _ _ _ (by first | exact HQB.out.at hm | exact (HQB.out.at hm).keep (bel_1 _ _))).mono ?_
      rw [HWB.out]
      simp only []
      rintro e wa16 ⟨v5, rfl, ⟨A5, n5, c5, q5, rfl, hn5, hq5, hS5⟩, hba16⟩
      have hna16 : w1.heap.size ≤ wa16.heap.size := Nat.le_trans hHeld.size hba16.size
      have hqW : w1.heap.size ≤ q5 := Nat.le_trans hHeld.size hq5
      (try simp at hq5)
      obtain ⟨q6, hq6, hT6⟩ := hS5.norm 0
      obtain ⟨wE, hwE⟩ : ∃ x, x = wa16.heap.size := ⟨_, rfl⟩
      have hq7 : q6 < wE ∨ n5 = 0 ∧ q6 = 0 := by omega
      have HS6 := Lib.hid hT6
      have hza16 : wa16.heap.size = wa16.heap.size := rfl
      clear hS5 hT6
      have hGaa16 : ∀ o, wa16.cell? ⟨w1.heap.size, o, none⟩ = (#[.int .i64 0, .slice none 0 0] : Array Value)[o]? := fun o => ((bcell hba16).1 _ o hGaa15s).trans (hGaa15 o)
      have hGaa16f : ∀ o, wa16.frozen? ⟨w1.heap.size, o, none⟩ = false := fun o => ((bcell hba16).2 _ o hGaa15s).trans (hGaa15f o)
      have hGaa16s : w1.heap.size < wa16.heap.size := Nat.lt_of_lt_of_le hGaa15s hba16.size
      go_wp2_with fail
      refine hK.out _ _ ?_ (fun hHeld => ?_)
      · exact reg_call hHeld hba16 (Nat.le_refl _)
      clear hK K
      (try simp only [put_lit, List.set_cons_zero, List.set_cons_succ])
      refine reg_take 5 21 (v := ?_) rfl rfl (by kernel_rfl) (by kernel_rfl) (by kernel_rfl) (fun _ _ _ h => h) (Or.inl ⟨by rfl, ?_⟩) hHeld ?_
      rotate_left 1
      · intro wS hSw; go_simp <;> with_reducible rfl
      simp only [put_lit, List.set_cons_zero, List.set_cons_succ]
      refine reg_take 6 27 (v := ?_) rfl rfl (by kernel_rfl) (by kernel_rfl) (by kernel_rfl) (fun _ _ _ h => h) (Or.inl ⟨by rfl, ?_⟩) hHeld ?_
      rotate_left 1
      · intro wS hSw; go_simp <;> with_reducible rfl
      simp only [put_lit, List.set_cons_zero, List.set_cons_succ]
      refine reg_take 7 28 (v := ?_) rfl rfl (by kernel_rfl) (by kernel_rfl) (by kernel_rfl) (fun _ _ _ h => h) (Or.inl ⟨by rfl, ?_⟩) hHeld ?_
      rotate_left 1
      · intro wS hSw; go_simp <;> with_reducible rfl
      simp only [put_lit, List.set_cons_zero, List.set_cons_succ]
      refine wpAnyH_ready (rs := [9]) (by kernel_rfl) (by simp) ?_
      refine AllReadyH.cons rfl (fun K hK => ?_) AllReadyH.nil
      go_simp
      refine hK.out _ _ ?_ (fun hHeld => ?_)
      · first | exact reg_swap hHeld (by first | with_reducible assumption | exact Nat.le_refl _ | (simp; done) | (simp; omega)) _ | exact (hHeld.setCell (p := ⟨_, 0, none⟩) (by first | with_reducible assumption | exact Nat.le_refl _ | (simp; done) | (simp; omega)) _).setCell (p := ⟨_, 1, none⟩) (by first | with_reducible assumption | exact Nat.le_refl _ | (simp; done) | (simp; omega)) _
      clear hK K
      (try simp only [put_lit, List.set_cons_zero, List.set_cons_succ])
      refine reg_take 10 7 (v := ?_) rfl rfl (by kernel_rfl) (by kernel_rfl) (by kernel_rfl) (fun _ _ _ h => h) (Or.inl ⟨by rfl, ?_⟩) hHeld ?_
      rotate_left 1
      · intro wS hSw; go_simp <;> with_reducible rfl
      simp only [put_lit, List.set_cons_zero, List.set_cons_succ]
      refine wpAnyH_done (by kernel_rfl) ?_ _
      obtain ⟨X, eX⟩ := leafW hHeld
      have x0 : X.cell? ⟨w1.heap.size, 0, none⟩ = some (.int .i64 wb.wear) := by rw [eX]; go_simp
      have x1 : X.cell? ⟨w1.heap.size, 1, none⟩ = some (.slice A5 n5 c5) := by rw [eX]; go_simp
      have hGX : w1.heap.size < X.heap.size := block_lt_of_cell x0
      have S6 : Sl X A5 n5 q6 wb.pages := by rw [eX]; first | exact HS6.out.keep (bel_1 _ _) | exact (HS6.out.setOther (a := ⟨w1.heap.size, 0, none⟩) (by first | omega | (simp; omega)) _).setOther (a := ⟨w1.heap.size, 1, none⟩) (by first | omega | (simp; omega)) _
      have hqX : q6 < X.heap.size ∨ n5 = 0 := by rcases S6 with h0 | h0; exact Or.inr h0.1; exact Or.inl h0.2.2.1
      have hXs : wE ≤ X.heap.size := by rw [eX, hwE]; first | exact Nat.le_refl _ | (rw [World.size_setCell, World.size_setCell]; exact Nat.le_refl _) | (rw [World.size_alloc]; omega)
      rw [← eX] at hHeld ⊢
      clear eX
      go_wp2_with fail
      go_meet
      exact ⟨w1.heap.size, A5, n5, c5, q6, rfl, rfl, by first | omega | (simp; omega), hGX, x0, x1, hn5, S6, by first | omega | (simp; omega), by omega, hHeld⟩
    case rest =>
      obtain ⟨ga, Aa, na, ca, qa, rfl, rfl, hcb⟩ := hcut
      obtain ⟨w2, rfl⟩ : ∃ x, x = wc := ⟨_, rfl⟩
      obtain ⟨hgla, hgsa, aa0, aa1, hna, hTa, hqga, hqsa, hbk⟩ := hcb
      have HV2 := Lib.hid (hbk)
      have HB2 := Lib.hid (bel_t HB1.out HV2.out)
      have hs2 : w1.heap.size ≤ w2.heap.size := HV2.out.size
      replace b0 := stays_below HV2.out _ _ _ b0
      replace b1 := stays_below HV2.out _ _ _ b1
      replace p0 := stays_below HV2.out _ _ _ p0
      replace p1 := stays_below HV2.out _ _ _ p1
      replace p2 := stays_below HV2.out _ _ _ p2
      replace p3 := stays_below HV2.out _ _ _ p3
      replace p4 := stays_below HV2.out _ _ _ p4
      clear hbk
      have S3 := Lib.hid hTa
      clear hTa
      obtain rfl : na = wb.pages.length := (S3.out.at hna).1.symm
      go_wp2_with fail
      refine (toBlock_any _ _ _ _ ps _ (HP.out.keep HB2.out) (by omega)).mono ?_
      rintro e w3 ⟨g3, rfl, hg3, hR3, hb3⟩
      have HV3 := Lib.hid (hb3)
      have HB3 := Lib.hid (bel_t HB2.out HV3.out)
      have hs3 : w2.heap.size ≤ w3.heap.size := HV3.out.size
      replace b0 := stays_below HV3.out _ _ _ b0
      replace b1 := stays_below HV3.out _ _ _ b1
      replace p0 := stays_below HV3.out _ _ _ p0
      replace p1 := stays_below HV3.out _ _ _ p1
      replace p2 := stays_below HV3.out _ _ _ p2
      replace p3 := stays_below HV3.out _ _ _ p3
      replace p4 := stays_below HV3.out _ _ _ p4
      replace aa0 := stays_below HV3.out _ _ _ aa0
      replace aa1 := stays_below HV3.out _ _ _ aa1
      replace S3 := Lib.hid (S3.out.keep HV3.out)
      have SX : Hid (Sl w3 (some ⟨g3, 0, none⟩) n g3 ps) := Lib.hid (Or.inr ⟨rfl, hR3⟩)
      have hg3b : g3 < w3.heap.size := hR3.2.1
      clear hR3
      go_upto_region 7 with fail
      have xx0 : (w3.alloc (.cells #[.int .i64 z, .slice (some ⟨g3, 0, none⟩) n n] 30)).cell? ⟨w3.heap.size, 0, none⟩ = some (.int .i64 z) := by simp [go_sem]
      have xx1 : (w3.alloc (.cells #[.int .i64 z, .slice (some ⟨g3, 0, none⟩) n n] 30)).cell? ⟨w3.heap.size, 1, none⟩ = some (.slice (some ⟨g3, 0, none⟩) n n) := by simp [go_sem]
      have hbx := bel_1 w3 (.cells #[.int .i64 z, .slice (some ⟨g3, 0, none⟩) n n] 30)
      have hzx : (w3.alloc (.cells #[.int .i64 z, .slice (some ⟨g3, 0, none⟩) n n] 30)).heap.size = w3.heap.size + 1 := by simp
      generalize w3.alloc (.cells #[.int .i64 z, .slice (some ⟨g3, 0, none⟩) n n] 30) = w4 at *
      have hzy : w3.heap.size < w4.heap.size := by omega
      clear hzx
      have HV4 := Lib.hid (hbx)
      have HB4 := Lib.hid (bel_t HB3.out HV4.out)
      have hs4 : w3.heap.size ≤ w4.heap.size := HV4.out.size
      replace b0 := stays_below HV4.out _ _ _ b0
      replace b1 := stays_below HV4.out _ _ _ b1
      replace p0 := stays_below HV4.out _ _ _ p0
      replace p1 := stays_below HV4.out _ _ _ p1
      replace p2 := stays_below HV4.out _ _ _ p2
      replace p3 := stays_below HV4.out _ _ _ p3
      replace p4 := stays_below HV4.out _ _ _ p4
      replace aa0 := stays_below HV4.out _ _ _ aa0
      replace aa1 := stays_below HV4.out _ _ _ aa1
      replace S3 := Lib.hid (S3.out.keep HV4.out)
      replace SX := Lib.hid (SX.out.keep HV4.out)
      clear hbx
      have zb_4 : w.heap.size < w4.heap.size := block_lt_of_cell b0
      have zp_4 : w.heap.size + 1 < w4.heap.size := block_lt_of_cell p0
      go_upto_region 7 with fail
      go_cut [9, 10] (fun x6 x7 wx => ∃ (g : Nat) (A' : Option Addr) (n' c' q : Nat), x6 = .pointer (some ⟨g, 0, none⟩) ∧ x7 = .int .i64 nx ∧ CutB w4 wx g A' n' c' q wb)
      case first =>
        refine reg_begin (by kernel_rfl) (fun hHeld => ?_)
        refine reg_take 0 32 (v := ?_) rfl rfl (by kernel_rfl) (by kernel_rfl) (by kernel_rfl) (fun _ _ _ h => h) (Or.inl ⟨by rfl, ?_⟩) hHeld ?_
        rotate_left 1
        · intro wS hSw; have hqS := bcellB hSw; go_simp <;> with_reducible rfl
        simp only [put_lit, List.set_cons_zero, List.set_cons_succ]
        refine reg_take 1 33 (v := ?_) rfl rfl (by kernel_rfl) (by kernel_rfl) (by kernel_rfl) (fun _ _ _ h => h) (Or.inl ⟨by rfl, ?_⟩) hHeld ?_
        rotate_left 1
        · intro wS hSw; have hqS := bcellB hSw; go_simp <;> with_reducible rfl
        simp only [put_lit, List.set_cons_zero, List.set_cons_succ]
        refine wpAnyH_ready (rs := [2, 7]) (by kernel_rfl) (by simp) ?_
        refine AllReadyH.cons rfl (fun K hK => ?_) ?_
        · skip
          go_simp
          refine (toPage_any _ _ _ _ _ _).mono ?_
          rintro e wg1 ⟨rfl, hbg1⟩
          have hng1 : w4.heap.size ≤ wg1.heap.size := Nat.le_trans hHeld.size hbg1.size
          go_wp2_with fail
          refine hK.out _ _ ?_ (fun hHeld => ?_)
          · exact reg_call hHeld hbg1 (Nat.le_refl _)
          clear hK K
          (try simp only [put_lit, List.set_cons_zero, List.set_cons_succ])
          refine wpAnyH_ready (rs := [3, 7]) (by kernel_rfl) (by simp) ?_
          refine AllReadyH.cons rfl (fun K hK => ?_) ?_
          · skip
            go_simp
            refine (iWriteBlock _ _ _ _ ps _ _ _ _ _ _ ((SX.out.keep hHeld).at hm)).mono ?_
            rw [HWB.out]
            simp only []
            rintro e wg2 ⟨v5, rfl, ⟨A5, n5, c5, q5, rfl, hn5, hq5, hS5⟩, hbg2⟩
            have hng2 : w4.heap.size ≤ wg2.heap.size := Nat.le_trans hHeld.size hbg2.size
            have hqW : w4.heap.size ≤ q5 := Nat.le_trans hHeld.size hq5
            (try simp at hq5)
            obtain ⟨q6, hq6, hT6⟩ := hS5.norm (wg2.heap.size + 5)
            obtain ⟨wE, hwE⟩ : ∃ x, x = wg2.heap.size := ⟨_, rfl⟩
            have hq7 : q6 < wE ∨ n5 = 0 ∧ q6 = wg2.heap.size + 5 := by omega
            have HS6 := Lib.hid hT6
            have hzg2 : wg2.heap.size = wg2.heap.size := rfl
            clear hS5 hT6
            go_wp2_with fail
            refine hK.out _ _ ?_ (fun hHeld => ?_)
            · exact reg_call hHeld hbg2 (Nat.le_refl _)
            clear hK K
            (try simp only [put_lit, List.set_cons_zero, List.set_cons_succ])
            refine reg_take 4 31 (v := ?_) rfl rfl (by kernel_rfl) (by kernel_rfl) (by kernel_rfl) (fun _ _ _ h => h) (Or.inl ⟨by rfl, ?_⟩) hHeld ?_
            rotate_left 1
            · intro wS hSw; go_simp <;> with_reducible rfl
            simp only [put_lit, List.set_cons_zero, List.set_cons_succ]
            refine reg_take 5 36 (v := ?_) rfl rfl (by kernel_rfl) (by kernel_rfl) (by kernel_rfl) (fun _ _ _ h => h) (Or.inl ⟨by rfl, ?_⟩) hHeld ?_
            rotate_left 1
            · intro wS hSw; go_simp <;> with_reducible rfl
            simp only [put_lit, List.set_cons_zero, List.set_cons_succ]
            refine reg_take 6 37 (v := ?_) rfl rfl (by kernel_rfl) (by kernel_rfl) (by kernel_rfl) (fun _ _ _ h => h) (Or.inl ⟨by rfl, ?_⟩) hHeld ?_
            rotate_left 1
            · intro wS hSw; go_simp <;> with_reducible rfl
            simp only [put_lit, List.set_cons_zero, List.set_cons_succ]
            refine wpAnyH_ready (rs := [7]) (by kernel_rfl) (by simp) ?_
            refine AllReadyH.cons rfl (fun K hK => ?_) AllReadyH.nil
            go_simp
            refine hK.out _ _ ?_ (fun hHeld => ?_)
            · exact reg_alloc hHeld (Nat.le_refl _) _
            clear hK K
            (try simp only [put_lit, List.set_cons_zero, List.set_cons_succ])
            refine wpAnyH_ready (rs := [8]) (by kernel_rfl) (by simp) ?_
            refine AllReadyH.cons rfl (fun K hK => ?_) AllReadyH.nil
            go_simp
            refine hK.out _ _ ?_ (fun hHeld => ?_)
            · first | exact reg_swap hHeld (by first | with_reducible assumption | exact Nat.le_refl _ | (simp; done) | (simp; omega)) _ | exact (hHeld.setCell (p := ⟨_, 0, none⟩) (by first | with_reducible assumption | exact Nat.le_refl _ | (simp; done) | (simp; omega)) _).setCell (p := ⟨_, 1, none⟩) (by first | with_reducible assumption | exact Nat.le_refl _ | (simp; done) | (simp; omega)) _
            clear hK K
            (try simp only [put_lit, List.set_cons_zero, List.set_cons_succ])
            refine reg_take 9 10 (v := ?_) rfl rfl (by kernel_rfl) (by kernel_rfl) (by kernel_rfl) (fun _ _ _ h => h) (Or.inl ⟨by rfl, ?_⟩) hHeld ?_
            rotate_left 1
            · intro wS hSw; go_simp <;> with_reducible rfl
            simp only [put_lit, List.set_cons_zero, List.set_cons_succ]
            refine wpAnyH_done (by kernel_rfl) ?_ _
            obtain ⟨X, eX⟩ := leafW hHeld
            have x0 : X.cell? ⟨wg2.heap.size, 0, none⟩ = some (.int .i64 wb.wear) := by rw [eX]; go_simp
            have x1 : X.cell? ⟨wg2.heap.size, 1, none⟩ = some (.slice A5 n5 c5) := by rw [eX]; go_simp
            have hGX : wg2.heap.size < X.heap.size := block_lt_of_cell x0
            have S6 : Sl X A5 n5 q6 wb.pages := by rw [eX]; first | exact HS6.out.keep (bel_1 _ _) | exact (HS6.out.setOther (a := ⟨wg2.heap.size, 0, none⟩) (by first | omega | (simp; omega)) _).setOther (a := ⟨wg2.heap.size, 1, none⟩) (by first | omega | (simp; omega)) _
            have hqX : q6 < X.heap.size ∨ n5 = 0 := by rcases S6 with h0 | h0; exact Or.inr h0.1; exact Or.inl h0.2.2.1
            have hXs : wE ≤ X.heap.size := by rw [eX, hwE]; first | exact Nat.le_refl _ | (rw [World.size_setCell, World.size_setCell]; exact Nat.le_refl _) | (rw [World.size_alloc]; omega)
            rw [← eX] at hHeld ⊢
            clear eX
            go_wp2_with fail
            go_meet
            exact ⟨wg2.heap.size, A5, n5, c5, q6, rfl, rfl, by first | omega | (simp; omega), hGX, x0, x1, hn5, S6, by omega, by first | omega | (simp; omega), hqX, hHeld⟩
          refine AllReadyH.cons rfl (fun K hK => ?_) AllReadyH.nil
          go_simp
          refine hK.out _ _ ?_ (fun hHeld => ?_)
          · exact reg_alloc hHeld (Nat.le_refl _) _
          clear hK K
          (try simp only [put_lit, List.set_cons_zero, List.set_cons_succ])
          refine wpAnyH_ready (rs := [3]) (by kernel_rfl) (by simp) ?_
          refine AllReadyH.cons rfl (fun K hK => ?_) AllReadyH.nil
          go_simp
          refine (iWriteBlock _ _ _ _ ps _ _ _ _ _ _ ((SX.out.keep hHeld).at hm)).mono ?_
          rw [HWB.out]
          simp only []
          rintro e wg6 ⟨v5, rfl, ⟨A5, n5, c5, q5, rfl, hn5, hq5, hS5⟩, hbg6⟩
          have hng6 : w4.heap.size ≤ wg6.heap.size := Nat.le_trans hHeld.size hbg6.size
          have hqW : w4.heap.size ≤ q5 := Nat.le_trans hHeld.size hq5
          (try simp at hq5)
          obtain ⟨q6, hq6, hT6⟩ := hS5.norm (wg6.heap.size + 5)
          obtain ⟨wE, hwE⟩ : ∃ x, x = wg6.heap.size := ⟨_, rfl⟩
          have hq7 : q6 < wE ∨ n5 = 0 ∧ q6 = wg6.heap.size + 5 := by omega
          have HS6 := Lib.hid hT6
          have hzg6 : wg6.heap.size = wg6.heap.size := rfl
          clear hS5 hT6
          have hGag6 : ∀ o, wg6.cell? ⟨wg1.heap.size, o, none⟩ = (#[.int .i64 0, .slice none 0 0] : Array Value)[o]? := fun o => ((bcell hbg6).1 _ o (by simp)).trans (by simp [go_sem])
          have hGag6f : ∀ o, wg6.frozen? ⟨wg1.heap.size, o, none⟩ = false := fun o => ((bcell hbg6).2 _ o (by simp)).trans (by simp [go_sem])
          have hGag6s : wg1.heap.size < wg6.heap.size := Nat.lt_of_lt_of_le (by simp) hbg6.size
          go_wp2_with fail
          refine hK.out _ _ ?_ (fun hHeld => ?_)
          · exact reg_call hHeld hbg6 (Nat.le_refl _)
          clear hK K
          (try simp only [put_lit, List.set_cons_zero, List.set_cons_succ])
          refine reg_take 4 31 (v := ?_) rfl rfl (by kernel_rfl) (by kernel_rfl) (by kernel_rfl) (fun _ _ _ h => h) (Or.inl ⟨by rfl, ?_⟩) hHeld ?_
          rotate_left 1
          · intro wS hSw; go_simp <;> with_reducible rfl
          simp only [put_lit, List.set_cons_zero, List.set_cons_succ]
          refine reg_take 5 36 (v := ?_) rfl rfl (by kernel_rfl) (by kernel_rfl) (by kernel_rfl) (fun _ _ _ h => h) (Or.inl ⟨by rfl, ?_⟩) hHeld ?_
          rotate_left 1
          · intro wS hSw; go_simp <;> with_reducible rfl
          simp only [put_lit, List.set_cons_zero, List.set_cons_succ]
          refine reg_take 6 37 (v := ?_) rfl rfl (by kernel_rfl) (by kernel_rfl) (by kernel_rfl) (fun _ _ _ h => h) (Or.inl ⟨by rfl, ?_⟩) hHeld ?_
          rotate_left 1
          · intro wS hSw; go_simp <;> with_reducible rfl
          simp only [put_lit, List.set_cons_zero, List.set_cons_succ]
          refine wpAnyH_ready (rs := [8]) (by kernel_rfl) (by simp) ?_
          refine AllReadyH.cons rfl (fun K hK => ?_) AllReadyH.nil
          go_simp
          refine hK.out _ _ ?_ (fun hHeld => ?_)
          · first | exact reg_swap hHeld (by first | with_reducible assumption | exact Nat.le_refl _ | (simp; done) | (simp; omega)) _ | exact (hHeld.setCell (p := ⟨_, 0, none⟩) (by first | with_reducible assumption | exact Nat.le_refl _ | (simp; done) | (simp; omega)) _).setCell (p := ⟨_, 1, none⟩) (by first | with_reducible assumption | exact Nat.le_refl _ | (simp; done) | (simp; omega)) _
          clear hK K
          (try simp only [put_lit, List.set_cons_zero, List.set_cons_succ])
          refine reg_take 9 10 (v := ?_) rfl rfl (by kernel_rfl) (by kernel_rfl) (by kernel_rfl) (fun _ _ _ h => h) (Or.inl ⟨by rfl, ?_⟩) hHeld ?_
          rotate_left 1
          · intro wS hSw; go_simp <;> with_reducible rfl
          simp only [put_lit, List.set_cons_zero, List.set_cons_succ]
          refine wpAnyH_done (by kernel_rfl) ?_ _
          obtain ⟨X, eX⟩ := leafW hHeld
          have x0 : X.cell? ⟨wg1.heap.size, 0, none⟩ = some (.int .i64 wb.wear) := by rw [eX]; go_simp
          have x1 : X.cell? ⟨wg1.heap.size, 1, none⟩ = some (.slice A5 n5 c5) := by rw [eX]; go_simp
          have hGX : wg1.heap.size < X.heap.size := block_lt_of_cell x0
          have S6 : Sl X A5 n5 q6 wb.pages := by rw [eX]; first | exact HS6.out.keep (bel_1 _ _) | exact (HS6.out.setOther (a := ⟨wg1.heap.size, 0, none⟩) (by first | omega | (simp; omega)) _).setOther (a := ⟨wg1.heap.size, 1, none⟩) (by first | omega | (simp; omega)) _
          have hqX : q6 < X.heap.size ∨ n5 = 0 := by rcases S6 with h0 | h0; exact Or.inr h0.1; exact Or.inl h0.2.2.1
          have hXs : wE ≤ X.heap.size := by rw [eX, hwE]; first | exact Nat.le_refl _ | (rw [World.size_setCell, World.size_setCell]; exact Nat.le_refl _) | (rw [World.size_alloc]; omega)
          rw [← eX] at hHeld ⊢
          clear eX
          go_wp2_with fail
          go_meet
          exact ⟨wg1.heap.size, A5, n5, c5, q6, rfl, rfl, by first | omega | (simp; omega), hGX, x0, x1, hn5, S6, by omega, by first | omega | (simp; omega), hqX, hHeld⟩
        refine AllReadyH.cons rfl (fun K hK => ?_) AllReadyH.nil
        go_simp
        refine hK.out _ _ ?_ (fun hHeld => ?_)
        · exact reg_alloc hHeld (Nat.le_refl _) _
        clear hK K
        (try simp only [put_lit, List.set_cons_zero, List.set_cons_succ])
        refine wpAnyH_ready (rs := [2]) (by kernel_rfl) (by simp) ?_
        refine AllReadyH.cons rfl (fun K hK => ?_) AllReadyH.nil
        go_simp
        refine (toPage_any _ _ _ _ _ _).mono ?_
        rintro e wg9 ⟨rfl, hbg9⟩
        have hng9 : w4.heap.size ≤ wg9.heap.size := Nat.le_trans hHeld.size hbg9.size
        have hGag9 : ∀ o, wg9.cell? ⟨w4.heap.size, o, none⟩ = (#[.int .i64 0, .slice none 0 0] : Array Value)[o]? := fun o => ((bcell hbg9).1 _ o (by simp)).trans (by simp [go_sem])
        have hGag9f : ∀ o, wg9.frozen? ⟨w4.heap.size, o, none⟩ = false := fun o => ((bcell hbg9).2 _ o (by simp)).trans (by simp [go_sem])
        have hGag9s : w4.heap.size < wg9.heap.size := Nat.lt_of_lt_of_le (by simp) hbg9.size
        go_wp2_with fail
        refine hK.out _ _ ?_ (fun hHeld => ?_)
        · exact reg_call hHeld hbg9 (Nat.le_refl _)
        clear hK K
        (try simp only [put_lit, List.set_cons_zero, List.set_cons_succ])
        refine wpAnyH_ready (rs := [3]) (by kernel_rfl) (by simp) ?_
        refine AllReadyH.cons rfl (fun K hK => ?_) AllReadyH.nil
        go_simp
        refine (iWriteBlock _ _ _ _ ps _ _ _ _ _ _ ((SX.out.keep hHeld).at hm)).mono ?_
        rw [HWB.out]
        simp only []
        rintro e wg10 ⟨v5, rfl, ⟨A5, n5, c5, q5, rfl, hn5, hq5, hS5⟩, hbg10⟩
        have hng10 : w4.heap.size ≤ wg10.heap.size := Nat.le_trans hHeld.size hbg10.size
        have hqW : w4.heap.size ≤ q5 := Nat.le_trans hHeld.size hq5
        (try simp at hq5)
        obtain ⟨q6, hq6, hT6⟩ := hS5.norm (wg10.heap.size + 5)
        obtain ⟨wE, hwE⟩ : ∃ x, x = wg10.heap.size := ⟨_, rfl⟩
        have hq7 : q6 < wE ∨ n5 = 0 ∧ q6 = wg10.heap.size + 5 := by omega
        have HS6 := Lib.hid hT6
        have hzg10 : wg10.heap.size = wg10.heap.size := rfl
        clear hS5 hT6
        have hGag10 : ∀ o, wg10.cell? ⟨w4.heap.size, o, none⟩ = (#[.int .i64 0, .slice none 0 0] : Array Value)[o]? := fun o => ((bcell hbg10).1 _ o hGag9s).trans (hGag9 o)
        have hGag10f : ∀ o, wg10.frozen? ⟨w4.heap.size, o, none⟩ = false := fun o => ((bcell hbg10).2 _ o hGag9s).trans (hGag9f o)
        have hGag10s : w4.heap.size < wg10.heap.size := Nat.lt_of_lt_of_le hGag9s hbg10.size
        go_wp2_with fail
        refine hK.out _ _ ?_ (fun hHeld => ?_)
        · exact reg_call hHeld hbg10 (Nat.le_refl _)
        clear hK K
        (try simp only [put_lit, List.set_cons_zero, List.set_cons_succ])
        refine reg_take 4 31 (v := ?_) rfl rfl (by kernel_rfl) (by kernel_rfl) (by kernel_rfl) (fun _ _ _ h => h) (Or.inl ⟨by rfl, ?_⟩) hHeld ?_
        rotate_left 1
        · intro wS hSw; go_simp <;> with_reducible rfl
        simp only [put_lit, List.set_cons_zero, List.set_cons_succ]
        refine reg_take 5 36 (v := ?_) rfl rfl (by kernel_rfl) (by kernel_rfl) (by kernel_rfl) (fun _ _ _ h => h) (Or.inl ⟨by rfl, ?_⟩) hHeld ?_
        rotate_left 1
        · intro wS hSw; go_simp <;> with_reducible rfl
        simp only [put_lit, List.set_cons_zero, List.set_cons_succ]
        refine reg_take 6 37 (v := ?_) rfl rfl (by kernel_rfl) (by kernel_rfl) (by kernel_rfl) (fun _ _ _ h => h) (Or.inl ⟨by rfl, ?_⟩) hHeld ?_
        rotate_left 1
        · intro wS hSw; go_simp <;> with_reducible rfl
        simp only [put_lit, List.set_cons_zero, List.set_cons_succ]
        refine wpAnyH_ready (rs := [8]) (by kernel_rfl) (by simp) ?_
        refine AllReadyH.cons rfl (fun K hK => ?_) AllReadyH.nil
        go_simp
        refine hK.out _ _ ?_ (fun hHeld => ?_)
        · first | exact reg_swap hHeld (by first | with_reducible assumption | exact Nat.le_refl _ | (simp; done) | (simp; omega)) _ | exact (hHeld.setCell (p := ⟨_, 0, none⟩) (by first | with_reducible assumption | exact Nat.le_refl _ | (simp; done) | (simp; omega)) _).setCell (p := ⟨_, 1, none⟩) (by first | with_reducible assumption | exact Nat.le_refl _ | (simp; done) | (simp; omega)) _
        clear hK K
        (try simp only [put_lit, List.set_cons_zero, List.set_cons_succ])
        refine reg_take 9 10 (v := ?_) rfl rfl (by kernel_rfl) (by kernel_rfl) (by kernel_rfl) (fun _ _ _ h => h) (Or.inl ⟨by rfl, ?_⟩) hHeld ?_
        rotate_left 1
        · intro wS hSw; go_simp <;> with_reducible rfl
        simp only [put_lit, List.set_cons_zero, List.set_cons_succ]
        refine wpAnyH_done (by kernel_rfl) ?_ _
        obtain ⟨X, eX⟩ := leafW hHeld
        have x0 : X.cell? ⟨w4.heap.size, 0, none⟩ = some (.int .i64 wb.wear) := by rw [eX]; go_simp
        have x1 : X.cell? ⟨w4.heap.size, 1, none⟩ = some (.slice A5 n5 c5) := by rw [eX]; go_simp
        have hGX : w4.heap.size < X.heap.size := block_lt_of_cell x0
        have S6 : Sl X A5 n5 q6 wb.pages := by rw [eX]; first | exact HS6.out.keep (bel_1 _ _) | exact (HS6.out.setOther (a := ⟨w4.heap.size, 0, none⟩) (by first | omega | (simp; omega)) _).setOther (a := ⟨w4.heap.size, 1, none⟩) (by first | omega | (simp; omega)) _
        have hqX : q6 < X.heap.size ∨ n5 = 0 := by rcases S6 with h0 | h0; exact Or.inr h0.1; exact Or.inl h0.2.2.1
        have hXs : wE ≤ X.heap.size := by rw [eX, hwE]; first | exact Nat.le_refl _ | (rw [World.size_setCell, World.size_setCell]; exact Nat.le_refl _) | (rw [World.size_alloc]; omega)
        rw [← eX] at hHeld ⊢
        clear eX
        go_wp2_with fail
        go_meet
        exact ⟨w4.heap.size, A5, n5, c5, q6, rfl, rfl, by first | omega | (simp; omega), hGX, x0, x1, hn5, S6, by omega, by first | omega | (simp; omega), hqX, hHeld⟩
      case rest =>
        obtain ⟨gg, Ag, ng, cg, qg, rfl, rfl, hcb⟩ := hcut
        obtain ⟨w5, rfl⟩ : ∃ x, x = wc := ⟨_, rfl⟩
        obtain ⟨hglg, hgsg, gg0, gg1, hng, hTg, hqlg, hqgg, hqsg, hbk⟩ := hcb
        have HV5 := Lib.hid (hbk)
        have HB5 := Lib.hid (bel_t HB4.out HV5.out)
        have hs5 : w4.heap.size ≤ w5.heap.size := HV5.out.size
        replace b0 := stays_below HV5.out _ _ _ b0
        replace b1 := stays_below HV5.out _ _ _ b1
        replace p0 := stays_below HV5.out _ _ _ p0
        replace p1 := stays_below HV5.out _ _ _ p1
        replace p2 := stays_below HV5.out _ _ _ p2
        replace p3 := stays_below HV5.out _ _ _ p3
        replace p4 := stays_below HV5.out _ _ _ p4
        replace aa0 := stays_below HV5.out _ _ _ aa0
        replace aa1 := stays_below HV5.out _ _ _ aa1
        replace xx0 := stays_below HV5.out _ _ _ xx0
        replace xx1 := stays_below HV5.out _ _ _ xx1
        replace S3 := Lib.hid (S3.out.keep HV5.out)
        replace SX := Lib.hid (SX.out.keep HV5.out)
        clear hbk
        have S5 := Lib.hid hTg
        clear hTg
        obtain rfl : ng = wb.pages.length := (S5.out.at hng).1.symm
        go_wp2_with fail
        refine (eqBlock_refl _ _ _ _ _ _ wb.pages _ (S5.out.at hng) (S3.out.at hna)).mono ?_
        rintro e w6 ⟨rfl, hb6⟩
        have HV6 := Lib.hid (hb6)
        have HB6 := Lib.hid (bel_t HB5.out HV6.out)
        have hs6 : w5.heap.size ≤ w6.heap.size := HV6.out.size
        replace b0 := stays_below HV6.out _ _ _ b0
        replace b1 := stays_below HV6.out _ _ _ b1
        replace p0 := stays_below HV6.out _ _ _ p0
        replace p1 := stays_below HV6.out _ _ _ p1
        replace p2 := stays_below HV6.out _ _ _ p2
        replace p3 := stays_below HV6.out _ _ _ p3
        replace p4 := stays_below HV6.out _ _ _ p4
        replace aa0 := stays_below HV6.out _ _ _ aa0
        replace aa1 := stays_below HV6.out _ _ _ aa1
        replace xx0 := stays_below HV6.out _ _ _ xx0
        replace xx1 := stays_below HV6.out _ _ _ xx1
        replace gg0 := stays_below HV6.out _ _ _ gg0
        replace gg1 := stays_below HV6.out _ _ _ gg1
        replace S3 := Lib.hid (S3.out.keep HV6.out)
        replace SX := Lib.hid (SX.out.keep HV6.out)
        replace S5 := Lib.hid (S5.out.keep HV6.out)
        have zx6 : w3.heap.size < w6.heap.size := block_lt_of_cell xx0
        have zb6 : w.heap.size < w6.heap.size := block_lt_of_cell b0
        go_wp2_with fail
        refine reg_begin (by kernel_rfl) (fun hHeld => ?_)
        refine reg_take 0 47 (v := ?_) rfl rfl (by kernel_rfl) (by kernel_rfl) (by kernel_rfl) (fun _ _ _ h => h) (Or.inl ⟨by rfl, ?_⟩) hHeld ?_
        rotate_left 1
        · intro wS hSw; have hqS := bcellB hSw; go_simp <;> with_reducible rfl
        simp only [put_lit, List.set_cons_zero, List.set_cons_succ]
        refine reg_take 1 48 (v := ?_) rfl rfl (by kernel_rfl) (by kernel_rfl) (by kernel_rfl) (fun _ _ _ h => h) (Or.inl ⟨by rfl, ?_⟩) hHeld ?_
        rotate_left 1
        · intro wS hSw; have hqS := bcellB hSw; go_simp <;> with_reducible rfl
        simp only [put_lit, List.set_cons_zero, List.set_cons_succ]
        refine wpAnyH_ready (rs := [2]) (by kernel_rfl) (by simp) ?_
        refine AllReadyH.cons rfl (fun K hK => ?_) AllReadyH.nil
        go_simp
        refine (toBlock_any _ _ _ _ ps _ (HP.out.keep (bel_t HB6.out hHeld)) (by omega)).mono ?_
        rintro e w81 ⟨g8, rfl, hg8, HR8, hb81⟩
        go_wp2_with fail
        refine hK.out _ _ ?_ (fun hHeld => ?_)
        · exact reg_call hHeld hb81 (Nat.le_refl _)
        clear hK K
        (try simp only [put_lit, List.set_cons_zero, List.set_cons_succ])
        refine wpAnyH_ready (rs := [3]) (by kernel_rfl) (by simp) ?_
        refine AllReadyH.cons rfl (fun K hK => ?_) AllReadyH.nil
        go_simp
        refine (eqBlock_refl _ _ _ _ _ _ ps _ ((SX.out.keep hHeld).at hm) (HR8.at hm)).mono ?_
        rintro e w82 ⟨rfl, hb82⟩
        go_wp2_with fail
        refine hK.out _ _ ?_ (fun hHeld => ?_)
        · exact reg_call hHeld hb82 (Nat.le_refl _)
        clear hK K
        (try simp only [put_lit, List.set_cons_zero, List.set_cons_succ])
        refine reg_take 4 51 (v := ?_) rfl rfl (by kernel_rfl) (by kernel_rfl) (by kernel_rfl) (fun _ _ _ h => h) (Or.inl ⟨by rfl, ?_⟩) hHeld ?_
        rotate_left 1
        · intro wS hSw; go_simp <;> with_reducible rfl
        simp only [put_lit, List.set_cons_zero, List.set_cons_succ]
        refine wpAnyH_done (by kernel_rfl) ?_ _
        skip
        have HV7 := Lib.hid (hHeld)
        have HB7 := Lib.hid (bel_t HB6.out HV7.out)
        have hs7 : w6.heap.size ≤ w82.heap.size := HV7.out.size
        replace b0 := stays_below HV7.out _ _ _ b0
        replace b1 := stays_below HV7.out _ _ _ b1
        replace p0 := stays_below HV7.out _ _ _ p0
        replace p1 := stays_below HV7.out _ _ _ p1
        replace p2 := stays_below HV7.out _ _ _ p2
        replace p3 := stays_below HV7.out _ _ _ p3
        replace p4 := stays_below HV7.out _ _ _ p4
        replace aa0 := stays_below HV7.out _ _ _ aa0
        replace aa1 := stays_below HV7.out _ _ _ aa1
        replace xx0 := stays_below HV7.out _ _ _ xx0
        replace xx1 := stays_below HV7.out _ _ _ xx1
        replace gg0 := stays_below HV7.out _ _ _ gg0
        replace gg1 := stays_below HV7.out _ _ _ gg1
        replace S3 := Lib.hid (S3.out.keep HV7.out)
        replace SX := Lib.hid (SX.out.keep HV7.out)
        replace S5 := Lib.hid (S5.out.keep HV7.out)
        clear hHeld hb81 hb82 HR8
        go_wp2_with fail
        refine (markBlock_any _ (some ⟨g3, 0, none⟩) n n g3 ps 1 _ SX.out (by omega) (by omega) (by omega) (by omega)).mono ?_
        rintro e w8 ⟨rfl, hS8, wm8, hm8, hC8⟩
        have HB8 := Lib.hid (hC8.2.2.2 _ _ (bel_t HB7.out hm8) (by omega))
        replace b0 := (hC8.2.1 _ _ (by omega)).trans (stays_below hm8 _ _ _ b0)
        replace b1 := (hC8.2.1 _ _ (by omega)).trans (stays_below hm8 _ _ _ b1)
        replace p0 := (hC8.2.1 _ _ (by omega)).trans (stays_below hm8 _ _ _ p0)
        replace p1 := (hC8.2.1 _ _ (by omega)).trans (stays_below hm8 _ _ _ p1)
        replace p2 := (hC8.2.1 _ _ (by omega)).trans (stays_below hm8 _ _ _ p2)
        replace p3 := (hC8.2.1 _ _ (by omega)).trans (stays_below hm8 _ _ _ p3)
        replace p4 := (hC8.2.1 _ _ (by omega)).trans (stays_below hm8 _ _ _ p4)
        replace aa0 := (hC8.2.1 _ _ (by omega)).trans (stays_below hm8 _ _ _ aa0)
        replace aa1 := (hC8.2.1 _ _ (by omega)).trans (stays_below hm8 _ _ _ aa1)
        replace xx0 := (hC8.2.1 _ _ (by omega)).trans (stays_below hm8 _ _ _ xx0)
        replace xx1 := (hC8.2.1 _ _ (by omega)).trans (stays_below hm8 _ _ _ xx1)
        replace gg0 := (hC8.2.1 _ _ (by omega)).trans (stays_below hm8 _ _ _ gg0)
        replace gg1 := (hC8.2.1 _ _ (by omega)).trans (stays_below hm8 _ _ _ gg1)
        replace S3 := Lib.hid ((S3.out.keep hm8).chg (by omega) hC8)
        replace S5 := Lib.hid ((S5.out.keep hm8).chg (by omega) hC8)
        replace SX := Lib.hid hS8
        have hs8 : w82.heap.size ≤ w8.heap.size := by have := hC8.1; have := hm8.size; omega
        clear hS8 hm8 hC8
        have hr0 : ¬ (1 + 5 * (n : Int) < 0) := by omega
        go_wp2_with fail
        refine (eqBlock_refl _ _ _ _ _ _ wb.pages _ (S5.out.at hng) (S3.out.at hna)).mono ?_
        rintro e w9 ⟨rfl, hb9⟩
        have HV9 := Lib.hid (hb9)
        have HB9 := Lib.hid (bel_t HB8.out HV9.out)
        have hs9 : w8.heap.size ≤ w9.heap.size := HV9.out.size
        replace b0 := stays_below HV9.out _ _ _ b0
        replace b1 := stays_below HV9.out _ _ _ b1
        replace p0 := stays_below HV9.out _ _ _ p0
        replace p1 := stays_below HV9.out _ _ _ p1
        replace p2 := stays_below HV9.out _ _ _ p2
        replace p3 := stays_below HV9.out _ _ _ p3
        replace p4 := stays_below HV9.out _ _ _ p4
        replace aa0 := stays_below HV9.out _ _ _ aa0
        replace aa1 := stays_below HV9.out _ _ _ aa1
        replace xx0 := stays_below HV9.out _ _ _ xx0
        replace xx1 := stays_below HV9.out _ _ _ xx1
        replace gg0 := stays_below HV9.out _ _ _ gg0
        replace gg1 := stays_below HV9.out _ _ _ gg1
        replace S3 := Lib.hid (S3.out.keep HV9.out)
        replace SX := Lib.hid (SX.out.keep HV9.out)
        replace S5 := Lib.hid (S5.out.keep HV9.out)
        clear SX
        go_wp2_with fail
        refine (markBlock_any _ Ag wb.pages.length cg qg wb.pages 1 _ S5.out (by omega) (by omega) (by omega) (by omega)).mono ?_
        rintro e w10 ⟨rfl, hS10, wm10, hm10, hC10⟩
        have HB10 := Lib.hid (hC10.2.2.2 _ _ (bel_t HB9.out hm10) (by omega))
        replace b0 := (hC10.2.1 _ _ (by omega)).trans (stays_below hm10 _ _ _ b0)
        replace b1 := (hC10.2.1 _ _ (by omega)).trans (stays_below hm10 _ _ _ b1)
        replace p0 := (hC10.2.1 _ _ (by omega)).trans (stays_below hm10 _ _ _ p0)
        replace p1 := (hC10.2.1 _ _ (by omega)).trans (stays_below hm10 _ _ _ p1)
        replace p2 := (hC10.2.1 _ _ (by omega)).trans (stays_below hm10 _ _ _ p2)
        replace p3 := (hC10.2.1 _ _ (by omega)).trans (stays_below hm10 _ _ _ p3)
        replace p4 := (hC10.2.1 _ _ (by omega)).trans (stays_below hm10 _ _ _ p4)
        replace aa0 := (hC10.2.1 _ _ (by omega)).trans (stays_below hm10 _ _ _ aa0)
        replace aa1 := (hC10.2.1 _ _ (by omega)).trans (stays_below hm10 _ _ _ aa1)
        replace xx0 := (hC10.2.1 _ _ (by omega)).trans (stays_below hm10 _ _ _ xx0)
        replace xx1 := (hC10.2.1 _ _ (by omega)).trans (stays_below hm10 _ _ _ xx1)
        replace gg0 := (hC10.2.1 _ _ (by omega)).trans (stays_below hm10 _ _ _ gg0)
        replace gg1 := (hC10.2.1 _ _ (by omega)).trans (stays_below hm10 _ _ _ gg1)
        replace S3 := Lib.hid ((S3.out.keep hm10).chg (by omega) hC10)
        replace S5 := Lib.hid hS10
        have hs10 : w9.heap.size ≤ w10.heap.size := by have := hC10.1; have := hm10.size; omega
        clear hS10 hm10 hC10
        have hr1 : ¬ (1 + 5 * (wb.pages.length : Int) < 0) := by omega
        go_wp2_with fail
        refine (heldBlock_any _ _ _ _ _ _ (S5.out.at hng) (by omega) (by omega) (by omega)).mono ?_
        rintro e w11 ⟨rfl, hb11⟩
        have HV11 := Lib.hid (hb11)
        have HB11 := Lib.hid (bel_t HB10.out HV11.out)
        have hs11 : w10.heap.size ≤ w11.heap.size := HV11.out.size
        replace b0 := stays_below HV11.out _ _ _ b0
        replace b1 := stays_below HV11.out _ _ _ b1
        replace p0 := stays_below HV11.out _ _ _ p0
        replace p1 := stays_below HV11.out _ _ _ p1
        replace p2 := stays_below HV11.out _ _ _ p2
        replace p3 := stays_below HV11.out _ _ _ p3
        replace p4 := stays_below HV11.out _ _ _ p4
        replace aa0 := stays_below HV11.out _ _ _ aa0
        replace aa1 := stays_below HV11.out _ _ _ aa1
        replace xx0 := stays_below HV11.out _ _ _ xx0
        replace xx1 := stays_below HV11.out _ _ _ xx1
        replace gg0 := stays_below HV11.out _ _ _ gg0
        replace gg1 := stays_below HV11.out _ _ _ gg1
        replace S3 := Lib.hid (S3.out.keep HV11.out)
        replace S5 := Lib.hid (S5.out.keep HV11.out)
        have zb_11 : w.heap.size < w11.heap.size := block_lt_of_cell b0
        have zp_11 : w.heap.size + 1 < w11.heap.size := block_lt_of_cell p0
        go_upto_region 24 with fail
        go_cut [14, 15] (fun x6 x7 wx => ∃ (g : Nat) (A' : Option Addr) (n' c' q : Nat), x6 = .pointer (some ⟨g, 0, none⟩) ∧ x7 = .int .i64 nx ∧ CutB w11 wx g A' n' c' q wb)
        case first =>
          refine reg_begin (by kernel_rfl) (fun hHeld => ?_)
          refine reg_take 0 80 (v := ?_) rfl rfl (by kernel_rfl) (by kernel_rfl) (by kernel_rfl) (fun _ _ _ h => h) (Or.inl ⟨by rfl, ?_⟩) hHeld ?_
          rotate_left 1
          · intro wS hSw; have hqS := bcellB hSw; go_simp <;> with_reducible rfl
          simp only [put_lit, List.set_cons_zero, List.set_cons_succ]
          refine reg_take 2 82 (v := ?_) rfl rfl (by kernel_rfl) (by kernel_rfl) (by kernel_rfl) (fun _ _ _ h => h) (Or.inl ⟨by rfl, ?_⟩) hHeld ?_
          rotate_left 1
          · intro wS hSw; have hqS := bcellB hSw; go_simp <;> with_reducible rfl
          simp only [put_lit, List.set_cons_zero, List.set_cons_succ]
          refine wpAnyH_ready (rs := [1, 8]) (by kernel_rfl) (by simp) ?_
          refine AllReadyH.cons rfl (fun K hK => ?_) ?_
          · skip
            go_simp
            refine (toBlock_any _ _ _ _ ps _ (HP.out.keep (bel_t HB11.out hHeld)) (by omega)).mono ?_
            rintro e wh1 ⟨g4, rfl, hg4, hR4, hbh1⟩
            have hnh1 : w11.heap.size ≤ wh1.heap.size := Nat.le_trans hHeld.size hbh1.size
            have HQB := Lib.hid hR4
            clear hR4
            go_wp2_with fail
            refine hK.out _ _ ?_ (fun hHeld => ?_)
            · exact reg_call hHeld hbh1 (Nat.le_refl _)
            clear hK K
            (try simp only [put_lit, List.set_cons_zero, List.set_cons_succ])
            refine wpAnyH_ready (rs := [3, 8]) (by kernel_rfl) (by simp) ?_
            refine AllReadyH.cons rfl (fun K hK => ?_) ?_
            · skip
              go_simp
              refine (toPage_any _ _ _ _ _ _).mono ?_
              rintro e wh2 ⟨rfl, hbh2⟩
              have hnh2 : w11.heap.size ≤ wh2.heap.size := Nat.le_trans hHeld.size hbh2.size
              have HQB : Hid (PgRow wh2 g4 n ps) := Lib.hid (by first | exact HQB.out.keep hbh2 | exact (HQB.out.keep (bel_1 _ _)).keep hbh2)
              go_wp2_with fail
              refine hK.out _ _ ?_ (fun hHeld => ?_)
              · exact reg_call hHeld hbh2 (Nat.le_refl _)
              clear hK K
              (try simp only [put_lit, List.set_cons_zero, List.set_cons_succ])
              refine wpAnyH_ready (rs := [4, 8]) (by kernel_rfl) (by simp) ?_
              refine AllReadyH.cons rfl (fun K hK => ?_) ?_
              · skip
                go_simp
                refine (iWriteBlock _ _ _ _ ps _ _ _ _ _ _ (by first | exact HQB.out.at hm | exact (HQB.out.at hm).keep (bel_1 _ _))).mono ?_
                rw [HWB.out]
                simp only []
                rintro e wh3 ⟨v5, rfl, ⟨A5, n5, c5, q5, rfl, hn5, hq5, hS5⟩, hbh3⟩
                have hnh3 : w11.heap.size ≤ wh3.heap.size := Nat.le_trans hHeld.size hbh3.size
                have hqW : w11.heap.size ≤ q5 := Nat.le_trans hHeld.size hq5
                (try simp at hq5)
                obtain ⟨q6, hq6, hT6⟩ := hS5.norm (wh3.heap.size + 5)
                obtain ⟨wE, hwE⟩ : ∃ x, x = wh3.heap.size := ⟨_, rfl⟩
                have hq7 : q6 < wE ∨ n5 = 0 ∧ q6 = wh3.heap.size + 5 := by omega
                have HS6 := Lib.hid hT6
                have hzh3 : wh3.heap.size = wh3.heap.size := rfl
                clear hS5 hT6
                go_wp2_with fail
                refine hK.out _ _ ?_ (fun hHeld => ?_)
                · exact reg_call hHeld hbh3 (Nat.le_refl _)
                clear hK K
                (try simp only [put_lit, List.set_cons_zero, List.set_cons_succ])
                refine reg_take 5 79 (v := ?_) rfl rfl (by kernel_rfl) (by kernel_rfl) (by kernel_rfl) (fun _ _ _ h => h) (Or.inl ⟨by rfl, ?_⟩) hHeld ?_
                rotate_left 1
                · intro wS hSw; go_simp <;> with_reducible rfl
                simp only [put_lit, List.set_cons_zero, List.set_cons_succ]
                refine reg_take 6 85 (v := ?_) rfl rfl (by kernel_rfl) (by kernel_rfl) (by kernel_rfl) (fun _ _ _ h => h) (Or.inl ⟨by rfl, ?_⟩) hHeld ?_
                rotate_left 1
                · intro wS hSw; go_simp <;> with_reducible rfl
                simp only [put_lit, List.set_cons_zero, List.set_cons_succ]
                refine reg_take 7 86 (v := ?_) rfl rfl (by kernel_rfl) (by kernel_rfl) (by kernel_rfl) (fun _ _ _ h => h) (Or.inl ⟨by rfl, ?_⟩) hHeld ?_
                rotate_left 1
                · intro wS hSw; go_simp <;> with_reducible rfl
                simp only [put_lit, List.set_cons_zero, List.set_cons_succ]
                refine wpAnyH_ready (rs := [8]) (by kernel_rfl) (by simp) ?_
                refine AllReadyH.cons rfl (fun K hK => ?_) AllReadyH.nil
                go_simp
                refine hK.out _ _ ?_ (fun hHeld => ?_)
                · exact reg_alloc hHeld (Nat.le_refl _) _
                clear hK K
                (try simp only [put_lit, List.set_cons_zero, List.set_cons_succ])
                refine wpAnyH_ready (rs := [9]) (by kernel_rfl) (by simp) ?_
                refine AllReadyH.cons rfl (fun K hK => ?_) AllReadyH.nil
                go_simp
                refine hK.out _ _ ?_ (fun hHeld => ?_)
                · first | exact reg_swap hHeld (by first | with_reducible assumption | exact Nat.le_refl _ | (simp; done) | (simp; omega)) _ | exact (hHeld.setCell (p := ⟨_, 0, none⟩) (by first | with_reducible assumption | exact Nat.le_refl _ | (simp; done) | (simp; omega)) _).setCell (p := ⟨_, 1, none⟩) (by first | with_reducible assumption | exact Nat.le_refl _ | (simp; done) | (simp; omega)) _
                clear hK K
                (try simp only [put_lit, List.set_cons_zero, List.set_cons_succ])
                refine reg_take 10 15 (v := ?_) rfl rfl (by kernel_rfl) (by kernel_rfl) (by kernel_rfl) (fun _ _ _ h => h) (Or.inl ⟨by rfl, ?_⟩) hHeld ?_
                rotate_left 1
                · intro wS hSw; go_simp <;> with_reducible rfl
                simp only [put_lit, List.set_cons_zero, List.set_cons_succ]
                refine wpAnyH_done (by kernel_rfl) ?_ _
                obtain ⟨X, eX⟩ := leafW hHeld
                have x0 : X.cell? ⟨wh3.heap.size, 0, none⟩ = some (.int .i64 wb.wear) := by rw [eX]; go_simp
                have x1 : X.cell? ⟨wh3.heap.size, 1, none⟩ = some (.slice A5 n5 c5) := by rw [eX]; go_simp
                have hGX : wh3.heap.size < X.heap.size := block_lt_of_cell x0
                have S6 : Sl X A5 n5 q6 wb.pages := by rw [eX]; first | exact HS6.out.keep (bel_1 _ _) | exact (HS6.out.setOther (a := ⟨wh3.heap.size, 0, none⟩) (by first | omega | (simp; omega)) _).setOther (a := ⟨wh3.heap.size, 1, none⟩) (by first | omega | (simp; omega)) _
                have hqX : q6 < X.heap.size ∨ n5 = 0 := by rcases S6 with h0 | h0; exact Or.inr h0.1; exact Or.inl h0.2.2.1
                have hXs : wE ≤ X.heap.size := by rw [eX, hwE]; first | exact Nat.le_refl _ | (rw [World.size_setCell, World.size_setCell]; exact Nat.le_refl _) | (rw [World.size_alloc]; omega)
                rw [← eX] at hHeld ⊢
                clear eX
                go_wp2_with fail
                go_meet
                exact ⟨wh3.heap.size, A5, n5, c5, q6, rfl, rfl, by first | omega | (simp; omega), hGX, x0, x1, hn5, S6, by omega, by first | omega | (simp; omega), hqX, hHeld⟩
              refine AllReadyH.cons rfl (fun K hK => ?_) AllReadyH.nil
              go_simp
              refine hK.out _ _ ?_ (fun hHeld => ?_)
              · exact reg_alloc hHeld (Nat.le_refl _) _
              clear hK K
              (try simp only [put_lit, List.set_cons_zero, List.set_cons_succ])
              refine wpAnyH_ready (rs := [4]) (by kernel_rfl) (by simp) ?_
              refine AllReadyH.cons rfl (fun K hK => ?_) AllReadyH.nil
              go_simp
              refine (iWriteBlock _ _ _ _ ps _ _ _ _ _ _ (by first | exact HQB.out.at hm | exact (HQB.out.at hm).keep (bel_1 _ _))).mono ?_
              rw [HWB.out]
              simp only []
              rintro e wh7 ⟨v5, rfl, ⟨A5, n5, c5, q5, rfl, hn5, hq5, hS5⟩, hbh7⟩
              have hnh7 : w11.heap.size ≤ wh7.heap.size := Nat.le_trans hHeld.size hbh7.size
              have hqW : w11.heap.size ≤ q5 := Nat.le_trans hHeld.size hq5
              (try simp at hq5)
              obtain ⟨q6, hq6, hT6⟩ := hS5.norm (wh7.heap.size + 5)
              obtain ⟨wE, hwE⟩ : ∃ x, x = wh7.heap.size := ⟨_, rfl⟩
              have hq7 : q6 < wE ∨ n5 = 0 ∧ q6 = wh7.heap.size + 5 := by omega
              have HS6 := Lib.hid hT6
              have hzh7 : wh7.heap.size = wh7.heap.size := rfl
              clear hS5 hT6
              have hGah7 : ∀ o, wh7.cell? ⟨wh2.heap.size, o, none⟩ = (#[.int .i64 0, .slice none 0 0] : Array Value)[o]? := fun o => ((bcell hbh7).1 _ o (by simp)).trans (by simp [go_sem])
              have hGah7f : ∀ o, wh7.frozen? ⟨wh2.heap.size, o, none⟩ = false := fun o => ((bcell hbh7).2 _ o (by simp)).trans (by simp [go_sem])
              have hGah7s : wh2.heap.size < wh7.heap.size := Nat.lt_of_lt_of_le (by simp) hbh7.size
              go_wp2_with fail
              refine hK.out _ _ ?_ (fun hHeld => ?_)
              · exact reg_call hHeld hbh7 (Nat.le_refl _)
              clear hK K
              (try simp only [put_lit, List.set_cons_zero, List.set_cons_succ])
              refine reg_take 5 79 (v := ?_) rfl rfl (by kernel_rfl) (by kernel_rfl) (by kernel_rfl) (fun _ _ _ h => h) (Or.inl ⟨by rfl, ?_⟩) hHeld ?_
              rotate_left 1
              · intro wS hSw; go_simp <;> with_reducible rfl
              simp only [put_lit, List.set_cons_zero, List.set_cons_succ]
              refine reg_take 6 85 (v := ?_) rfl rfl (by kernel_rfl) (by kernel_rfl) (by kernel_rfl) (fun _ _ _ h => h) (Or.inl ⟨by rfl, ?_⟩) hHeld ?_
              rotate_left 1
              · intro wS hSw; go_simp <;> with_reducible rfl
              simp only [put_lit, List.set_cons_zero, List.set_cons_succ]
              refine reg_take 7 86 (v := ?_) rfl rfl (by kernel_rfl) (by kernel_rfl) (by kernel_rfl) (fun _ _ _ h => h) (Or.inl ⟨by rfl, ?_⟩) hHeld ?_
              rotate_left 1
              · intro wS hSw; go_simp <;> with_reducible rfl
              simp only [put_lit, List.set_cons_zero, List.set_cons_succ]
              refine wpAnyH_ready (rs := [9]) (by kernel_rfl) (by simp) ?_
              refine AllReadyH.cons rfl (fun K hK => ?_) AllReadyH.nil
              go_simp
              refine hK.out _ _ ?_ (fun hHeld => ?_)
              · first | exact reg_swap hHeld (by first | with_reducible assumption | exact Nat.le_refl _ | (simp; done) | (simp; omega)) _ | exact (hHeld.setCell (p := ⟨_, 0, none⟩) (by first | with_reducible assumption | exact Nat.le_refl _ | (simp; done) | (simp; omega)) _).setCell (p := ⟨_, 1, none⟩) (by first | with_reducible assumption | exact Nat.le_refl _ | (simp; done) | (simp; omega)) _
              clear hK K
              (try simp only [put_lit, List.set_cons_zero, List.set_cons_succ])
              refine reg_take 10 15 (v := ?_) rfl rfl (by kernel_rfl) (by kernel_rfl) (by kernel_rfl) (fun _ _ _ h => h) (Or.inl ⟨by rfl, ?_⟩) hHeld ?_
              rotate_left 1
              · intro wS hSw; go_simp <;> with_reducible rfl
              simp only [put_lit, List.set_cons_zero, List.set_cons_succ]
              refine wpAnyH_done (by kernel_rfl) ?_ _
              obtain ⟨X, eX⟩ := leafW hHeld
              have x0 : X.cell? ⟨wh2.heap.size, 0, none⟩ = some (.int .i64 wb.wear) := by rw [eX]; go_simp
              have x1 : X.cell? ⟨wh2.heap.size, 1, none⟩ = some (.slice A5 n5 c5) := by rw [eX]; go_simp
              have hGX : wh2.heap.size < X.heap.size := block_lt_of_cell x0
              have S6 : Sl X A5 n5 q6 wb.pages := by rw [eX]; first | exact HS6.out.keep (bel_1 _ _) | exact (HS6.out.setOther (a := ⟨wh2.heap.size, 0, none⟩) (by first | omega | (simp; omega)) _).setOther (a := ⟨wh2.heap.size, 1, none⟩) (by first | omega | (simp; omega)) _
              have hqX : q6 < X.heap.size ∨ n5 = 0 := by rcases S6 with h0 | h0; exact Or.inr h0.1; exact Or.inl h0.2.2.1
              have hXs : wE ≤ X.heap.size := by rw [eX, hwE]; first | exact Nat.le_refl _ | (rw [World.size_setCell, World.size_setCell]; exact Nat.le_refl _) | (rw [World.size_alloc]; omega)
              rw [← eX] at hHeld ⊢
              clear eX
              go_wp2_with fail
              go_meet
              exact ⟨wh2.heap.size, A5, n5, c5, q6, rfl, rfl, by first | omega | (simp; omega), hGX, x0, x1, hn5, S6, by omega, by first | omega | (simp; omega), hqX, hHeld⟩
            refine AllReadyH.cons rfl (fun K hK => ?_) AllReadyH.nil
            go_simp
            refine hK.out _ _ ?_ (fun hHeld => ?_)
            · exact reg_alloc hHeld (Nat.le_refl _) _
            clear hK K
            (try simp only [put_lit, List.set_cons_zero, List.set_cons_succ])
            refine wpAnyH_ready (rs := [3]) (by kernel_rfl) (by simp) ?_
            refine AllReadyH.cons rfl (fun K hK => ?_) AllReadyH.nil
            go_simp
            refine (toPage_any _ _ _ _ _ _).mono ?_
            rintro e wh10 ⟨rfl, hbh10⟩
            have hnh10 : w11.heap.size ≤ wh10.heap.size := Nat.le_trans hHeld.size hbh10.size
            have HQB : Hid (PgRow wh10 g4 n ps) := Lib.hid (by first | exact HQB.out.keep hbh10 | exact (HQB.out.keep (bel_1 _ _)).keep hbh10)
            have hGah10 : ∀ o, wh10.cell? ⟨wh1.heap.size, o, none⟩ = (#[.int .i64 0, .slice none 0 0] : Array Value)[o]? := fun o => ((bcell hbh10).1 _ o (by simp)).trans (by simp [go_sem])
            have hGah10f : ∀ o, wh10.frozen? ⟨wh1.heap.size, o, none⟩ = false := fun o => ((bcell hbh10).2 _ o (by simp)).trans (by simp [go_sem])
            have hGah10s : wh1.heap.size < wh10.heap.size := Nat.lt_of_lt_of_le (by simp) hbh10.size
            go_wp2_with fail
            refine hK.out _ _ ?_ (fun hHeld => ?_)
            · exact reg_call hHeld hbh10 (Nat.le_refl _)
            clear hK K
            (try simp only [put_lit, List.set_cons_zero, List.set_cons_succ])
            refine wpAnyH_ready (rs := [4]) (by kernel_rfl) (by simp) ?_
            refine AllReadyH.cons rfl (fun K hK => ?_) AllReadyH.nil
            go_simp
            refine (iWriteBlock _ _ _ _ ps _ _ _ _ _ _ (by first | exact HQB.out.at hm | exact (HQB.out.at hm).keep (bel_1 _ _))).mono ?_
            rw [HWB.out]
            simp only []
            rintro e wh11 ⟨v5, rfl, ⟨A5, n5, c5, q5, rfl, hn5, hq5, hS5⟩, hbh11⟩
            have hnh11 : w11.heap.size ≤ wh11.heap.size := Nat.le_trans hHeld.size hbh11.size
            have hqW : w11.heap.size ≤ q5 := Nat.le_trans hHeld.size hq5
            (try simp at hq5)
            obtain ⟨q6, hq6, hT6⟩ := hS5.norm (wh11.heap.size + 5)
            obtain ⟨wE, hwE⟩ : ∃ x, x = wh11.heap.size := ⟨_, rfl⟩
            have hq7 : q6 < wE ∨ n5 = 0 ∧ q6 = wh11.heap.size + 5 := by omega
            have HS6 := Lib.hid hT6
            have hzh11 : wh11.heap.size = wh11.heap.size := rfl
            clear hS5 hT6
            have hGah11 : ∀ o, wh11.cell? ⟨wh1.heap.size, o, none⟩ = (#[.int .i64 0, .slice none 0 0] : Array Value)[o]? := fun o => ((bcell hbh11).1 _ o hGah10s).trans (hGah10 o)
            have hGah11f : ∀ o, wh11.frozen? ⟨wh1.heap.size, o, none⟩ = false := fun o => ((bcell hbh11).2 _ o hGah10s).trans (hGah10f o)
            have hGah11s : wh1.heap.size < wh11.heap.size := Nat.lt_of_lt_of_le hGah10s hbh11.size
            go_wp2_with fail
            refine hK.out _ _ ?_ (fun hHeld => ?_)
            · exact reg_call hHeld hbh11 (Nat.le_refl _)
            clear hK K
            (try simp only [put_lit, List.set_cons_zero, List.set_cons_succ])
            refine reg_take 5 79 (v := ?_) rfl rfl (by kernel_rfl) (by kernel_rfl) (by kernel_rfl) (fun _ _ _ h => h) (Or.inl ⟨by rfl, ?_⟩) hHeld ?_
            rotate_left 1
            · intro wS hSw; go_simp <;> with_reducible rfl
            simp only [put_lit, List.set_cons_zero, List.set_cons_succ]
            refine reg_take 6 85 (v := ?_) rfl rfl (by kernel_rfl) (by kernel_rfl) (by kernel_rfl) (fun _ _ _ h => h) (Or.inl ⟨by rfl, ?_⟩) hHeld ?_
            rotate_left 1
            · intro wS hSw; go_simp <;> with_reducible rfl
            simp only [put_lit, List.set_cons_zero, List.set_cons_succ]
            refine reg_take 7 86 (v := ?_) rfl rfl (by kernel_rfl) (by kernel_rfl) (by kernel_rfl) (fun _ _ _ h => h) (Or.inl ⟨by rfl, ?_⟩) hHeld ?_
            rotate_left 1
            · intro wS hSw; go_simp <;> with_reducible rfl
            simp only [put_lit, List.set_cons_zero, List.set_cons_succ]
            refine wpAnyH_ready (rs := [9]) (by kernel_rfl) (by simp) ?_
            refine AllReadyH.cons rfl (fun K hK => ?_) AllReadyH.nil
            go_simp
            refine hK.out _ _ ?_ (fun hHeld => ?_)
            · first | exact reg_swap hHeld (by first | with_reducible assumption | exact Nat.le_refl _ | (simp; done) | (simp; omega)) _ | exact (hHeld.setCell (p := ⟨_, 0, none⟩) (by first | with_reducible assumption | exact Nat.le_refl _ | (simp; done) | (simp; omega)) _).setCell (p := ⟨_, 1, none⟩) (by first | with_reducible assumption | exact Nat.le_refl _ | (simp; done) | (simp; omega)) _
            clear hK K
            (try simp only [put_lit, List.set_cons_zero, List.set_cons_succ])
            refine reg_take 10 15 (v := ?_) rfl rfl (by kernel_rfl) (by kernel_rfl) (by kernel_rfl) (fun _ _ _ h => h) (Or.inl ⟨by rfl, ?_⟩) hHeld ?_
            rotate_left 1
            · intro wS hSw; go_simp <;> with_reducible rfl
            simp only [put_lit, List.set_cons_zero, List.set_cons_succ]
            refine wpAnyH_done (by kernel_rfl) ?_ _
            obtain ⟨X, eX⟩ := leafW hHeld
            have x0 : X.cell? ⟨wh1.heap.size, 0, none⟩ = some (.int .i64 wb.wear) := by rw [eX]; go_simp
            have x1 : X.cell? ⟨wh1.heap.size, 1, none⟩ = some (.slice A5 n5 c5) := by rw [eX]; go_simp
            have hGX : wh1.heap.size < X.heap.size := block_lt_of_cell x0
            have S6 : Sl X A5 n5 q6 wb.pages := by rw [eX]; first | exact HS6.out.keep (bel_1 _ _) | exact (HS6.out.setOther (a := ⟨wh1.heap.size, 0, none⟩) (by first | omega | (simp; omega)) _).setOther (a := ⟨wh1.heap.size, 1, none⟩) (by first | omega | (simp; omega)) _
            have hqX : q6 < X.heap.size ∨ n5 = 0 := by rcases S6 with h0 | h0; exact Or.inr h0.1; exact Or.inl h0.2.2.1
            have hXs : wE ≤ X.heap.size := by rw [eX, hwE]; first | exact Nat.le_refl _ | (rw [World.size_setCell, World.size_setCell]; exact Nat.le_refl _) | (rw [World.size_alloc]; omega)
            rw [← eX] at hHeld ⊢
            clear eX
            go_wp2_with fail
            go_meet
            exact ⟨wh1.heap.size, A5, n5, c5, q6, rfl, rfl, by first | omega | (simp; omega), hGX, x0, x1, hn5, S6, by omega, by first | omega | (simp; omega), hqX, hHeld⟩
          refine AllReadyH.cons rfl (fun K hK => ?_) AllReadyH.nil
          go_simp
          refine hK.out _ _ ?_ (fun hHeld => ?_)
          · exact reg_alloc hHeld (Nat.le_refl _) _
          clear hK K
          (try simp only [put_lit, List.set_cons_zero, List.set_cons_succ])
          refine wpAnyH_ready (rs := [1]) (by kernel_rfl) (by simp) ?_
          refine AllReadyH.cons rfl (fun K hK => ?_) AllReadyH.nil
          go_simp
          refine (toBlock_any _ _ _ _ ps _ (HP.out.keep (bel_t HB11.out hHeld)) (by omega)).mono ?_
          rintro e wh14 ⟨g4, rfl, hg4, hR4, hbh14⟩
          have hnh14 : w11.heap.size ≤ wh14.heap.size := Nat.le_trans hHeld.size hbh14.size
          have HQB := Lib.hid hR4
          clear hR4
          have hGah14 : ∀ o, wh14.cell? ⟨w11.heap.size, o, none⟩ = (#[.int .i64 0, .slice none 0 0] : Array Value)[o]? := fun o => ((bcell hbh14).1 _ o (by simp)).trans (by simp [go_sem])
          have hGah14f : ∀ o, wh14.frozen? ⟨w11.heap.size, o, none⟩ = false := fun o => ((bcell hbh14).2 _ o (by simp)).trans (by simp [go_sem])
          have hGah14s : w11.heap.size < wh14.heap.size := Nat.lt_of_lt_of_le (by simp) hbh14.size
          go_wp2_with fail
          refine hK.out _ _ ?_ (fun hHeld => ?_)
          · exact reg_call hHeld hbh14 (Nat.le_refl _)
          clear hK K
          (try simp only [put_lit, List.set_cons_zero, List.set_cons_succ])
          refine wpAnyH_ready (rs := [3]) (by kernel_rfl) (by simp) ?_
          refine AllReadyH.cons rfl (fun K hK => ?_) AllReadyH.nil
          go_simp
          refine (toPage_any _ _ _ _ _ _).mono ?_
          rintro e wh15 ⟨rfl, hbh15⟩
          have hnh15 : w11.heap.size ≤ wh15.heap.size := Nat.le_trans hHeld.size hbh15.size
          have HQB : Hid (PgRow wh15 g4 n ps) := Lib.hid (by first | exact HQB.out.keep hbh15 | exact (HQB.out.keep (bel_1 _ _)).keep hbh15)
          have hGah15 : ∀ o, wh15.cell? ⟨w11.heap.size, o, none⟩ = (#[.int .i64 0, .slice none 0 0] : Array Value)[o]? := fun o => ((bcell hbh15).1 _ o hGah14s).trans (hGah14 o)
          have hGah15f : ∀ o, wh15.frozen? ⟨w11.heap.size, o, none⟩ = false := fun o => ((bcell hbh15).2 _ o hGah14s).trans (hGah14f o)
          have hGah15s : w11.heap.size < wh15.heap.size := Nat.lt_of_lt_of_le hGah14s hbh15.size
          go_wp2_with fail
          refine hK.out _ _ ?_ (fun hHeld => ?_)
          · exact reg_call hHeld hbh15 (Nat.le_refl _)
          clear hK K
          (try simp only [put_lit, List.set_cons_zero, List.set_cons_succ])
          refine wpAnyH_ready (rs := [4]) (by kernel_rfl) (by simp) ?_
          refine AllReadyH.cons rfl (fun K hK => ?_) AllReadyH.nil
          go_simp
          refine (iWriteBlock _ _ _ _ ps _ _ _ _ _ _ (by first | exact HQB.out.at hm | exact (HQB.out.at hm).keep (bel_1 _ _))).mono ?_
          rw [HWB.out]
          simp only []
          rintro e wh16 ⟨v5, rfl, ⟨A5, n5, c5, q5, rfl, hn5, hq5, hS5⟩, hbh16⟩
          have hnh16 : w11.heap.size ≤ wh16.heap.size := Nat.le_trans hHeld.size hbh16.size
          have hqW : w11.heap.size ≤ q5 := Nat.le_trans hHeld.size hq5
          (try simp at hq5)
          obtain ⟨q6, hq6, hT6⟩ := hS5.norm (wh16.heap.size + 5)
          obtain ⟨wE, hwE⟩ : ∃ x, x = wh16.heap.size := ⟨_, rfl⟩
          have hq7 : q6 < wE ∨ n5 = 0 ∧ q6 = wh16.heap.size + 5 := by omega
          have HS6 := Lib.hid hT6
          have hzh16 : wh16.heap.size = wh16.heap.size := rfl
          clear hS5 hT6
          have hGah16 : ∀ o, wh16.cell? ⟨w11.heap.size, o, none⟩ = (#[.int .i64 0, .slice none 0 0] : Array Value)[o]? := fun o => ((bcell hbh16).1 _ o hGah15s).trans (hGah15 o)
          have hGah16f : ∀ o, wh16.frozen? ⟨w11.heap.size, o, none⟩ = false := fun o => ((bcell hbh16).2 _ o hGah15s).trans (hGah15f o)
          have hGah16s : w11.heap.size < wh16.heap.size := Nat.lt_of_lt_of_le hGah15s hbh16.size
          go_wp2_with fail
          refine hK.out _ _ ?_ (fun hHeld => ?_)
          · exact reg_call hHeld hbh16 (Nat.le_refl _)
          clear hK K
          (try simp only [put_lit, List.set_cons_zero, List.set_cons_succ])
          refine reg_take 5 79 (v := ?_) rfl rfl (by kernel_rfl) (by kernel_rfl) (by kernel_rfl) (fun _ _ _ h => h) (Or.inl ⟨by rfl, ?_⟩) hHeld ?_
          rotate_left 1
          · intro wS hSw; go_simp <;> with_reducible rfl
          simp only [put_lit, List.set_cons_zero, List.set_cons_succ]
          refine reg_take 6 85 (v := ?_) rfl rfl (by kernel_rfl) (by kernel_rfl) (by kernel_rfl) (fun _ _ _ h => h) (Or.inl ⟨by rfl, ?_⟩) hHeld ?_
          rotate_left 1
          · intro wS hSw; go_simp <;> with_reducible rfl
          simp only [put_lit, List.set_cons_zero, List.set_cons_succ]
          refine reg_take 7 86 (v := ?_) rfl rfl (by kernel_rfl) (by kernel_rfl) (by kernel_rfl) (fun _ _ _ h => h) (Or.inl ⟨by rfl, ?_⟩) hHeld ?_
          rotate_left 1
          · intro wS hSw; go_simp <;> with_reducible rfl
          simp only [put_lit, List.set_cons_zero, List.set_cons_succ]
          refine wpAnyH_ready (rs := [9]) (by kernel_rfl) (by simp) ?_
          refine AllReadyH.cons rfl (fun K hK => ?_) AllReadyH.nil
          go_simp
          refine hK.out _ _ ?_ (fun hHeld => ?_)
          · first | exact reg_swap hHeld (by first | with_reducible assumption | exact Nat.le_refl _ | (simp; done) | (simp; omega)) _ | exact (hHeld.setCell (p := ⟨_, 0, none⟩) (by first | with_reducible assumption | exact Nat.le_refl _ | (simp; done) | (simp; omega)) _).setCell (p := ⟨_, 1, none⟩) (by first | with_reducible assumption | exact Nat.le_refl _ | (simp; done) | (simp; omega)) _
          clear hK K
          (try simp only [put_lit, List.set_cons_zero, List.set_cons_succ])
          refine reg_take 10 15 (v := ?_) rfl rfl (by kernel_rfl) (by kernel_rfl) (by kernel_rfl) (fun _ _ _ h => h) (Or.inl ⟨by rfl, ?_⟩) hHeld ?_
          rotate_left 1
          · intro wS hSw; go_simp <;> with_reducible rfl
          simp only [put_lit, List.set_cons_zero, List.set_cons_succ]
          refine wpAnyH_done (by kernel_rfl) ?_ _
          obtain ⟨X, eX⟩ := leafW hHeld
          have x0 : X.cell? ⟨w11.heap.size, 0, none⟩ = some (.int .i64 wb.wear) := by rw [eX]; go_simp
          have x1 : X.cell? ⟨w11.heap.size, 1, none⟩ = some (.slice A5 n5 c5) := by rw [eX]; go_simp
          have hGX : w11.heap.size < X.heap.size := block_lt_of_cell x0
          have S6 : Sl X A5 n5 q6 wb.pages := by rw [eX]; first | exact HS6.out.keep (bel_1 _ _) | exact (HS6.out.setOther (a := ⟨w11.heap.size, 0, none⟩) (by first | omega | (simp; omega)) _).setOther (a := ⟨w11.heap.size, 1, none⟩) (by first | omega | (simp; omega)) _
          have hqX : q6 < X.heap.size ∨ n5 = 0 := by rcases S6 with h0 | h0; exact Or.inr h0.1; exact Or.inl h0.2.2.1
          have hXs : wE ≤ X.heap.size := by rw [eX, hwE]; first | exact Nat.le_refl _ | (rw [World.size_setCell, World.size_setCell]; exact Nat.le_refl _) | (rw [World.size_alloc]; omega)
          rw [← eX] at hHeld ⊢
          clear eX
          go_wp2_with fail
          go_meet
          exact ⟨w11.heap.size, A5, n5, c5, q6, rfl, rfl, by first | omega | (simp; omega), hGX, x0, x1, hn5, S6, by omega, by first | omega | (simp; omega), hqX, hHeld⟩
        case rest =>
          obtain ⟨gh, Ah, nh, ch, qh, rfl, rfl, hcb⟩ := hcut
          obtain ⟨w12, rfl⟩ : ∃ x, x = wc := ⟨_, rfl⟩
          obtain ⟨hglh, hgsh, hh0, hh1, hnh, hTh, hqlh, hqgh, hqsh, hbk⟩ := hcb
          have HV12 := Lib.hid (hbk)
          have HB12 := Lib.hid (bel_t HB11.out HV12.out)
          have hs12 : w11.heap.size ≤ w12.heap.size := HV12.out.size
          replace b0 := stays_below HV12.out _ _ _ b0
          replace b1 := stays_below HV12.out _ _ _ b1
          replace p0 := stays_below HV12.out _ _ _ p0
          replace p1 := stays_below HV12.out _ _ _ p1
          replace p2 := stays_below HV12.out _ _ _ p2
          replace p3 := stays_below HV12.out _ _ _ p3
          replace p4 := stays_below HV12.out _ _ _ p4
          replace aa0 := stays_below HV12.out _ _ _ aa0
          replace aa1 := stays_below HV12.out _ _ _ aa1
          replace xx0 := stays_below HV12.out _ _ _ xx0
          replace xx1 := stays_below HV12.out _ _ _ xx1
          replace gg0 := stays_below HV12.out _ _ _ gg0
          replace gg1 := stays_below HV12.out _ _ _ gg1
          replace S3 := Lib.hid (S3.out.keep HV12.out)
          replace S5 := Lib.hid (S5.out.keep HV12.out)
          clear hbk
          have S14 := Lib.hid hTh
          clear hTh
          obtain rfl : nh = wb.pages.length := (S14.out.at hnh).1.symm
          go_wp2_with fail
          refine (eqBlock_refl _ _ _ _ _ _ wb.pages _ (S14.out.at hnh) (S3.out.at hna)).mono ?_
          rintro e w13 ⟨rfl, hb13⟩
          have HV13 := Lib.hid (hb13)
          have HB13 := Lib.hid (bel_t HB12.out HV13.out)
          have hs13 : w12.heap.size ≤ w13.heap.size := HV13.out.size
          replace b0 := stays_below HV13.out _ _ _ b0
          replace b1 := stays_below HV13.out _ _ _ b1
          replace p0 := stays_below HV13.out _ _ _ p0
          replace p1 := stays_below HV13.out _ _ _ p1
          replace p2 := stays_below HV13.out _ _ _ p2
          replace p3 := stays_below HV13.out _ _ _ p3
          replace p4 := stays_below HV13.out _ _ _ p4
          replace aa0 := stays_below HV13.out _ _ _ aa0
          replace aa1 := stays_below HV13.out _ _ _ aa1
          replace xx0 := stays_below HV13.out _ _ _ xx0
          replace xx1 := stays_below HV13.out _ _ _ xx1
          replace gg0 := stays_below HV13.out _ _ _ gg0
          replace gg1 := stays_below HV13.out _ _ _ gg1
          replace hh0 := stays_below HV13.out _ _ _ hh0
          replace hh1 := stays_below HV13.out _ _ _ hh1
          replace S3 := Lib.hid (S3.out.keep HV13.out)
          replace S5 := Lib.hid (S5.out.keep HV13.out)
          replace S14 := Lib.hid (S14.out.keep HV13.out)
          go_wp2_with fail
          refine (heldBlock_any _ _ _ _ _ _ (S5.out.at hng) (by omega) (by omega) (by omega)).mono ?_
          rintro e w14 ⟨rfl, hb14⟩
          have HV14 := Lib.hid (hb14)
          have HB14 := Lib.hid (bel_t HB13.out HV14.out)
          have hs14 : w13.heap.size ≤ w14.heap.size := HV14.out.size
          replace b0 := stays_below HV14.out _ _ _ b0
          replace b1 := stays_below HV14.out _ _ _ b1
          replace p0 := stays_below HV14.out _ _ _ p0
          replace p1 := stays_below HV14.out _ _ _ p1
          replace p2 := stays_below HV14.out _ _ _ p2
          replace p3 := stays_below HV14.out _ _ _ p3
          replace p4 := stays_below HV14.out _ _ _ p4
          replace aa0 := stays_below HV14.out _ _ _ aa0
          replace aa1 := stays_below HV14.out _ _ _ aa1
          replace xx0 := stays_below HV14.out _ _ _ xx0
          replace xx1 := stays_below HV14.out _ _ _ xx1
          replace gg0 := stays_below HV14.out _ _ _ gg0
          replace gg1 := stays_below HV14.out _ _ _ gg1
          replace hh0 := stays_below HV14.out _ _ _ hh0
          replace hh1 := stays_below HV14.out _ _ _ hh1
          replace S3 := Lib.hid (S3.out.keep HV14.out)
          replace S5 := Lib.hid (S5.out.keep HV14.out)
          replace S14 := Lib.hid (S14.out.keep HV14.out)
          go_wp2
          go_ret
          exact ⟨rfl, HB14.out⟩

namespace fnExactWriteBlock
open Go.ChangeShapes Go.WideShapes Go.ChangeAt Go.RowKit
theorem own : ownKnob Try.prog.godebug = none := by kernel_rfl
theorem laidOut : laidOutB Try.prog = true := by kernel_rfl
theorem spec_ok : LawSpec Rows.fnExactWriteBlockSpec 2 := ⟨rfl, fun H ds h => by
  match ds, h with
  | [_, _], _ => exact ⟨rfl, rfl, rfl⟩⟩
theorem rd24 : Try.prog.readableRec 24 = true ∧ 24 < Try.prog.types.size := ⟨by kernel_rfl, of_decide_eq_true (by kernel_rfl)⟩
theorem rd26 : Try.prog.readableRec 26 = true ∧ 26 < Try.prog.types.size := ⟨by kernel_rfl, of_decide_eq_true (by kernel_rfl)⟩
set_option maxRecDepth 100000 in
theorem lifted (os : Os) (started : os.Started) (H : Type) (enc : TypeId × Value → H) :
    ReturnsInHanded {} Try.checked os 3 .any (Rows.fnExactWriteBlockSpec.pre6 enc Try.prog Try.f3 Rows.fnExactWriteBlockRow.domain false) (Rows.fnExactWriteBlockSpec.post enc Try.prog Try.f3 false true false false) := by
  refine law_lifted (C := Try.checked) (tb := 4) own started (by kernel_rfl) Try.func3 laidOut ?_ spec_ok (by rfl) Try.underlying4
    (ChangeSpec.witness6 (enc := enc) (C := Try.checked) false ⟨#[], #[.agg #[.int .i64 0, .slice none 0 0], .agg #[.bool false, .int .i64 0, .int .i64 0, .int .i64 0, .int .i64 0]], []⟩ 8 (by kernel_rfl) (by kernel_rfl) (by kernel_rfl) (by kernel_rfl)) ?_
  · rw [Try.params3]
    intro t ht
    simp only [List.mem_cons, List.not_mem_nil, or_false] at ht
    rcases ht with rfl | rfl
    · exact rd24
    · exact rd26
  · intro W base args ds ps hval0 hA0
    have hval : ∀ (j : Nat) t v, Try.f3.params[j]? = some t → args[j]? = some v → Value.okWide Try.prog W .any base t v := hval0
    have hA : DataW.TrodAll enc Try.prog W 0 (fun _ => true) true Try.f3.params.toList args.toList ds ps := hA0
    clear hval0 hA0
    rw [Try.params3] at hA hval
    obtain ⟨v0, vs0, d0, ds0, p0, q0, hargs, rfl, rfl, h0, r0⟩ := trodAll_cons hA
    obtain ⟨v1, vs1, d1, ds1, p1, q1, rfl, rfl, rfl, h1, r1⟩ := trodAll_cons r0
    obtain ⟨rfl, rfl, rfl⟩ := trodAll_nil r1
    obtain rfl : args = #[v0, v1] := by cases args; simp_all
    obtain ⟨x0, rfl, hx0⟩ := open_B tyLB (hval 0 24 v0 rfl rfl) h0
    obtain ⟨a1, rfl⟩ := open_page Try.underlying26 (by kernel_rfl) (by kernel_rfl) Try.underlying4 Try.underlying3 (hval 1 26 v1 rfl rfl) h1
    exact walk_FnExactWriteBlock x0 a1 W hx0

theorem over : Rows.fnExactWriteBlockRow.holds Try.pinned (OpenSpec.ofChange Rows.fnExactWriteBlockSpec) :=
  OpenClaim.holds_of_wide 3 Try.f3 rfl rfl rfl rfl rfl rfl rfl ⟨rfl, rfl, rfl, rfl, rfl⟩ rfl rfl rfl rfl rfl (by kernel_rfl) Try.func3 (by kernel_rfl)
    (of_decide_eq_true (by kernel_rfl)) (by unfold Func.isWrapper; first | (rw [if_pos (by decide +kernel)]; kernel_rfl) | (rw [if_neg (by decide +kernel)]; exact ⟨rfl, rfl⟩))
    (fun os started H enc _ => lifted os started H enc)

theorem proved : Rows.FnExactWriteBlockSaid :=
  over
#print axioms proved
end fnExactWriteBlock
end Go.Proofs.Ytjphehapnhfecaa
