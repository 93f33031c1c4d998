/-auto What slices.Clone returns on four pages; the copies of a block; NewBlock. -/
import Derived.Test.YteekikaebmkioaaMem4
import Derived.Test.YteekikaebmkioaaBlocks2
import Derived.Test.YteekikaebmkioaaRegs2
import Derived.Lib.SliceRun
namespace Go.Proofs.Yteekikaebmkioaa
open Go.RowKit
set_option linter.unusedVariables false

theorem infoPage : (Try.prog.info? 32).map (fun i => (i.zero, i.size, i.bytes)) = some (some zPage, 5, 40) := by kernel_rfl

theorem nb_1 (x : Int) (h : 0 ≤ x ∧ x ≤ 100) : newBlockF x = ⟨x, [Pg.zero, Pg.zero, Pg.zero, Pg.zero]⟩ := by rw [newBlockF, inB_t h.1 h.2]; rfl
theorem inB_f {x : Int} (h : ¬ (0 ≤ x ∧ x ≤ 100)) : inB x 0 100 = false := by simp only [inB, Bool.and_eq_false_iff, decide_eq_false_iff_not]; omega
theorem nb_2 (x : Int) (h : ¬ (0 ≤ x ∧ x ≤ 100)) : newBlockF x = ⟨0, []⟩ := by rw [newBlockF, inB_f h]; rfl

set_option maxHeartbeats 400000 in
theorem clone_any (A : Option Addr) (c : Nat) (ps : List Pg) (w : World) (h : PgsAt w A 4 ps) :
    Calls Try.prog 76 #[.slice A 4 c] w fun e w' => ∃ g c', e = .returned (.slice (some ⟨g, 0, none⟩) 4 c') ∧ w.heap.size ≤ g ∧ PgRow w' g 4 ps ∧ Below w.heap.size w w' := by
  obtain ⟨hl, hm, hc⟩ := h
  obtain ⟨b, o, rfl, hC⟩ := hc (by omega)
  have HC := Lib.hid hC
  have HL := Lib.hid hl
  clear hc hC hl hm
  have hnil : ∀ w : World, (binOp .eql 23 (.slice (some ⟨b, o, none⟩) 4 c) (.slice none 0 0)).run Try.prog w = .ok (.bool false) w := fun w => Lib.run_eql_slice_nil w 23 32 _ _ _ _ _ Try.underlying23
  go_enter Try.func76, Try.ntmps76
  go_wp2_with (refine wpList_append_pages rfl (.tmp 5) (.tmp 6) 23 rfl 32 Try.underlying23 infoPage w.heap.size b o 4 c ps rfl rfl (heap_new _ _) HL.out (fun i hi => (HC.out i hi).keep (stays_below (bel_1 _ _))) (by omega) (by omega) ?_; intro g c' w1 hg hrow hbel)
  have HB := Lib.hid (hbel _ _ (bel_1 w (.cells #[] 32)) (Nat.le_refl _))
  have HR := Lib.hid hrow
  clear hbel hrow
  go_wp2
  go_ret
  exact ⟨g, c', rfl, hg, HR.out, HB.out⟩

set_option maxHeartbeats 400000 in
theorem iClone (z : Int) (A : Option Addr) (c : Nat) (ps : List Pg) (w : World) (h : PgsAt w A 4 ps) :
    Calls Try.prog 62 #[.agg #[.int .i64 z, .slice A 4 c]] w fun e w' => ∃ g c', e = .returned (.agg #[.int .i64 z, .slice (some ⟨g, 0, none⟩) 4 c']) ∧ w.heap.size ≤ g ∧ PgRow w' g 4 ps ∧ Below w.heap.size w w' := by
  have HP := Lib.hid h
  clear h
  go_enter Try.func62, Try.ntmps62
  go_wp2_with fail
  have HB0 := Lib.hid (bel_2 w (.cells #[.int .i64 z, .slice A 4 c] 25) (.cells #[.int .i64 0, .slice none 0 0] 25))
  have b0 : ((w.alloc (.cells #[.int .i64 z, .slice A 4 c] 25)).alloc (.cells #[.int .i64 0, .slice none 0 0] 25)).cell? ⟨w.heap.size, 0, none⟩ = some (.int .i64 z) := by simp [go_sem]
  have b1 : ((w.alloc (.cells #[.int .i64 z, .slice A 4 c] 25)).alloc (.cells #[.int .i64 0, .slice none 0 0] 25)).cell? ⟨w.heap.size, 1, none⟩ = some (.slice A 4 c) := by simp [go_sem]
  have r0 : ((w.alloc (.cells #[.int .i64 z, .slice A 4 c] 25)).alloc (.cells #[.int .i64 0, .slice none 0 0] 25)).cell? ⟨w.heap.size + 1, 0, none⟩ = some (.int .i64 0) := by simp [go_sem]
  have r1 : ((w.alloc (.cells #[.int .i64 z, .slice A 4 c] 25)).alloc (.cells #[.int .i64 0, .slice none 0 0] 25)).cell? ⟨w.heap.size + 1, 1, none⟩ = some (.slice none 0 0) := by simp [go_sem]
  have f0 : ((w.alloc (.cells #[.int .i64 z, .slice A 4 c] 25)).alloc (.cells #[.int .i64 0, .slice none 0 0] 25)).frozen? ⟨w.heap.size + 1, 0, none⟩ = false := by simp [go_sem]
  have f1 : ((w.alloc (.cells #[.int .i64 z, .slice A 4 c] 25)).alloc (.cells #[.int .i64 0, .slice none 0 0] 25)).frozen? ⟨w.heap.size + 1, 1, none⟩ = false := by simp [go_sem]
  have hW : ((w.alloc (.cells #[.int .i64 z, .slice A 4 c] 25)).alloc (.cells #[.int .i64 0, .slice none 0 0] 25)).heap.size = w.heap.size + 2 := by simp
  generalize ((w.alloc (.cells #[.int .i64 z, .slice A 4 c] 25)).alloc (.cells #[.int .i64 0, .slice none 0 0] 25)) = W at *
  have hs0 : w.heap.size < w.heap.size + 1 := by omega
  refine reg_beginB (B := w.heap.size + 1) (by kernel_rfl) (fun hHeld => ?_)
  refine reg_take 0 3 (v := ?_) rfl rfl (by kernel_rfl) (by kernel_rfl) (by kernel_rfl) (fun _ _ _ h => h) (Or.inl ⟨by rfl, ?_⟩) hHeld ?_
  rotate_left 1
  · intro wS hSw; go_simp <;> with_reducible rfl
  simp only [put_lit, List.set_cons_zero, List.set_cons_succ]
  refine reg_take 1 4 (v := ?_) rfl rfl (by kernel_rfl) (by kernel_rfl) (by kernel_rfl) (fun _ _ _ h => h) (Or.inl ⟨by rfl, ?_⟩) hHeld ?_
  rotate_left 1
  · intro wS hSw; have hqS := bcellB hSw; go_simp <;> with_reducible rfl
  simp only [put_lit, List.set_cons_zero, List.set_cons_succ]
  refine reg_take 2 5 (v := ?_) rfl rfl (by kernel_rfl) (by kernel_rfl) (by kernel_rfl) (fun _ _ _ h => h) (Or.inl ⟨by rfl, ?_⟩) hHeld ?_
  rotate_left 1
  · intro wS hSw; go_simp <;> with_reducible rfl
  simp only [put_lit, List.set_cons_zero, List.set_cons_succ]
  refine reg_take 3 6 (v := ?_) rfl rfl (by kernel_rfl) (by kernel_rfl) (by kernel_rfl) (fun _ _ _ h => h) (Or.inl ⟨by rfl, ?_⟩) hHeld ?_
  rotate_left 1
  · intro wS hSw; have hqS := bcellB hSw; go_simp <;> with_reducible rfl
  simp only [put_lit, List.set_cons_zero, List.set_cons_succ]
  refine wpAnyH_ready (rs := [4]) (by kernel_rfl) (by simp) ?_
  refine AllReadyH.cons rfl (fun K hK => ?_) AllReadyH.nil
  go_simp
  refine (clone_any _ _ ps _ (HP.out.keep (HB0.out.trans (hHeld.mono (by omega))))).mono ?_
  rintro e w1 ⟨g, c', rfl, hg, hR, hb1⟩
  have q0 : w1.cell? ⟨w.heap.size + 1, 0, none⟩ = some (.int .i64 0) := stays_below hb1 _ _ _ r0
  have q1 : w1.cell? ⟨w.heap.size + 1, 1, none⟩ = some (.slice none 0 0) := stays_below hb1 _ _ _ r1
  have k0 : w1.frozen? ⟨w.heap.size + 1, 0, none⟩ = false := ((bcell hb1).2 _ _ (by show _ < W.heap.size; omega)).trans f0
  have k1 : w1.frozen? ⟨w.heap.size + 1, 1, none⟩ = false := ((bcell hb1).2 _ _ (by show _ < W.heap.size; omega)).trans f1
  have HR := Lib.hid hR
  have hg2 : W.heap.size ≤ g := hg
  clear hR
  go_wp2_with fail
  refine hK.out _ _ ?_ (fun hHeld => ?_)
  · exact reg_call hHeld hb1 (by omega)
  clear hK K
  (try simp only [put_lit, List.set_cons_zero, List.set_cons_succ])
  refine reg_take 5 8 (v := ?_) rfl rfl (by kernel_rfl) (by kernel_rfl) (by kernel_rfl) (fun _ _ _ h => h) (Or.inl ⟨by rfl, ?_⟩) hHeld ?_
  rotate_left 1
  · intro wS hSw; go_simp <;> with_reducible rfl
  simp only [put_lit, List.set_cons_zero, List.set_cons_succ]
  refine wpAnyH_ready (rs := [6]) (by kernel_rfl) (by simp) ?_
  refine AllReadyH.cons rfl (fun K hK => ?_) AllReadyH.nil
  go_simp
  refine hK.out _ _ ?_ (fun hHeld => ?_)
  · exact (hHeld.setCell (p := ⟨w.heap.size + 1, 0, none⟩) (Nat.le_refl _) _).setCell (p := ⟨w.heap.size + 1, 1, none⟩) (Nat.le_refl _) _
  clear hK K
  (try simp only [put_lit, List.set_cons_zero, List.set_cons_succ])
  refine wpAnyH_done (by kernel_rfl) ?_ _
  go_wp2
  refine bodyPost_ret (v := .agg #[.int .i64 z, .slice (some ⟨g, 0, none⟩) 4 c']) (by simp [results, Try.results62, go_sem, q0, q1]) rfl ⟨g, c', rfl, by omega, ?_, ?_⟩
  · exact (HR.out.setOther (a := ⟨w.heap.size + 1, 0, none⟩) (by simp; omega) _).setOther (a := ⟨w.heap.size + 1, 1, none⟩) (by simp; omega) _
  · exact HB0.out.trans (hHeld.mono (by omega))

set_option maxHeartbeats 400000 in
theorem sCopy (z : Int) (A : Option Addr) (c : Nat) (ps : List Pg) (w : World) (h : PgsAt w A 4 ps) :
    Calls Try.prog 63 #[.agg #[.int .i64 z, .slice A 4 c]] w fun e w' => ∃ g c', e = .returned (.agg #[.int .i64 z, .slice (some ⟨g, 0, none⟩) 4 c']) ∧ w.heap.size ≤ g ∧ PgRow w' g 4 ps ∧ Below w.heap.size w w' := by
  have HP := Lib.hid h
  clear h
  go_enter Try.func63, Try.ntmps63
  go_wp2_with fail
  have HB0 := Lib.hid (bel_2 w (.cells #[.int .i64 z, .slice A 4 c] 25) (.cells #[.int .i64 0, .slice none 0 0] 25))
  have b0 : ((w.alloc (.cells #[.int .i64 z, .slice A 4 c] 25)).alloc (.cells #[.int .i64 0, .slice none 0 0] 25)).cell? ⟨w.heap.size, 0, none⟩ = some (.int .i64 z) := by simp [go_sem]
  have b1 : ((w.alloc (.cells #[.int .i64 z, .slice A 4 c] 25)).alloc (.cells #[.int .i64 0, .slice none 0 0] 25)).cell? ⟨w.heap.size, 1, none⟩ = some (.slice A 4 c) := by simp [go_sem]
  have r0 : ((w.alloc (.cells #[.int .i64 z, .slice A 4 c] 25)).alloc (.cells #[.int .i64 0, .slice none 0 0] 25)).cell? ⟨w.heap.size + 1, 0, none⟩ = some (.int .i64 0) := by simp [go_sem]
  have r1 : ((w.alloc (.cells #[.int .i64 z, .slice A 4 c] 25)).alloc (.cells #[.int .i64 0, .slice none 0 0] 25)).cell? ⟨w.heap.size + 1, 1, none⟩ = some (.slice none 0 0) := by simp [go_sem]
  have f0 : ((w.alloc (.cells #[.int .i64 z, .slice A 4 c] 25)).alloc (.cells #[.int .i64 0, .slice none 0 0] 25)).frozen? ⟨w.heap.size + 1, 0, none⟩ = false := by simp [go_sem]
  have f1 : ((w.alloc (.cells #[.int .i64 z, .slice A 4 c] 25)).alloc (.cells #[.int .i64 0, .slice none 0 0] 25)).frozen? ⟨w.heap.size + 1, 1, none⟩ = false := by simp [go_sem]
  have hW : ((w.alloc (.cells #[.int .i64 z, .slice A 4 c] 25)).alloc (.cells #[.int .i64 0, .slice none 0 0] 25)).heap.size = w.heap.size + 2 := by simp
  generalize ((w.alloc (.cells #[.int .i64 z, .slice A 4 c] 25)).alloc (.cells #[.int .i64 0, .slice none 0 0] 25)) = W at *
  have hs0 : w.heap.size < w.heap.size + 1 := by omega
  obtain ⟨hl, hm, hc⟩ := HP.out
  obtain ⟨b, o, rfl, hC⟩ := hc (by omega)
  have HC := Lib.hid hC
  have HL := Lib.hid hl
  clear hc hC hl hm
  refine reg_beginB (B := w.heap.size + 1) (by kernel_rfl) (fun hHeld => ?_)
  refine reg_take 0 3 (v := ?_) rfl rfl (by kernel_rfl) (by kernel_rfl) (by kernel_rfl) (fun _ _ _ h => h) (Or.inl ⟨by rfl, ?_⟩) hHeld ?_
  rotate_left 1
  · intro wS hSw; go_simp <;> with_reducible rfl
  simp only [put_lit, List.set_cons_zero, List.set_cons_succ]
  refine reg_take 1 4 (v := ?_) rfl rfl (by kernel_rfl) (by kernel_rfl) (by kernel_rfl) (fun _ _ _ h => h) (Or.inl ⟨by rfl, ?_⟩) hHeld ?_
  rotate_left 1
  · intro wS hSw; have hqS := bcellB hSw; go_simp <;> with_reducible rfl
  simp only [put_lit, List.set_cons_zero, List.set_cons_succ]
  refine reg_take 3 6 (v := ?_) rfl rfl (by kernel_rfl) (by kernel_rfl) (by kernel_rfl) (fun _ _ _ h => h) (Or.inl ⟨by rfl, ?_⟩) hHeld ?_
  rotate_left 1
  · intro wS hSw; go_simp <;> with_reducible rfl
  simp only [put_lit, List.set_cons_zero, List.set_cons_succ]
  refine reg_take 4 7 (v := ?_) rfl rfl (by kernel_rfl) (by kernel_rfl) (by kernel_rfl) (fun _ _ _ h => h) (Or.inl ⟨by rfl, ?_⟩) hHeld ?_
  rotate_left 1
  · intro wS hSw; have hqS := bcellB hSw; go_simp <;> with_reducible rfl
  simp only [put_lit, List.set_cons_zero, List.set_cons_succ]
  refine wpAnyH_ready (rs := [2]) (by kernel_rfl) (by simp) ?_
  refine AllReadyH.cons rfl (fun K hK => ?_) AllReadyH.nil
  go_simp
  refine hK.out _ _ ?_ (fun hHeld => ?_)
  · exact reg_alloc hHeld (by omega) _
  clear hK K
  (try simp only [put_lit, List.set_cons_zero, List.set_cons_succ])
  refine wpAnyH_ready (rs := [5]) (by kernel_rfl) (by simp) ?_
  refine AllReadyH.cons rfl (fun K hK => ?_) AllReadyH.nil
  refine step_append_pages rfl 8 rfl (.tmp 5) (.tmp 7) 23 rfl 32 Try.underlying23 infoPage W.heap.size b o 4 c ps (by simp [Act.eval]) (by simp [Act.eval]) (heap_new _ _) HL.out (fun i hi => (HC.out i hi).keep (stays_below (HB0.out.trans (hHeld.mono (by omega))))) (by omega) (by omega) ?_
  intro g c' w1 hg hrow hbel
  have hb1 := hbel _ _ hHeld (by omega)
  have HX := Lib.hid (hbel W.heap.size W ((Below.refl _ _).drew.alloc (Nat.le_refl _) _) (Nat.le_refl _))
  have q0 : w1.cell? ⟨w.heap.size + 1, 0, none⟩ = some (.int .i64 0) := stays_below HX.out _ _ _ r0
  have q1 : w1.cell? ⟨w.heap.size + 1, 1, none⟩ = some (.slice none 0 0) := stays_below HX.out _ _ _ r1
  have k0 : w1.frozen? ⟨w.heap.size + 1, 0, none⟩ = false := ((bcell HX.out).2 _ _ (by omega)).trans f0
  have k1 : w1.frozen? ⟨w.heap.size + 1, 1, none⟩ = false := ((bcell HX.out).2 _ _ (by omega)).trans f1
  have HR := Lib.hid hrow
  clear hrow hbel
  (try simp only [put_lit, List.set_cons_zero, List.set_cons_succ])
  refine hK.out _ _ ?_ (fun hHeld => ?_)
  · exact hb1
  clear hK K
  (try simp only [put_lit, List.set_cons_zero, List.set_cons_succ])
  refine reg_take 6 9 (v := ?_) rfl rfl (by kernel_rfl) (by kernel_rfl) (by kernel_rfl) (fun _ _ _ h => h) (Or.inl ⟨by rfl, ?_⟩) hHeld ?_
  rotate_left 1
  · intro wS hSw; go_simp <;> with_reducible rfl
  simp only [put_lit, List.set_cons_zero, List.set_cons_succ]
  refine wpAnyH_ready (rs := [7]) (by kernel_rfl) (by simp) ?_
  refine AllReadyH.cons rfl (fun K hK => ?_) AllReadyH.nil
  go_simp
  refine hK.out _ _ ?_ (fun hHeld => ?_)
  · exact (hHeld.setCell (p := ⟨w.heap.size + 1, 0, none⟩) (Nat.le_refl _) _).setCell (p := ⟨w.heap.size + 1, 1, none⟩) (Nat.le_refl _) _
  clear hK K
  (try simp only [put_lit, List.set_cons_zero, List.set_cons_succ])
  refine wpAnyH_done (by kernel_rfl) ?_ _
  go_wp2
  refine bodyPost_ret (v := .agg #[.int .i64 z, .slice (some ⟨g, 0, none⟩) 4 c']) (by simp [results, Try.results63, go_sem, q0, q1]) rfl ⟨g, c', rfl, by omega, ?_, ?_⟩
  · exact (HR.out.setOther (a := ⟨w.heap.size + 1, 0, none⟩) (by simp; omega) _).setOther (a := ⟨w.heap.size + 1, 1, none⟩) (by simp; omega) _
  · exact HB0.out.trans (hHeld.mono (by omega))

set_option maxHeartbeats 400000 in
theorem iNewBlock (x : Int) (w : World) :
    Calls Try.prog 64 #[.int .i64 x] w fun e w' => ∃ v, e = .returned v ∧ BlkOut w w' (newBlockF x) v ∧ Below w.heap.size w w' := by
  have hmk : ∀ w, (Instr.makeSlice 23 (.int .i64 4) (.int .i64 4)).run Try.prog w = .ok (.slice (some ⟨w.heap.size, 0, none⟩) 4 4) (w.alloc (.cells (madeCells #[.bool false, .int .i64 0, .int .i64 0, .int .i64 0, .int .i64 0] (4 * 5)) 32)) := make_row (P := Try.prog) (t := 23) (e := 32) (size := 5) (bytes := 40) (z := zPage) Try.underlying23 infoPage 4 (by omega) (by omega)
  by_cases hx : 0 ≤ x ∧ x ≤ 100
  · have HF := Lib.hid (nb_1 x hx)
    have hin := inB_t hx.1 hx.2
    obtain ⟨h0, h1⟩ := hx
    go_enter Try.func64, Try.ntmps64
    go_wp2
    refine bodyPost_ret (v := .agg #[.int .i64 x, .slice (some ⟨w.heap.size + 1, 0, none⟩) 4 4]) (by simp [results, Try.results64, go_sem]) rfl ⟨_, rfl, ?_, bel_2 _ _ _⟩
    rw [HF.out]
    refine ⟨some ⟨w.heap.size + 1, 0, none⟩, 4, 4, w.heap.size + 1, rfl, by omega, by omega, Or.inr ⟨rfl, ?_⟩⟩
    have h := pgrow_made (w.alloc (.cells #[.int .i64 x, .slice (some ⟨w.heap.size + 1, 0, none⟩) 4 4] 25)) 4 32
    rw [World.size_alloc] at h
    exact h
  · have HF := Lib.hid (nb_2 x hx)
    have hin := inB_f hx
    by_cases h0 : x < 0
    all_goals (try have h1 : 100 < x := by omega)
    all_goals clear hx
    all_goals
      go_enter Try.func64, Try.ntmps64
      go_wp2
      refine bodyPost_ret (v := .agg #[.int .i64 0, .slice none 0 0]) (by simp [results, Try.results64, go_sem]) rfl ⟨_, rfl, ?_, bel_1 _ _⟩
      rw [HF.out]
      exact ⟨none, 0, 0, w.heap.size, rfl, by omega, Nat.le_refl _, Or.inl ⟨rfl, rfl⟩⟩

set_option maxHeartbeats 400000 in
theorem sNewBlock (x : Int) (w : World) :
    Calls Try.prog 65 #[.int .i64 x] w fun e w' => ∃ v, e = .returned v ∧ BlkOut w w' (newBlockF x) v ∧ Below w.heap.size w w' := by
  have hmk : ∀ w, (Instr.makeSlice 23 (.int .i64 4) (.int .i64 4)).run Try.prog w = .ok (.slice (some ⟨w.heap.size, 0, none⟩) 4 4) (w.alloc (.cells (madeCells #[.bool false, .int .i64 0, .int .i64 0, .int .i64 0, .int .i64 0] (4 * 5)) 32)) := make_row (P := Try.prog) (t := 23) (e := 32) (size := 5) (bytes := 40) (z := zPage) Try.underlying23 infoPage 4 (by omega) (by omega)
  by_cases hx : 0 ≤ x ∧ x ≤ 100
  · have HF := Lib.hid (nb_1 x hx)
    have hin := inB_t hx.1 hx.2
    obtain ⟨h0, h1⟩ := hx
    go_enter Try.func65, Try.ntmps65
    go_wp2_with (go_at_call 59; refine (l1In_any _ _ _ _).mono ?_; rintro e w' ⟨rfl, rfl⟩)
    refine bodyPost_ret (v := .agg #[.int .i64 x, .slice (some ⟨w.heap.size + 1, 0, none⟩) 4 4]) (by simp [results, Try.results65, go_sem]) rfl ⟨_, rfl, ?_, bel_2 _ _ _⟩
    rw [HF.out]
    refine ⟨some ⟨w.heap.size + 1, 0, none⟩, 4, 4, w.heap.size + 1, rfl, by omega, by omega, Or.inr ⟨rfl, ?_⟩⟩
    have h := pgrow_made (w.alloc (.cells #[.int .i64 x, .slice (some ⟨w.heap.size + 1, 0, none⟩) 4 4] 25)) 4 32
    rw [World.size_alloc] at h
    exact h
  · have HF := Lib.hid (nb_2 x hx)
    have hin := inB_f hx
    skip
    go_enter Try.func65, Try.ntmps65
    go_wp2_with (go_at_call 59; refine (l1In_any _ _ _ _).mono ?_; rintro e w' ⟨rfl, rfl⟩)
    refine bodyPost_ret (v := .agg #[.int .i64 0, .slice none 0 0]) (by simp [results, Try.results65, go_sem]) rfl ⟨_, rfl, ?_, bel_1 _ _⟩
    rw [HF.out]
    exact ⟨none, 0, 0, w.heap.size, rfl, by omega, Nat.le_refl _, Or.inl ⟨rfl, rfl⟩⟩

end Go.Proofs.Yteekikaebmkioaa
