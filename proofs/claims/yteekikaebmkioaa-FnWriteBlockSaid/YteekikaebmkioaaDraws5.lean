/- What the draws of the laws on blocks give, for every code. -/
import Derived.Test.YteekikaebmkioaaDrawB
namespace Go.Proofs.Yteekikaebmkioaa
open Go.RowKit
set_option linter.unusedVariables false

/-- some block that can be read -/
def GotB (w : World) (e : Ending) (w' : World) : Prop := ∃ (z : Int) (A' : Option Addr) (m c' : Nat) (ps : List Pg), e = .returned (.agg #[.int .i64 z, .slice A' m c']) ∧ m ≤ c' ∧ m ≤ 4 ∧ PgsAt w' A' m ps ∧ Below w.heap.size w w'
/-- some block that can be read, and some page -/
def GotBP (w : World) (e : Ending) (w' : World) : Prop := ∃ (z : Int) (A' : Option Addr) (m c' : Nat) (ps : List Pg) (p : Pg), e = .returned (.tuple #[.agg #[.int .i64 z, .slice A' m c'], p.val]) ∧ m ≤ c' ∧ m ≤ 4 ∧ PgsAt w' A' m ps ∧ Below w.heap.size w w'

set_option maxHeartbeats 2000000 in
theorem dBlockValid (x : Cd) (w : World) (h : CodeArg w x) : Calls Try.prog 15 #[.slice x.A x.n x.c] w (GotB w) := by
  go_enter Try.func15, Try.ntmps15
  go_wp2_with fail
  refine (open_any x _ (h.keep (bel_1 _ _))).mono ?_
  rintro e w1 ⟨A, n, c, rfl, hR, hb⟩
  simp only [World.size_alloc] at hR ⊢
  have hb0 := bel_t (bel_1 _ _) hb
  obtain ⟨hc1, hf1⟩ := bcell hb
  have hg := hR.lt
  go_wp2_with fail
  refine (block_any _ A n c 0 2 _ hR (by omega) (by omega) (by omega)).mono ?_
  rintro e w2 ⟨z, A', m, c', ps, rfl, hmc, hP, hR2, hK2⟩
  have hc2 := kcell hK2 (b := w.heap.size) (by omega) (by omega)
  have hf2 := kfroz hK2 (b := w.heap.size) (by omega) (by omega)
  have HP := Lib.hid hP
  clear hP hR2
  go_wp2
  refine bodyPost_ret (v := .agg #[.int .i64 z, .slice A' m c']) (by simp [results, Try.results15, go_sem, *]) rfl ⟨z, A', m, c', ps, rfl, hmc, HP.out.2.1, ?_, ?_⟩
  · exact ((HP.out.setLow (a := ⟨w.heap.size, 0, none⟩) (by simp only []; omega) _).setLow (a := ⟨w.heap.size, 1, none⟩) (by simp only []; omega) _).at
  · exact ((hb0.trans (hK2.below (by omega) (by omega))).setCell (p := ⟨w.heap.size, 0, none⟩) (Nat.le_refl _) _).setCell (p := ⟨w.heap.size, 1, none⟩) (Nat.le_refl _) _

set_option maxHeartbeats 2000000 in
theorem dBlockNext (x : Cd) (w : World) (h : CodeArg w x) : Calls Try.prog 19 #[.slice x.A x.n x.c] w (GotB w) := by
  go_enter Try.func19, Try.ntmps19
  go_wp2_with fail
  refine (open_any x _ (h.keep (bel_1 _ _))).mono ?_
  rintro e w1 ⟨A, n, c, rfl, hR, hb⟩
  simp only [World.size_alloc] at hR ⊢
  have hb0 := bel_t (bel_1 _ _) hb
  obtain ⟨hc1, hf1⟩ := bcell hb
  have hg := hR.lt
  go_wp2_with fail
  refine (block_any _ A n c 0 6 _ hR (by omega) (by omega) (by omega)).mono ?_
  rintro e w2 ⟨z, A', m, c', ps, rfl, hmc, hP, hR2, hK2⟩
  have hc2 := kcell hK2 (b := w.heap.size) (by omega) (by omega)
  have hf2 := kfroz hK2 (b := w.heap.size) (by omega) (by omega)
  have HP := Lib.hid hP
  clear hP hR2
  go_wp2
  refine bodyPost_ret (v := .agg #[.int .i64 z, .slice A' m c']) (by simp [results, Try.results19, go_sem, *]) rfl ⟨z, A', m, c', ps, rfl, hmc, HP.out.2.1, ?_, ?_⟩
  · exact ((HP.out.setLow (a := ⟨w.heap.size, 0, none⟩) (by simp only []; omega) _).setLow (a := ⟨w.heap.size, 1, none⟩) (by simp only []; omega) _).at
  · exact ((hb0.trans (hK2.below (by omega) (by omega))).setCell (p := ⟨w.heap.size, 0, none⟩) (Nat.le_refl _) _).setCell (p := ⟨w.heap.size, 1, none⟩) (Nat.le_refl _) _

set_option maxHeartbeats 2000000 in
theorem dEraseBlock (x : Cd) (w : World) (h : CodeArg w x) : Calls Try.prog 27 #[.slice x.A x.n x.c] w (GotB w) := by
  go_enter Try.func27, Try.ntmps27
  go_wp2_with fail
  refine (open_any x _ (h.keep (bel_1 _ _))).mono ?_
  rintro e w1 ⟨A, n, c, rfl, hR, hb⟩
  simp only [World.size_alloc] at hR ⊢
  have hb0 := bel_t (bel_1 _ _) hb
  obtain ⟨hc1, hf1⟩ := bcell hb
  have hg := hR.lt
  go_wp2_with fail
  refine (block_any _ A n c 0 9 _ hR (by omega) (by omega) (by omega)).mono ?_
  rintro e w2 ⟨z, A', m, c', ps, rfl, hmc, hP, hR2, hK2⟩
  have hc2 := kcell hK2 (b := w.heap.size) (by omega) (by omega)
  have hf2 := kfroz hK2 (b := w.heap.size) (by omega) (by omega)
  have HP := Lib.hid hP
  clear hP hR2
  go_wp2
  refine bodyPost_ret (v := .agg #[.int .i64 z, .slice A' m c']) (by simp [results, Try.results27, go_sem, *]) rfl ⟨z, A', m, c', ps, rfl, hmc, HP.out.2.1, ?_, ?_⟩
  · exact ((HP.out.setLow (a := ⟨w.heap.size, 0, none⟩) (by simp only []; omega) _).setLow (a := ⟨w.heap.size, 1, none⟩) (by simp only []; omega) _).at
  · exact ((hb0.trans (hK2.below (by omega) (by omega))).setCell (p := ⟨w.heap.size, 0, none⟩) (Nat.le_refl _) _).setCell (p := ⟨w.heap.size, 1, none⟩) (Nat.le_refl _) _

set_option maxRecDepth 100000 in
set_option maxHeartbeats 4000000 in
theorem dWriteBlock (x : Cd) (w : World) (h : CodeArg w x) : Calls Try.prog 22 #[.slice x.A x.n x.c] w (GotBP w) := by
  go_enter Try.func22, Try.ntmps22
  go_wp2_with fail
  refine (open_any x _ (h.keep (bel_2 _ _ _))).mono ?_
  rintro e w1 ⟨A, n, c, rfl, hR, hb⟩
  simp only [World.size_alloc] at hR ⊢
  have HB0 := Lib.hid (bel_t (bel_2 _ _ _) hb)
  have r0 : w1.cell? ⟨w.heap.size, 0, none⟩ = some (.int .i64 0) := stays_below hb _ _ _ (by simp [go_sem])
  have r1 : w1.cell? ⟨w.heap.size, 1, none⟩ = some (.slice none 0 0) := stays_below hb _ _ _ (by simp [go_sem])
  have p0 : w1.cell? ⟨w.heap.size + 1, 0, none⟩ = some (.bool false) := stays_below hb _ _ _ (by simp [go_sem])
  have p1 : w1.cell? ⟨w.heap.size + 1, 1, none⟩ = some (.int .i64 0) := stays_below hb _ _ _ (by simp [go_sem])
  have p2 : w1.cell? ⟨w.heap.size + 1, 2, none⟩ = some (.int .i64 0) := stays_below hb _ _ _ (by simp [go_sem])
  have p3 : w1.cell? ⟨w.heap.size + 1, 3, none⟩ = some (.int .i64 0) := stays_below hb _ _ _ (by simp [go_sem])
  have p4 : w1.cell? ⟨w.heap.size + 1, 4, none⟩ = some (.int .i64 0) := stays_below hb _ _ _ (by simp [go_sem])
  have f0 : ∀ j, w1.frozen? ⟨w.heap.size, j, none⟩ = false := fun j => ((bcell hb).2 _ _ (by simp; omega)).trans (by simp [go_sem])
  have f1 : ∀ j, w1.frozen? ⟨w.heap.size + 1, j, none⟩ = false := fun j => ((bcell hb).2 _ _ (by simp)).trans (by simp [go_sem])
  have hg := hR.lt
  clear hb
  go_wp2_with fail
  refine (block_any _ A n c 0 9 _ hR (by omega) (by omega) (by omega)).mono ?_
  rintro e w2 ⟨z, A', m, c', ps, rfl, hmc, hP, hR2, hK2⟩
  have hg2 := hR2.lt
  have HB2 := Lib.hid (HB0.out.trans (hK2.below (N := w.heap.size) (by omega) (by omega)))
  replace r0 := (hK2.cell (by omega) (by omega)).trans r0
  replace r1 := (hK2.cell (by omega) (by omega)).trans r1
  replace p0 := (hK2.cell (by omega) (by omega)).trans p0
  replace p1 := (hK2.cell (by omega) (by omega)).trans p1
  replace p2 := (hK2.cell (by omega) (by omega)).trans p2
  replace p3 := (hK2.cell (by omega) (by omega)).trans p3
  replace p4 := (hK2.cell (by omega) (by omega)).trans p4
  replace f0 := fun j => (kfroz hK2 (b := w.heap.size) (by omega) (by omega) j).trans (f0 j)
  replace f1 := fun j => (kfroz hK2 (b := w.heap.size + 1) (by omega) (by omega) j).trans (f1 j)
  have hw12 := hK2.size
  have HP := Lib.hid (hP.keep (bel_1 w2 (.cells #[.int .i64 z, .slice A' m c'] 25)))
  have HR := Lib.hid (hR2.keep ((bel_1 w2 (.cells #[.int .i64 z, .slice A' m c'] 25)).drew))
  clear hP hR2 hK2 hR
  go_wp2_with fail
  have hbx := bel_1 w2 (.cells #[.int .i64 z, .slice A' m c'] 25)
  have b0 : (w2.alloc (.cells #[.int .i64 z, .slice A' m c'] 25)).cell? ⟨w2.heap.size, 0, none⟩ = some (.int .i64 z) := by simp [go_sem]
  have b1 : (w2.alloc (.cells #[.int .i64 z, .slice A' m c'] 25)).cell? ⟨w2.heap.size, 1, none⟩ = some (.slice A' m c') := by simp [go_sem]
  have hzB : w2.heap.size < (w2.alloc (.cells #[.int .i64 z, .slice A' m c'] 25)).heap.size := by simp
  have HB3 := Lib.hid (bel_t HB2.out hbx)
  replace r0 := stays_below hbx _ _ _ r0
  replace r1 := stays_below hbx _ _ _ r1
  replace p0 := stays_below hbx _ _ _ p0
  replace p1 := stays_below hbx _ _ _ p1
  replace p2 := stays_below hbx _ _ _ p2
  replace p3 := stays_below hbx _ _ _ p3
  replace p4 := stays_below hbx _ _ _ p4
  replace f0 := fun j => ((bcell hbx).2 w.heap.size j (by omega)).trans (f0 j)
  replace f1 := fun j => ((bcell hbx).2 (w.heap.size + 1) j (by omega)).trans (f1 j)
  clear hbx
  generalize w2.alloc (.cells #[.int .i64 z, .slice A' m c'] 25) = w3 at *
  refine reg_beginS (S := fun w' => w'.cell? ⟨w2.heap.size, 0, none⟩ = some (.int .i64 z) ∧ w'.cell? ⟨w2.heap.size, 1, none⟩ = some (.slice A' m c')) ⟨b0, b1⟩ (by kernel_rfl) (fun hHeld => ?_)
  refine reg_take 0 10 (v := ?_) rfl rfl (by kernel_rfl) (by kernel_rfl) (by kernel_rfl) (fun _ _ _ h => h) (Or.inl ⟨by rfl, ?_⟩) hHeld ?_
  rotate_left 1
  · intro wS hSw; obtain ⟨q0, q1⟩ := hSw; go_simp <;> with_reducible rfl
  simp only [put_lit, List.set_cons_zero, List.set_cons_succ]
  refine reg_take 1 11 (v := ?_) rfl rfl (by kernel_rfl) (by kernel_rfl) (by kernel_rfl) (fun _ _ _ h => h) (Or.inl ⟨by rfl, ?_⟩) hHeld ?_
  rotate_left 1
  · intro wS hSw; go_simp <;> with_reducible rfl
  simp only [put_lit, List.set_cons_zero, List.set_cons_succ]
  refine wpAnyH_ready (rs := [2]) (by kernel_rfl) (by simp) ?_
  refine AllReadyH.cons rfl (fun K hK => ?_) AllReadyH.nil
  go_simp
  refine (page_any _ A n c 40 9 _ HR.out (by omega) (by omega) (by omega)).mono ?_
  rintro e wq1 ⟨⟨pf, pfi, ppl, pva, pst⟩, rfl, hR6, hK6⟩
  simp only [Pg.val]
  have hK7 : Kp (w.heap.size + 1 + 1) w3 wq1 := ((Kp.refl _ w3).drewN 1).trans hK6
  replace r0 := (hK7.cell (by omega) (by omega)).trans r0
  replace r1 := (hK7.cell (by omega) (by omega)).trans r1
  replace b0 := (hK7.cell (by omega) (by omega)).trans b0
  replace b1 := (hK7.cell (by omega) (by omega)).trans b1
  replace p0 := (hK7.cell (by omega) (by omega)).trans p0
  replace p1 := (hK7.cell (by omega) (by omega)).trans p1
  replace p2 := (hK7.cell (by omega) (by omega)).trans p2
  replace p3 := (hK7.cell (by omega) (by omega)).trans p3
  replace p4 := (hK7.cell (by omega) (by omega)).trans p4
  replace f0 := fun j => (kfroz hK7 (b := w.heap.size) (by omega) (by omega) j).trans (f0 j)
  replace f1 := fun j => (kfroz hK7 (b := w.heap.size + 1) (by omega) (by omega) j).trans (f1 j)
  have HP6 := Lib.hid (HP.out.keepK hK7 (by omega))
  have HB6 := Lib.hid (HB3.out.trans (hK7.below (N := w.heap.size) (by omega) (by omega)))
  have hs6 : w3.heap.size ≤ wq1.heap.size := hK7.size
  clear hK6 hR6
  have f00 := f0 0
  have f01 := f0 1
  have f10 := f1 0
  have f11 := f1 1
  have f12 := f1 2
  have f13 := f1 3
  have f14 := f1 4
  go_wp2_with fail
  refine hK.out _ _ ?_ (fun hHeld => ?_)
  · exact ⟨b0, b1⟩
  clear hK K
  (try simp only [put_lit, List.set_cons_zero, List.set_cons_succ])
  refine wpAnyH_ready (rs := [3]) (by kernel_rfl) (by simp) ?_
  refine AllReadyH.cons rfl (fun K hK => ?_) AllReadyH.nil
  go_simp
  refine hK.out _ _ ?_ (fun hHeld => ?_)
  · exact ⟨by go_simp, by go_simp⟩
  clear hK K
  (try simp only [put_lit, List.set_cons_zero, List.set_cons_succ])
  refine wpAnyH_ready (rs := [4]) (by kernel_rfl) (by simp) ?_
  refine AllReadyH.cons rfl (fun K hK => ?_) AllReadyH.nil
  go_simp
  refine hK.out _ _ ?_ (fun hHeld => ?_)
  · exact ⟨by go_simp, by go_simp⟩
  clear hK K
  (try simp only [put_lit, List.set_cons_zero, List.set_cons_succ])
  refine wpAnyH_done (by kernel_rfl) ?_ _
  go_wp2
  refine bodyPost_ret (v := .tuple #[.agg #[.int .i64 z, .slice A' m c'], .agg #[.bool pf, .int .i64 pfi, .int .i64 ppl, .int .i64 pva, .int .i64 pst]]) (by simp [results, Try.results22, go_sem, r0, r1, p0, p1, p2, p3, p4]) rfl ⟨z, A', m, c', ps, ⟨pf, pfi, ppl, pva, pst⟩, rfl, hmc, HP6.out.2.1, ?_, ?_⟩
  · exact (((((((HP6.out.setLow (a := ⟨w.heap.size, 0, none⟩) (by simp only []; omega) _).setLow (a := ⟨w.heap.size, 1, none⟩) (by simp only []; omega) _).setLow (a := ⟨w.heap.size + 1, 0, none⟩) (by simp only []; omega) _).setLow (a := ⟨w.heap.size + 1, 1, none⟩) (by simp only []; omega) _).setLow (a := ⟨w.heap.size + 1, 2, none⟩) (by simp only []; omega) _).setLow (a := ⟨w.heap.size + 1, 3, none⟩) (by simp only []; omega) _).setLow (a := ⟨w.heap.size + 1, 4, none⟩) (by simp only []; omega) _).at
  · exact bel_s5 ((HB6.out.setCell (p := ⟨w.heap.size, 0, none⟩) (Nat.le_refl _) _).setCell (p := ⟨w.heap.size, 1, none⟩) (Nat.le_refl _) _) (by omega) _ _ _ _ _

end Go.Proofs.Yteekikaebmkioaa
