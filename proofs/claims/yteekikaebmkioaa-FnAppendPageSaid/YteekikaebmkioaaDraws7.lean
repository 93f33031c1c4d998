/- What the draws of the laws on devices give, for every code. -/
import Derived.Test.YteekikaebmkioaaDraws6
namespace Go.Proofs.Yteekikaebmkioaa
open Go.RowKit
set_option linter.unusedVariables false
attribute [local go_sem ↓] Go.wp_at_zero Go.wp_at_succ

set_option maxHeartbeats 2000000 in
theorem dDeviceValid (x : Cd) (w : World) (h : CodeArg w x) : Calls Try.prog 30 #[.slice x.A x.n x.c] w (GotD w) := by
  go_enter Try.func30, Try.ntmps30
  go_wp2_with fail
  refine (open_any x _ h).mono ?_
  rintro e w1 ⟨A, n, c, rfl, hR, hb⟩
  go_wp2_with fail
  refine (device_any _ A n c 0 2 _ hR (by omega) (by omega) (by omega)).mono ?_
  rintro e w2 ⟨A', m, c', ds, g1, h1, k1, rfl, hmc, hD, hR2, hK2⟩
  have HD := Lib.hid hD
  clear hD hR2
  go_wp2
  go_ret
  exact ⟨A', m, c', ds, rfl, hmc, HD.out.2.1, (HD.out.keep (bel_1 _ _)).at, bel_t (got hb hK2) (bel_1 _ _)⟩

set_option maxHeartbeats 2000000 in
theorem dFreePages (x : Cd) (w : World) (h : CodeArg w x) : Calls Try.prog 41 #[.slice x.A x.n x.c] w (GotD w) := by
  go_enter Try.func41, Try.ntmps41
  go_wp2_with fail
  refine (open_any x _ h).mono ?_
  rintro e w1 ⟨A, n, c, rfl, hR, hb⟩
  go_wp2_with fail
  refine (device_any _ A n c 0 6 _ hR (by omega) (by omega) (by omega)).mono ?_
  rintro e w2 ⟨A', m, c', ds, g1, h1, k1, rfl, hmc, hD, hR2, hK2⟩
  have HD := Lib.hid hD
  clear hD hR2
  go_wp2
  go_ret
  exact ⟨A', m, c', ds, rfl, hmc, HD.out.2.1, (HD.out.keep (bel_1 _ _)).at, bel_t (got hb hK2) (bel_1 _ _)⟩

set_option maxHeartbeats 2000000 in
theorem dReadPage (x : Cd) (w : World) (h : CodeArg w x) : Calls Try.prog 33 #[.slice x.A x.n x.c] w (GotDI w) := by
  go_enter Try.func33, Try.ntmps33
  go_wp2_with fail
  refine (open_any x _ h).mono ?_
  rintro e w1 ⟨A, n, c, rfl, hR, hb⟩
  go_wp2_with fail
  refine (device_any _ A n c 0 9 _ hR (by omega) (by omega) (by omega)).mono ?_
  rintro e w2 ⟨A', m, c', ds, g1, h1, k1, rfl, hmc, hD, hR2, hK2⟩
  have HD := Lib.hid hD
  have HR := Lib.hid (hR2.keep (bel_1 w2 (.cells #[.int .i64 g1, .int .i64 h1, .int .i64 k1] 54)))
  have hm13 := hD.2.1
  have hm13I : (m : Int) ≤ 13 := by omega
  clear hD hR2
  go_wp2_with fail
  refine (pick_c _ A n c 130 _ _ HR.out (by omega) (by omega)).mono ?_
  rintro e w3 ⟨r3, rfl, h30, h31, hR3, hK3⟩
  go_wp2_with fail
  refine (pick_c _ A n c 131 14 _ hR3 (by omega) (by omega)).mono ?_
  rintro e w4 ⟨r4, rfl, h40, h41, hR4, hK4⟩
  go_wp2
  go_ret2
  have hKK : Kp w.heap.size w2 w4 := (Kp.of_below (bel_1 _ _)).trans (hK3.trans hK4)
  exact ⟨A', m, c', ds, _, rfl, hmc, hm13, (HD.out.keepK hKK (by have := hb.size; omega)).at, got (got hb hK2) hKK⟩

set_option maxHeartbeats 4000000 in
theorem dProgram (x : Cd) (w : World) (h : CodeArg w x) : Calls Try.prog 36 #[.slice x.A x.n x.c] w (GotDIP w) := by
  go_enter Try.func36, Try.ntmps36
  go_wp2_with fail
  refine (open_any x _ (h.keep (bel_1 _ _))).mono ?_
  rintro e w1 ⟨A, n, c, rfl, hR, hb⟩
  simp only [World.size_alloc] at hR ⊢
  have HB1 := Lib.hid (bel_t (bel_1 _ _) hb)
  have p0 : w1.cell? ⟨w.heap.size, 0, none⟩ = some (.bool false) := stays_below hb _ _ _ (by simp [go_sem])
  have f0 : w1.frozen? ⟨w.heap.size, 0, none⟩ = false := ((bcell hb).2 _ _ (by simp)).trans (by simp [go_sem])
  have p1 : w1.cell? ⟨w.heap.size, 1, none⟩ = some (.int .i64 0) := stays_below hb _ _ _ (by simp [go_sem])
  have f1 : w1.frozen? ⟨w.heap.size, 1, none⟩ = false := ((bcell hb).2 _ _ (by simp)).trans (by simp [go_sem])
  have p2 : w1.cell? ⟨w.heap.size, 2, none⟩ = some (.int .i64 0) := stays_below hb _ _ _ (by simp [go_sem])
  have f2 : w1.frozen? ⟨w.heap.size, 2, none⟩ = false := ((bcell hb).2 _ _ (by simp)).trans (by simp [go_sem])
  have p3 : w1.cell? ⟨w.heap.size, 3, none⟩ = some (.int .i64 0) := stays_below hb _ _ _ (by simp [go_sem])
  have f3 : w1.frozen? ⟨w.heap.size, 3, none⟩ = false := ((bcell hb).2 _ _ (by simp)).trans (by simp [go_sem])
  have p4 : w1.cell? ⟨w.heap.size, 4, none⟩ = some (.int .i64 0) := stays_below hb _ _ _ (by simp [go_sem])
  have f4 : w1.frozen? ⟨w.heap.size, 4, none⟩ = false := ((bcell hb).2 _ _ (by simp)).trans (by simp [go_sem])
  have hg := hR.lt
  clear hb
  go_wp2_with fail
  refine (device_any _ A n c 0 9 _ hR (by omega) (by omega) (by omega)).mono ?_
  rintro e w2 ⟨A', m, c', ds, g1, h1, k1, rfl, hmc, hD, hR2, hK2⟩
  have hs2 := hK2.size
  have HB2 := Lib.hid (HB1.out.trans (hK2.below (N := w.heap.size) (by omega) (by omega)))
  replace p0 := (hK2.cell (by omega) (by omega)).trans p0
  replace p1 := (hK2.cell (by omega) (by omega)).trans p1
  replace p2 := (hK2.cell (by omega) (by omega)).trans p2
  replace p3 := (hK2.cell (by omega) (by omega)).trans p3
  replace p4 := (hK2.cell (by omega) (by omega)).trans p4
  replace f0 := (kfroz hK2 (by omega) (by omega) _).trans f0
  replace f1 := (kfroz hK2 (by omega) (by omega) _).trans f1
  replace f2 := (kfroz hK2 (by omega) (by omega) _).trans f2
  replace f3 := (kfroz hK2 (by omega) (by omega) _).trans f3
  replace f4 := (kfroz hK2 (by omega) (by omega) _).trans f4
  have HD := Lib.hid (hD.keep (bel_1 w2 (.cells #[.int .i64 g1, .int .i64 h1, .int .i64 k1] 54)))
  have HR := Lib.hid (hR2.keep (bel_1 w2 (.cells #[.int .i64 g1, .int .i64 h1, .int .i64 k1] 54)))
  have hm13 := hD.2.1
  have hm13I : (m : Int) ≤ 13 := by omega
  have HB3 := Lib.hid (bel_t HB2.out (bel_1 w2 (.cells #[.int .i64 g1, .int .i64 h1, .int .i64 k1] 54)))
  replace p0 := stays_below (bel_1 w2 (.cells #[.int .i64 g1, .int .i64 h1, .int .i64 k1] 54)) _ _ _ p0
  replace f0 := ((bcell (bel_1 w2 (.cells #[.int .i64 g1, .int .i64 h1, .int .i64 k1] 54))).2 _ _ (by omega)).trans f0
  replace p1 := stays_below (bel_1 w2 (.cells #[.int .i64 g1, .int .i64 h1, .int .i64 k1] 54)) _ _ _ p1
  replace f1 := ((bcell (bel_1 w2 (.cells #[.int .i64 g1, .int .i64 h1, .int .i64 k1] 54))).2 _ _ (by omega)).trans f1
  replace p2 := stays_below (bel_1 w2 (.cells #[.int .i64 g1, .int .i64 h1, .int .i64 k1] 54)) _ _ _ p2
  replace f2 := ((bcell (bel_1 w2 (.cells #[.int .i64 g1, .int .i64 h1, .int .i64 k1] 54))).2 _ _ (by omega)).trans f2
  replace p3 := stays_below (bel_1 w2 (.cells #[.int .i64 g1, .int .i64 h1, .int .i64 k1] 54)) _ _ _ p3
  replace f3 := ((bcell (bel_1 w2 (.cells #[.int .i64 g1, .int .i64 h1, .int .i64 k1] 54))).2 _ _ (by omega)).trans f3
  replace p4 := stays_below (bel_1 w2 (.cells #[.int .i64 g1, .int .i64 h1, .int .i64 k1] 54)) _ _ _ p4
  replace f4 := ((bcell (bel_1 w2 (.cells #[.int .i64 g1, .int .i64 h1, .int .i64 k1] 54))).2 _ _ (by omega)).trans f4
  have hs3 : w.heap.size + 1 < (w2.alloc (.cells #[.int .i64 g1, .int .i64 h1, .int .i64 k1] 54)).heap.size := by simp; omega
  clear hD hR2 hK2 hR
  go_wp2_with fail
  generalize w2.alloc (.cells #[.int .i64 g1, .int .i64 h1, .int .i64 k1] 54) = w3 at *
  refine (pick_c _ A n c 130 _ _ HR.out (by omega) (by omega)).mono ?_
  rintro e w4 ⟨r3, rfl, h30, h31, hR4, hK4⟩
  go_wp2_with fail
  refine (pick_c _ A n c 131 14 _ hR4 (by omega) (by omega)).mono ?_
  rintro e w5 ⟨r4, rfl, h40, h41, hR5, hK5⟩
  go_wp2_with fail
  refine (page_any _ A n c 132 9 _ hR5 (by omega) (by omega) (by omega)).mono ?_
  rintro e w6 ⟨⟨pf, pfi, ppl, pva, pst⟩, rfl, hR6, hK6⟩
  simp only [Pg.val]
  have hKK : Kp (w.heap.size + 1) w3 w6 := hK4.trans (hK5.trans hK6)
  have hs6 := hKK.size
  replace p0 := (hKK.cell (by omega) (by omega)).trans p0
  replace p1 := (hKK.cell (by omega) (by omega)).trans p1
  replace p2 := (hKK.cell (by omega) (by omega)).trans p2
  replace p3 := (hKK.cell (by omega) (by omega)).trans p3
  replace p4 := (hKK.cell (by omega) (by omega)).trans p4
  replace f0 := (kfroz hKK (by omega) (by omega) _).trans f0
  replace f1 := (kfroz hKK (by omega) (by omega) _).trans f1
  replace f2 := (kfroz hKK (by omega) (by omega) _).trans f2
  replace f3 := (kfroz hKK (by omega) (by omega) _).trans f3
  replace f4 := (kfroz hKK (by omega) (by omega) _).trans f4
  have HD6 := Lib.hid (HD.out.keepK hKK (by omega))
  have HB6 := Lib.hid (HB3.out.trans (hKK.below (N := w.heap.size) (by omega) (by omega)))
  clear hR4 hK4 hR5 hK5 hR6 hK6 hKK HD HB3
  go_wp2
  refine bodyPost_ret (v := .tuple #[.slice A' m c', .int .i64 (r3 - r4 / 13), .agg #[.bool pf, .int .i64 pfi, .int .i64 ppl, .int .i64 pva, .int .i64 pst]]) (by simp [results, Try.results36, go_sem, p0, p1, p2, p3, p4]) rfl ⟨A', m, c', ds, _, ⟨pf, pfi, ppl, pva, pst⟩, rfl, hmc, hm13, ?_, ?_⟩
  · exact (((((HD6.out.setLow (a := ⟨w.heap.size, 0, none⟩) (by simp only []; omega) _).setLow (a := ⟨w.heap.size, 1, none⟩) (by simp only []; omega) _).setLow (a := ⟨w.heap.size, 2, none⟩) (by simp only []; omega) _).setLow (a := ⟨w.heap.size, 3, none⟩) (by simp only []; omega) _).setLow (a := ⟨w.heap.size, 4, none⟩) (by simp only []; omega) _).at
  · exact bel_s5 HB6.out (Nat.le_refl _) _ _ _ _ _

set_option maxHeartbeats 2000000 in
theorem dHeadsValid (x : Cd) (w : World) (h : CodeArg w x) : Calls Try.prog 43 #[.slice x.A x.n x.c] w (GotDH w) := by
  go_enter Try.func43, Try.ntmps43
  go_wp2_with fail
  refine (open_any x _ (h.keep (bel_1 _ _))).mono ?_
  rintro e w1 ⟨A, n, c, rfl, hR, hb⟩
  simp only [World.size_alloc] at hR ⊢
  have HB1 := Lib.hid (bel_t (bel_1 _ _) hb)
  have q0 : w1.cell? ⟨w.heap.size, 0, none⟩ = some (.int .i64 0) := stays_below hb _ _ _ (by simp [go_sem])
  have v0 : w1.frozen? ⟨w.heap.size, 0, none⟩ = false := ((bcell hb).2 _ _ (by first | (simp; done) | (simp; omega))).trans (by simp [go_sem])
  have q1 : w1.cell? ⟨w.heap.size, 1, none⟩ = some (.int .i64 0) := stays_below hb _ _ _ (by simp [go_sem])
  have v1 : w1.frozen? ⟨w.heap.size, 1, none⟩ = false := ((bcell hb).2 _ _ (by first | (simp; done) | (simp; omega))).trans (by simp [go_sem])
  have q2 : w1.cell? ⟨w.heap.size, 2, none⟩ = some (.int .i64 0) := stays_below hb _ _ _ (by simp [go_sem])
  have v2 : w1.frozen? ⟨w.heap.size, 2, none⟩ = false := ((bcell hb).2 _ _ (by first | (simp; done) | (simp; omega))).trans (by simp [go_sem])
  have hg := hR.lt
  clear hb
  go_wp2_with fail
  refine (heads_any _ A n c 0 4 _ hR (by omega) (by omega) (by omega)).mono ?_
  rintro e w2 ⟨A', m, c', ds, g1, h1, k1, rfl, hmc, hD, hR2, hK2⟩
  have hs2 := hK2.size
  replace q0 := (hK2.cell (by omega) (by omega)).trans q0
  replace q1 := (hK2.cell (by omega) (by omega)).trans q1
  replace q2 := (hK2.cell (by omega) (by omega)).trans q2
  replace v0 := (kfroz hK2 (by omega) (by omega) _).trans v0
  replace v1 := (kfroz hK2 (by omega) (by omega) _).trans v1
  replace v2 := (kfroz hK2 (by omega) (by omega) _).trans v2
  have HD := Lib.hid hD
  have HB2 := Lib.hid (HB1.out.trans (hK2.below (N := w.heap.size) (by omega) (by omega)))
  clear hD hR2 hK2
  go_wp2
  refine bodyPost_ret (v := .tuple #[.slice A' m c', .agg #[.int .i64 g1, .int .i64 h1, .int .i64 k1]]) (by simp [results, Try.results43, go_sem, q0, q1, q2]) rfl ⟨A', m, c', ds, g1, h1, k1, rfl, hmc, HD.out.2.1, ?_, bel_t3 HB2.out (Nat.le_refl _) g1 h1 k1⟩
  exact (((HD.out.setLow (a := ⟨w.heap.size, 0, none⟩) (by simp only []; omega) _).setLow (a := ⟨w.heap.size, 1, none⟩) (by simp only []; omega) _).setLow (a := ⟨w.heap.size, 2, none⟩) (by simp only []; omega) _).at

set_option maxHeartbeats 2000000 in
theorem dFreshBlock (x : Cd) (w : World) (h : CodeArg w x) : Calls Try.prog 49 #[.slice x.A x.n x.c] w (GotDH w) := by
  go_enter Try.func49, Try.ntmps49
  go_wp2_with fail
  refine (open_any x _ (h.keep (bel_1 _ _))).mono ?_
  rintro e w1 ⟨A, n, c, rfl, hR, hb⟩
  simp only [World.size_alloc] at hR ⊢
  have HB1 := Lib.hid (bel_t (bel_1 _ _) hb)
  have q0 : w1.cell? ⟨w.heap.size, 0, none⟩ = some (.int .i64 0) := stays_below hb _ _ _ (by simp [go_sem])
  have v0 : w1.frozen? ⟨w.heap.size, 0, none⟩ = false := ((bcell hb).2 _ _ (by first | (simp; done) | (simp; omega))).trans (by simp [go_sem])
  have q1 : w1.cell? ⟨w.heap.size, 1, none⟩ = some (.int .i64 0) := stays_below hb _ _ _ (by simp [go_sem])
  have v1 : w1.frozen? ⟨w.heap.size, 1, none⟩ = false := ((bcell hb).2 _ _ (by first | (simp; done) | (simp; omega))).trans (by simp [go_sem])
  have q2 : w1.cell? ⟨w.heap.size, 2, none⟩ = some (.int .i64 0) := stays_below hb _ _ _ (by simp [go_sem])
  have v2 : w1.frozen? ⟨w.heap.size, 2, none⟩ = false := ((bcell hb).2 _ _ (by first | (simp; done) | (simp; omega))).trans (by simp [go_sem])
  have hg := hR.lt
  clear hb
  go_wp2_with fail
  refine (heads_any _ A n c 0 12 _ hR (by omega) (by omega) (by omega)).mono ?_
  rintro e w2 ⟨A', m, c', ds, g1, h1, k1, rfl, hmc, hD, hR2, hK2⟩
  have hs2 := hK2.size
  replace q0 := (hK2.cell (by omega) (by omega)).trans q0
  replace q1 := (hK2.cell (by omega) (by omega)).trans q1
  replace q2 := (hK2.cell (by omega) (by omega)).trans q2
  replace v0 := (kfroz hK2 (by omega) (by omega) _).trans v0
  replace v1 := (kfroz hK2 (by omega) (by omega) _).trans v1
  replace v2 := (kfroz hK2 (by omega) (by omega) _).trans v2
  have HD := Lib.hid hD
  have HB2 := Lib.hid (HB1.out.trans (hK2.below (N := w.heap.size) (by omega) (by omega)))
  clear hD hR2 hK2
  go_wp2
  refine bodyPost_ret (v := .tuple #[.slice A' m c', .agg #[.int .i64 g1, .int .i64 h1, .int .i64 k1]]) (by simp [results, Try.results49, go_sem, q0, q1, q2]) rfl ⟨A', m, c', ds, g1, h1, k1, rfl, hmc, HD.out.2.1, ?_, bel_t3 HB2.out (Nat.le_refl _) g1 h1 k1⟩
  exact (((HD.out.setLow (a := ⟨w.heap.size, 0, none⟩) (by simp only []; omega) _).setLow (a := ⟨w.heap.size, 1, none⟩) (by simp only []; omega) _).setLow (a := ⟨w.heap.size, 2, none⟩) (by simp only []; omega) _).at

set_option maxRecDepth 100000 in
set_option maxHeartbeats 4000000 in
theorem dHeadOf (x : Cd) (w : World) (h : CodeArg w x) : Calls Try.prog 46 #[.slice x.A x.n x.c] w (GotDHI w) := by
  go_enter Try.func46, Try.ntmps46
  go_wp2_with fail
  refine (open_any x _ (h.keep (bel_1 _ _))).mono ?_
  rintro e w1 ⟨A, n, c, rfl, hR, hb⟩
  simp only [World.size_alloc] at hR ⊢
  have HB1 := Lib.hid (bel_t (bel_1 _ _) hb)
  have q0 : w1.cell? ⟨w.heap.size, 0, none⟩ = some (.int .i64 0) := stays_below hb _ _ _ (by simp [go_sem])
  have v0 : w1.frozen? ⟨w.heap.size, 0, none⟩ = false := ((bcell hb).2 _ _ (by first | (simp; done) | (simp; omega))).trans (by simp [go_sem])
  have q1 : w1.cell? ⟨w.heap.size, 1, none⟩ = some (.int .i64 0) := stays_below hb _ _ _ (by simp [go_sem])
  have v1 : w1.frozen? ⟨w.heap.size, 1, none⟩ = false := ((bcell hb).2 _ _ (by first | (simp; done) | (simp; omega))).trans (by simp [go_sem])
  have q2 : w1.cell? ⟨w.heap.size, 2, none⟩ = some (.int .i64 0) := stays_below hb _ _ _ (by simp [go_sem])
  have v2 : w1.frozen? ⟨w.heap.size, 2, none⟩ = false := ((bcell hb).2 _ _ (by first | (simp; done) | (simp; omega))).trans (by simp [go_sem])
  have hg := hR.lt
  clear hb
  go_wp2_with fail
  refine (heads_any _ A n c 0 12 _ hR (by omega) (by omega) (by omega)).mono ?_
  rintro e w2 ⟨A', m, c', ds, g1, h1, k1, rfl, hmc, hD, hR2, hK2⟩
  have hs2 := hK2.size
  replace q0 := (hK2.cell (by omega) (by omega)).trans q0
  replace q1 := (hK2.cell (by omega) (by omega)).trans q1
  replace q2 := (hK2.cell (by omega) (by omega)).trans q2
  replace v0 := (kfroz hK2 (by omega) (by omega) _).trans v0
  replace v1 := (kfroz hK2 (by omega) (by omega) _).trans v1
  replace v2 := (kfroz hK2 (by omega) (by omega) _).trans v2
  have hm13 := hD.2.1
  have HD := Lib.hid (hD.keep (bel_1 w2 (.cells #[.int .i64 g1, .int .i64 h1, .int .i64 k1] 54)))
  have HR := Lib.hid (hR2.keep (bel_1 w2 (.cells #[.int .i64 g1, .int .i64 h1, .int .i64 k1] 54)))
  have HB2 := Lib.hid (HB1.out.trans (hK2.below (N := w.heap.size) (by omega) (by omega)))
  have HB3 := Lib.hid (bel_t HB2.out (bel_1 w2 (.cells #[.int .i64 g1, .int .i64 h1, .int .i64 k1] 54)))
  replace q0 := stays_below (bel_1 w2 (.cells #[.int .i64 g1, .int .i64 h1, .int .i64 k1] 54)) _ _ _ q0
  replace q1 := stays_below (bel_1 w2 (.cells #[.int .i64 g1, .int .i64 h1, .int .i64 k1] 54)) _ _ _ q1
  replace q2 := stays_below (bel_1 w2 (.cells #[.int .i64 g1, .int .i64 h1, .int .i64 k1] 54)) _ _ _ q2
  replace v0 := ((bcell (bel_1 w2 (.cells #[.int .i64 g1, .int .i64 h1, .int .i64 k1] 54))).2 _ _ (by omega)).trans v0
  replace v1 := ((bcell (bel_1 w2 (.cells #[.int .i64 g1, .int .i64 h1, .int .i64 k1] 54))).2 _ _ (by omega)).trans v1
  replace v2 := ((bcell (bel_1 w2 (.cells #[.int .i64 g1, .int .i64 h1, .int .i64 k1] 54))).2 _ _ (by omega)).trans v2
  have y0 : (w2.alloc (.cells #[.int .i64 g1, .int .i64 h1, .int .i64 k1] 54)).cell? ⟨w2.heap.size, 0, none⟩ = some (.int .i64 g1) := by simp [go_sem]
  have y1 : (w2.alloc (.cells #[.int .i64 g1, .int .i64 h1, .int .i64 k1] 54)).cell? ⟨w2.heap.size, 1, none⟩ = some (.int .i64 h1) := by simp [go_sem]
  have y2 : (w2.alloc (.cells #[.int .i64 g1, .int .i64 h1, .int .i64 k1] 54)).cell? ⟨w2.heap.size, 2, none⟩ = some (.int .i64 k1) := by simp [go_sem]
  have hs3 : w2.heap.size < (w2.alloc (.cells #[.int .i64 g1, .int .i64 h1, .int .i64 k1] 54)).heap.size := by simp
  clear hD hR2 hK2 hR
  go_wp2_with fail
  generalize w2.alloc (.cells #[.int .i64 g1, .int .i64 h1, .int .i64 k1] 54) = w3 at *
  have HR3 : Hid (Rdr w3.drew (w.heap.size + 1) A n c 132) := Lib.hid (HR.out.keep (Below.refl _ _).drew)
  have Q0 := Lib.hid q0
  have Q1 := Lib.hid q1
  have Q2 := Lib.hid q2
  have V0 := Lib.hid v0
  have V1 := Lib.hid v1
  have V2 := Lib.hid v2
  have Y0 := Lib.hid y0
  have Y1 := Lib.hid y1
  have Y2 := Lib.hid y2
  refine reg_beginS (S := fun w' => w'.cell? ⟨w2.heap.size, 0, none⟩ = some (.int .i64 g1) ∧ w'.cell? ⟨w2.heap.size, 1, none⟩ = some (.int .i64 h1) ∧ w'.cell? ⟨w2.heap.size, 2, none⟩ = some (.int .i64 k1)) ⟨y0, y1, y2⟩ (by kernel_rfl) (fun hHeld => ?_)
  refine reg_take 0 15 (v := ?_) rfl rfl (by kernel_rfl) (by kernel_rfl) (by kernel_rfl) (fun _ _ _ h => h) (Or.inl ⟨by rfl, ?_⟩) hHeld ?_
  rotate_left 1
  · intro wS hSw; go_simp <;> with_reducible rfl
  simp only [put_lit, List.set_cons_zero, List.set_cons_succ]
  refine reg_take 1 16 (v := ?_) rfl rfl (by kernel_rfl) (by kernel_rfl) (by kernel_rfl) (fun _ _ _ h => h) (Or.inl ⟨by rfl, ?_⟩) hHeld ?_
  rotate_left 1
  · intro wS hSw; obtain ⟨z0, z1, z2⟩ := hSw; go_simp <;> with_reducible rfl
  simp only [put_lit, List.set_cons_zero, List.set_cons_succ]
  refine reg_take 2 17 (v := ?_) rfl rfl (by kernel_rfl) (by kernel_rfl) (by kernel_rfl) (fun _ _ _ h => h) (Or.inl ⟨by rfl, ?_⟩) hHeld ?_
  rotate_left 1
  · intro wS hSw; go_simp <;> with_reducible rfl
  simp only [put_lit, List.set_cons_zero, List.set_cons_succ]
  refine reg_take 4 19 (v := ?_) rfl rfl (by kernel_rfl) (by kernel_rfl) (by kernel_rfl) (fun _ _ _ h => h) (Or.inl ⟨by rfl, ?_⟩) hHeld ?_
  rotate_left 1
  · intro wS hSw; go_simp <;> with_reducible rfl
  simp only [put_lit, List.set_cons_zero, List.set_cons_succ]
  refine wpAnyH_ready (rs := [3]) (by kernel_rfl) (by simp) ?_
  refine AllReadyH.cons rfl (fun K hK => ?_) AllReadyH.nil
  go_simp
  refine (pick_c _ A n c _ _ _ (by first | exact HR4.out | exact HR3.out) (by omega) (by omega)).mono ?_
  rintro e wq1 ⟨rq1, rfl, haq1, hbq1, hRq1, hKq1⟩
  have HR4 := Lib.hid hRq1
  clear hRq1
  have KW : Kp (w.heap.size + 1) w3 wq1 := by first | exact ((Kp.refl _ w3).drewN 1).trans hKq1 | exact KW.trans hKq1
  have hsw := KW.size
  have q0 := (KW.cell (by omega) (by omega)).trans Q0.out
  have q1 := (KW.cell (by omega) (by omega)).trans Q1.out
  have q2 := (KW.cell (by omega) (by omega)).trans Q2.out
  have y0 := (KW.cell (by omega) (by omega)).trans Y0.out
  have y1 := (KW.cell (by omega) (by omega)).trans Y1.out
  have y2 := (KW.cell (by omega) (by omega)).trans Y2.out
  have v0 := (kfroz KW (by omega) (by omega) _).trans V0.out
  have v1 := (kfroz KW (by omega) (by omega) _).trans V1.out
  have v2 := (kfroz KW (by omega) (by omega) _).trans V2.out
  go_wp2_with fail
  refine hK.out _ _ ?_ (fun hHeld => ?_)
  · exact ⟨y0, y1, y2⟩
  clear hK K
  (try simp only [put_lit, List.set_cons_zero, List.set_cons_succ])
  refine wpAnyH_ready (rs := [5]) (by kernel_rfl) (by simp) ?_
  refine AllReadyH.cons rfl (fun K hK => ?_) AllReadyH.nil
  go_simp
  refine (pick_c _ A n c _ _ _ (by first | exact HR4.out | exact HR3.out) (by omega) (by omega)).mono ?_
  rintro e wq2 ⟨rq2, rfl, haq2, hbq2, hRq2, hKq2⟩
  have HR4 := Lib.hid hRq2
  clear hRq2
  have KW : Kp (w.heap.size + 1) w3 wq2 := by first | exact ((Kp.refl _ w3).drewN 1).trans hKq2 | exact KW.trans hKq2
  have hsw := KW.size
  have q0 := (KW.cell (by omega) (by omega)).trans Q0.out
  have q1 := (KW.cell (by omega) (by omega)).trans Q1.out
  have q2 := (KW.cell (by omega) (by omega)).trans Q2.out
  have y0 := (KW.cell (by omega) (by omega)).trans Y0.out
  have y1 := (KW.cell (by omega) (by omega)).trans Y1.out
  have y2 := (KW.cell (by omega) (by omega)).trans Y2.out
  have v0 := (kfroz KW (by omega) (by omega) _).trans V0.out
  have v1 := (kfroz KW (by omega) (by omega) _).trans V1.out
  have v2 := (kfroz KW (by omega) (by omega) _).trans V2.out
  go_wp2_with fail
  refine hK.out _ _ ?_ (fun hHeld => ?_)
  · exact ⟨y0, y1, y2⟩
  clear hK K
  (try simp only [put_lit, List.set_cons_zero, List.set_cons_succ])
  refine reg_take 6 21 (v := ?_) rfl rfl (by kernel_rfl) (by kernel_rfl) (by kernel_rfl) (fun _ _ _ h => h) (Or.inl ⟨by rfl, ?_⟩) hHeld ?_
  rotate_left 1
  · intro wS hSw; go_simp <;> with_reducible rfl
  simp only [put_lit, List.set_cons_zero, List.set_cons_succ]
  refine reg_take 7 22 (v := ?_) rfl rfl (by kernel_rfl) (by kernel_rfl) (by kernel_rfl) (fun _ _ _ h => h) (Or.inl ⟨by rfl, ?_⟩) hHeld ?_
  rotate_left 1
  · intro wS hSw; go_simp <;> with_reducible rfl
  simp only [put_lit, List.set_cons_zero, List.set_cons_succ]
  refine reg_take 8 2 (v := ?_) rfl rfl (by kernel_rfl) (by kernel_rfl) (by kernel_rfl) (fun _ _ _ h => h) (Or.inl ⟨by rfl, ?_⟩) hHeld ?_
  rotate_left 1
  · intro wS hSw; go_simp <;> with_reducible rfl
  simp only [put_lit, List.set_cons_zero, List.set_cons_succ]
  refine wpAnyH_ready (rs := [9]) (by kernel_rfl) (by simp) ?_
  refine AllReadyH.cons rfl (fun K hK => ?_) AllReadyH.nil
  go_simp
  refine hK.out _ _ ?_ (fun hHeld => ?_)
  · exact ⟨by go_simp, by go_simp, by go_simp⟩
  clear hK K
  (try simp only [put_lit, List.set_cons_zero, List.set_cons_succ])
  refine reg_take 10 4 (v := ?_) rfl rfl (by kernel_rfl) (by kernel_rfl) (by kernel_rfl) (fun _ _ _ h => h) (Or.inl ⟨by rfl, ?_⟩) hHeld ?_
  rotate_left 1
  · intro wS hSw; go_simp <;> with_reducible rfl
  simp only [put_lit, List.set_cons_zero, List.set_cons_succ]
  refine wpAnyH_done (by kernel_rfl) ?_ _
  have HD6 := Lib.hid (HD.out.keepK KW (by omega))
  have HB6 := Lib.hid (HB3.out.trans (KW.below (N := w.heap.size) (by omega) (by omega)))
  go_wp2
  refine bodyPost_ret (v := .tuple #[.slice A' m c', .agg #[.int .i64 g1, .int .i64 h1, .int .i64 k1], .int .i64 (IntKind.i64.wrap (rq1 - IntKind.i64.wrap (rq2.tdiv 13)))]) (by simp [results, Try.results46, go_sem, q0, q1, q2]) rfl ⟨A', m, c', ds, g1, h1, k1, _, rfl, hmc, hm13, ?_, bel_t3 HB6.out (Nat.le_refl _) g1 h1 k1⟩
  exact (((HD6.out.setLow (a := ⟨w.heap.size, 0, none⟩) (by simp only []; omega) _).setLow (a := ⟨w.heap.size, 1, none⟩) (by simp only []; omega) _).setLow (a := ⟨w.heap.size, 2, none⟩) (by simp only []; omega) _).at

set_option maxRecDepth 100000 in
set_option maxHeartbeats 4000000 in
theorem dAppendPage (x : Cd) (w : World) (h : CodeArg w x) : Calls Try.prog 52 #[.slice x.A x.n x.c] w (GotDHIP w) := by
  go_enter Try.func52, Try.ntmps52
  go_wp2_with fail
  refine (open_any x _ (h.keep (bel_2 _ _ _))).mono ?_
  rintro e w1 ⟨A, n, c, rfl, hR, hb⟩
  simp only [World.size_alloc] at hR ⊢
  have HB1 := Lib.hid (bel_t (bel_2 _ _ _) hb)
  have q0 : w1.cell? ⟨w.heap.size, 0, none⟩ = some (.int .i64 0) := stays_below hb _ _ _ (by simp [go_sem])
  have v0 : w1.frozen? ⟨w.heap.size, 0, none⟩ = false := ((bcell hb).2 _ _ (by first | (simp; done) | (simp; omega))).trans (by simp [go_sem])
  have q1 : w1.cell? ⟨w.heap.size, 1, none⟩ = some (.int .i64 0) := stays_below hb _ _ _ (by simp [go_sem])
  have v1 : w1.frozen? ⟨w.heap.size, 1, none⟩ = false := ((bcell hb).2 _ _ (by first | (simp; done) | (simp; omega))).trans (by simp [go_sem])
  have q2 : w1.cell? ⟨w.heap.size, 2, none⟩ = some (.int .i64 0) := stays_below hb _ _ _ (by simp [go_sem])
  have v2 : w1.frozen? ⟨w.heap.size, 2, none⟩ = false := ((bcell hb).2 _ _ (by first | (simp; done) | (simp; omega))).trans (by simp [go_sem])
  have p0 : w1.cell? ⟨w.heap.size + 1, 0, none⟩ = some (.bool false) := stays_below hb _ _ _ (by simp [go_sem])
  have f0 : w1.frozen? ⟨w.heap.size + 1, 0, none⟩ = false := ((bcell hb).2 _ _ (by simp)).trans (by simp [go_sem])
  have p1 : w1.cell? ⟨w.heap.size + 1, 1, none⟩ = some (.int .i64 0) := stays_below hb _ _ _ (by simp [go_sem])
  have f1 : w1.frozen? ⟨w.heap.size + 1, 1, none⟩ = false := ((bcell hb).2 _ _ (by simp)).trans (by simp [go_sem])
  have p2 : w1.cell? ⟨w.heap.size + 1, 2, none⟩ = some (.int .i64 0) := stays_below hb _ _ _ (by simp [go_sem])
  have f2 : w1.frozen? ⟨w.heap.size + 1, 2, none⟩ = false := ((bcell hb).2 _ _ (by simp)).trans (by simp [go_sem])
  have p3 : w1.cell? ⟨w.heap.size + 1, 3, none⟩ = some (.int .i64 0) := stays_below hb _ _ _ (by simp [go_sem])
  have f3 : w1.frozen? ⟨w.heap.size + 1, 3, none⟩ = false := ((bcell hb).2 _ _ (by simp)).trans (by simp [go_sem])
  have p4 : w1.cell? ⟨w.heap.size + 1, 4, none⟩ = some (.int .i64 0) := stays_below hb _ _ _ (by simp [go_sem])
  have f4 : w1.frozen? ⟨w.heap.size + 1, 4, none⟩ = false := ((bcell hb).2 _ _ (by simp)).trans (by simp [go_sem])
  have hg := hR.lt
  clear hb
  go_wp2_with fail
  refine (heads_any _ A n c 0 14 _ hR (by omega) (by omega) (by omega)).mono ?_
  rintro e w2 ⟨A', m, c', ds, g1, h1, k1, rfl, hmc, hD, hR2, hK2⟩
  have hs2 := hK2.size
  replace q0 := (hK2.cell (by omega) (by omega)).trans q0
  replace q1 := (hK2.cell (by omega) (by omega)).trans q1
  replace q2 := (hK2.cell (by omega) (by omega)).trans q2
  replace p0 := (hK2.cell (by omega) (by omega)).trans p0
  replace p1 := (hK2.cell (by omega) (by omega)).trans p1
  replace p2 := (hK2.cell (by omega) (by omega)).trans p2
  replace p3 := (hK2.cell (by omega) (by omega)).trans p3
  replace p4 := (hK2.cell (by omega) (by omega)).trans p4
  replace v0 := (kfroz hK2 (by omega) (by omega) _).trans v0
  replace v1 := (kfroz hK2 (by omega) (by omega) _).trans v1
  replace v2 := (kfroz hK2 (by omega) (by omega) _).trans v2
  replace f0 := (kfroz hK2 (by omega) (by omega) _).trans f0
  replace f1 := (kfroz hK2 (by omega) (by omega) _).trans f1
  replace f2 := (kfroz hK2 (by omega) (by omega) _).trans f2
  replace f3 := (kfroz hK2 (by omega) (by omega) _).trans f3
  replace f4 := (kfroz hK2 (by omega) (by omega) _).trans f4
  have hm13 := hD.2.1
  have HD := Lib.hid (hD.keep (bel_1 w2 (.cells #[.int .i64 g1, .int .i64 h1, .int .i64 k1] 54)))
  have HR := Lib.hid (hR2.keep (bel_1 w2 (.cells #[.int .i64 g1, .int .i64 h1, .int .i64 k1] 54)))
  have HB2 := Lib.hid (HB1.out.trans (hK2.below (N := w.heap.size) (by omega) (by omega)))
  have HB3 := Lib.hid (bel_t HB2.out (bel_1 w2 (.cells #[.int .i64 g1, .int .i64 h1, .int .i64 k1] 54)))
  replace q0 := stays_below (bel_1 w2 (.cells #[.int .i64 g1, .int .i64 h1, .int .i64 k1] 54)) _ _ _ q0
  replace q1 := stays_below (bel_1 w2 (.cells #[.int .i64 g1, .int .i64 h1, .int .i64 k1] 54)) _ _ _ q1
  replace q2 := stays_below (bel_1 w2 (.cells #[.int .i64 g1, .int .i64 h1, .int .i64 k1] 54)) _ _ _ q2
  replace p0 := stays_below (bel_1 w2 (.cells #[.int .i64 g1, .int .i64 h1, .int .i64 k1] 54)) _ _ _ p0
  replace p1 := stays_below (bel_1 w2 (.cells #[.int .i64 g1, .int .i64 h1, .int .i64 k1] 54)) _ _ _ p1
  replace p2 := stays_below (bel_1 w2 (.cells #[.int .i64 g1, .int .i64 h1, .int .i64 k1] 54)) _ _ _ p2
  replace p3 := stays_below (bel_1 w2 (.cells #[.int .i64 g1, .int .i64 h1, .int .i64 k1] 54)) _ _ _ p3
  replace p4 := stays_below (bel_1 w2 (.cells #[.int .i64 g1, .int .i64 h1, .int .i64 k1] 54)) _ _ _ p4
  replace v0 := ((bcell (bel_1 w2 (.cells #[.int .i64 g1, .int .i64 h1, .int .i64 k1] 54))).2 _ _ (by omega)).trans v0
  replace v1 := ((bcell (bel_1 w2 (.cells #[.int .i64 g1, .int .i64 h1, .int .i64 k1] 54))).2 _ _ (by omega)).trans v1
  replace v2 := ((bcell (bel_1 w2 (.cells #[.int .i64 g1, .int .i64 h1, .int .i64 k1] 54))).2 _ _ (by omega)).trans v2
  replace f0 := ((bcell (bel_1 w2 (.cells #[.int .i64 g1, .int .i64 h1, .int .i64 k1] 54))).2 _ _ (by omega)).trans f0
  replace f1 := ((bcell (bel_1 w2 (.cells #[.int .i64 g1, .int .i64 h1, .int .i64 k1] 54))).2 _ _ (by omega)).trans f1
  replace f2 := ((bcell (bel_1 w2 (.cells #[.int .i64 g1, .int .i64 h1, .int .i64 k1] 54))).2 _ _ (by omega)).trans f2
  replace f3 := ((bcell (bel_1 w2 (.cells #[.int .i64 g1, .int .i64 h1, .int .i64 k1] 54))).2 _ _ (by omega)).trans f3
  replace f4 := ((bcell (bel_1 w2 (.cells #[.int .i64 g1, .int .i64 h1, .int .i64 k1] 54))).2 _ _ (by omega)).trans f4
  have y0 : (w2.alloc (.cells #[.int .i64 g1, .int .i64 h1, .int .i64 k1] 54)).cell? ⟨w2.heap.size, 0, none⟩ = some (.int .i64 g1) := by simp [go_sem]
  have y1 : (w2.alloc (.cells #[.int .i64 g1, .int .i64 h1, .int .i64 k1] 54)).cell? ⟨w2.heap.size, 1, none⟩ = some (.int .i64 h1) := by simp [go_sem]
  have y2 : (w2.alloc (.cells #[.int .i64 g1, .int .i64 h1, .int .i64 k1] 54)).cell? ⟨w2.heap.size, 2, none⟩ = some (.int .i64 k1) := by simp [go_sem]
  have hs3 : w2.heap.size < (w2.alloc (.cells #[.int .i64 g1, .int .i64 h1, .int .i64 k1] 54)).heap.size := by simp
  clear hD hR2 hK2 hR
  go_wp2_with fail
  generalize w2.alloc (.cells #[.int .i64 g1, .int .i64 h1, .int .i64 k1] 54) = w3 at *
  refine (pick_c _ A n c 132 4 _ HR.out (by omega) (by omega)).mono ?_
  rintro e w4 ⟨r3, rfl, h30, h31, hR4, hK4⟩
  go_wp2_with fail
  refine (pick_c _ A n c 133 14 _ hR4 (by omega) (by omega)).mono ?_
  rintro e w5 ⟨r4, rfl, h40, h41, hR5, hK5⟩
  have hKK : Kp (w.heap.size + 1 + 1) w3 w5 := hK4.trans hK5
  have hs5 := hKK.size
  replace q0 := (hKK.cell (by omega) (by omega)).trans q0
  replace q1 := (hKK.cell (by omega) (by omega)).trans q1
  replace q2 := (hKK.cell (by omega) (by omega)).trans q2
  replace p0 := (hKK.cell (by omega) (by omega)).trans p0
  replace p1 := (hKK.cell (by omega) (by omega)).trans p1
  replace p2 := (hKK.cell (by omega) (by omega)).trans p2
  replace p3 := (hKK.cell (by omega) (by omega)).trans p3
  replace p4 := (hKK.cell (by omega) (by omega)).trans p4
  replace y0 := (hKK.cell (by omega) (by omega)).trans y0
  replace y1 := (hKK.cell (by omega) (by omega)).trans y1
  replace y2 := (hKK.cell (by omega) (by omega)).trans y2
  replace v0 := (kfroz hKK (by omega) (by omega) _).trans v0
  replace v1 := (kfroz hKK (by omega) (by omega) _).trans v1
  replace v2 := (kfroz hKK (by omega) (by omega) _).trans v2
  replace f0 := (kfroz hKK (by omega) (by omega) _).trans f0
  replace f1 := (kfroz hKK (by omega) (by omega) _).trans f1
  replace f2 := (kfroz hKK (by omega) (by omega) _).trans f2
  replace f3 := (kfroz hKK (by omega) (by omega) _).trans f3
  replace f4 := (kfroz hKK (by omega) (by omega) _).trans f4
  have HD5 := Lib.hid (HD.out.keepK hKK (by omega))
  have HB5 := Lib.hid (HB3.out.trans (hKK.below (N := w.heap.size) (by omega) (by omega)))
  have HR5 : Hid (Rdr w5.drew (w.heap.size + 1 + 1) A n c 134) := Lib.hid (hR5.keep (Below.refl _ _).drew)
  clear hR4 hK4 hR5 hK5 hKK HD HB3 HR
  go_wp2_with fail
  refine reg_beginS (S := fun w' => w'.cell? ⟨w2.heap.size, 0, none⟩ = some (.int .i64 g1) ∧ w'.cell? ⟨w2.heap.size, 1, none⟩ = some (.int .i64 h1) ∧ w'.cell? ⟨w2.heap.size, 2, none⟩ = some (.int .i64 k1)) ⟨y0, y1, y2⟩ (by kernel_rfl) (fun hHeld => ?_)
  refine reg_take 0 23 (v := ?_) rfl rfl (by kernel_rfl) (by kernel_rfl) (by kernel_rfl) (fun _ _ _ h => h) (Or.inl ⟨by rfl, ?_⟩) hHeld ?_
  rotate_left 1
  · intro wS hSw; go_simp <;> with_reducible rfl
  simp only [put_lit, List.set_cons_zero, List.set_cons_succ]
  refine reg_take 1 24 (v := ?_) rfl rfl (by kernel_rfl) (by kernel_rfl) (by kernel_rfl) (fun _ _ _ h => h) (Or.inl ⟨by rfl, ?_⟩) hHeld ?_
  rotate_left 1
  · intro wS hSw; obtain ⟨z0, z1, z2⟩ := hSw; go_simp <;> with_reducible rfl
  simp only [put_lit, List.set_cons_zero, List.set_cons_succ]
  refine reg_take 2 25 (v := ?_) rfl rfl (by kernel_rfl) (by kernel_rfl) (by kernel_rfl) (fun _ _ _ h => h) (Or.inl ⟨by rfl, ?_⟩) hHeld ?_
  rotate_left 1
  · intro wS hSw; go_simp <;> with_reducible rfl
  simp only [put_lit, List.set_cons_zero, List.set_cons_succ]
  refine reg_take 3 26 (v := ?_) rfl rfl (by kernel_rfl) (by kernel_rfl) (by kernel_rfl) (fun _ _ _ h => h) (Or.inl ⟨by rfl, ?_⟩) hHeld ?_
  rotate_left 1
  · intro wS hSw; go_simp <;> with_reducible rfl
  simp only [put_lit, List.set_cons_zero, List.set_cons_succ]
  refine wpAnyH_ready (rs := [4]) (by kernel_rfl) (by simp) ?_
  refine AllReadyH.cons rfl (fun K hK => ?_) AllReadyH.nil
  go_simp
  refine (page_any _ A n c 134 14 _ HR5.out (by omega) (by omega) (by omega)).mono ?_
  rintro e wq1 ⟨⟨pf, pfi, ppl, pva, pst⟩, rfl, hR6, hK6⟩
  simp only [Pg.val]
  have KW : Kp (w.heap.size + 1 + 1) w5 wq1 := ((Kp.refl _ w5).drewN 1).trans hK6
  have hs6 := KW.size
  replace q0 := (KW.cell (by omega) (by omega)).trans q0
  replace q1 := (KW.cell (by omega) (by omega)).trans q1
  replace q2 := (KW.cell (by omega) (by omega)).trans q2
  replace p0 := (KW.cell (by omega) (by omega)).trans p0
  replace p1 := (KW.cell (by omega) (by omega)).trans p1
  replace p2 := (KW.cell (by omega) (by omega)).trans p2
  replace p3 := (KW.cell (by omega) (by omega)).trans p3
  replace p4 := (KW.cell (by omega) (by omega)).trans p4
  replace y0 := (KW.cell (by omega) (by omega)).trans y0
  replace y1 := (KW.cell (by omega) (by omega)).trans y1
  replace y2 := (KW.cell (by omega) (by omega)).trans y2
  replace v0 := (kfroz KW (by omega) (by omega) _).trans v0
  replace v1 := (kfroz KW (by omega) (by omega) _).trans v1
  replace v2 := (kfroz KW (by omega) (by omega) _).trans v2
  replace f0 := (kfroz KW (by omega) (by omega) _).trans f0
  replace f1 := (kfroz KW (by omega) (by omega) _).trans f1
  replace f2 := (kfroz KW (by omega) (by omega) _).trans f2
  replace f3 := (kfroz KW (by omega) (by omega) _).trans f3
  replace f4 := (kfroz KW (by omega) (by omega) _).trans f4
  have HD6 := Lib.hid (HD5.out.keepK KW (by omega))
  have HB6 := Lib.hid (HB5.out.trans (KW.below (N := w.heap.size) (by omega) (by omega)))
  clear hR6 hK6 KW
  go_wp2_with fail
  refine hK.out _ _ ?_ (fun hHeld => ?_)
  · exact ⟨y0, y1, y2⟩
  clear hK K
  (try simp only [put_lit, List.set_cons_zero, List.set_cons_succ])
  refine reg_take 5 2 (v := ?_) rfl rfl (by kernel_rfl) (by kernel_rfl) (by kernel_rfl) (fun _ _ _ h => h) (Or.inl ⟨by rfl, ?_⟩) hHeld ?_
  rotate_left 1
  · intro wS hSw; go_simp <;> with_reducible rfl
  simp only [put_lit, List.set_cons_zero, List.set_cons_succ]
  refine wpAnyH_ready (rs := [6]) (by kernel_rfl) (by simp) ?_
  refine AllReadyH.cons rfl (fun K hK => ?_) AllReadyH.nil
  go_simp
  refine hK.out _ _ ?_ (fun hHeld => ?_)
  · exact ⟨by go_simp, by go_simp, by go_simp⟩
  clear hK K
  (try simp only [put_lit, List.set_cons_zero, List.set_cons_succ])
  refine reg_take 7 4 (v := ?_) rfl rfl (by kernel_rfl) (by kernel_rfl) (by kernel_rfl) (fun _ _ _ h => h) (Or.inl ⟨by rfl, ?_⟩) hHeld ?_
  rotate_left 1
  · intro wS hSw; go_simp <;> with_reducible rfl
  simp only [put_lit, List.set_cons_zero, List.set_cons_succ]
  refine wpAnyH_ready (rs := [8]) (by kernel_rfl) (by simp) ?_
  refine AllReadyH.cons rfl (fun K hK => ?_) AllReadyH.nil
  go_simp
  refine hK.out _ _ ?_ (fun hHeld => ?_)
  · exact ⟨by go_simp, by go_simp, by go_simp⟩
  clear hK K
  (try simp only [put_lit, List.set_cons_zero, List.set_cons_succ])
  refine wpAnyH_done (by kernel_rfl) ?_ _
  go_wp2
  refine bodyPost_ret (v := .tuple #[.slice A' m c', .agg #[.int .i64 g1, .int .i64 h1, .int .i64 k1], .int .i64 (r3 - r4 / 13), .agg #[.bool pf, .int .i64 pfi, .int .i64 ppl, .int .i64 pva, .int .i64 pst]]) (by simp [results, Try.results52, go_sem, q0, q1, q2, p0, p1, p2, p3, p4]) rfl ⟨A', m, c', ds, g1, h1, k1, _, ⟨pf, pfi, ppl, pva, pst⟩, rfl, hmc, hm13, ?_, ?_⟩
  · exact ((((((((HD6.out.setLow (a := ⟨w.heap.size, 0, none⟩) (by simp only []; omega) _).setLow (a := ⟨w.heap.size, 1, none⟩) (by simp only []; omega) _).setLow (a := ⟨w.heap.size, 2, none⟩) (by simp only []; omega) _).setLow (a := ⟨w.heap.size + 1, 0, none⟩) (by simp only []; omega) _).setLow (a := ⟨w.heap.size + 1, 1, none⟩) (by simp only []; omega) _).setLow (a := ⟨w.heap.size + 1, 2, none⟩) (by simp only []; omega) _).setLow (a := ⟨w.heap.size + 1, 3, none⟩) (by simp only []; omega) _).setLow (a := ⟨w.heap.size + 1, 4, none⟩) (by simp only []; omega) _).at
  · exact bel_s5 (bel_t3 HB6.out (Nat.le_refl _) g1 h1 k1) (by omega) _ _ _ _ _

end Go.Proofs.Yteekikaebmkioaa
