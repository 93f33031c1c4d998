/-auto What the program's and the reference's ReadPage return. -/
import Derived.Test.YteekikaebmkioaaDevices
import Derived.RegionTactic
import Derived.ChangeAlike
namespace Go.Proofs.Yteekikaebmkioaa
open Go.RowKit
set_option linter.unusedVariables false

theorem rp_1 (ds : List Bl) (a : Int) (h : deviceValidF ds = false) : readPageF ds a = (Pg.zero, false) := by rw [readPageF, h]; rfl
theorem rp_2 (ds : List Bl) (n : Nat) (a : Int) (hl : ds.length = n) (h : ¬ (0 ≤ a ∧ a < 4 * n)) : readPageF ds a = (Pg.zero, false) := by
  rw [readPageF, hl, if_neg]
  simp only [Bool.and_eq_true, inB, decide_eq_true_eq]
  omega
theorem rp_3 (ds : List Bl) (n q r : Nat) (a : Int) (hl : ds.length = n) (hv : deviceValidF ds = true) (ha : a = ((4 * q + r : Nat) : Int)) (hr : r < 4) (hq : q < n) :
    readPageF ds a = (pgAt (blAt ds q).pages r, (pgAt (blAt ds q).pages r).full) := by
  rw [readPageF, hv, hl, inB_t (by omega) (by omega)]
  rw [show (a / 4).toNat = q by omega, show (a % 4).toNat = r by omega]
  rfl
theorem allTo_at (ds : List Bl) {k n : Nat} (h : allTo ds n = true) (hk : k < n) : blockValidF (blAt ds k) = true := by
  cases e : blockValidF (blAt ds k)
  · rw [allTo_false ds hk e] at h; cases h
  · rfl
theorem dv_at (ds : List Bl) (n k : Nat) (hl : ds.length = n) (h : deviceValidF ds = true) (hk : k < n) : blockValidF (blAt ds k) = true := by
  rw [deviceValidF, Bool.and_eq_true, hl] at h
  exact allTo_at ds h.2 hk
theorem dv_len (ds : List Bl) (n : Nat) (hl : ds.length = n) (h : deviceValidF ds = true) : 1 ≤ n ∧ n ≤ 12 := by
  rw [deviceValidF, Bool.and_eq_true, hl] at h
  have := h.1
  simp only [inB, Bool.and_eq_true, decide_eq_true_eq] at this
  omega

set_option maxHeartbeats 1000000 in
theorem iReadPage (A : Option Addr) (n c : Nat) (ds : List Bl) (a : Int) (w : World) (h : DevAt w A n ds) :
    Calls Try.prog 34 #[.slice A n c, .int .i64 a] w fun e w' => e = .returned (.tuple #[(readPageF ds a).1.val, .bool (readPageF ds a).2]) ∧ Below w.heap.size w w' := by
  have HP := Lib.hid h
  have hm := h.2.1
  have HL := Lib.hid h.1
  clear h
  go_enter Try.func34, Try.ntmps34
  go_wp2_with fail
  refine (iDeviceValid _ _ _ ds _ (HP.out.keep (bel_1 _ _))).mono ?_
  rintro e w1 ⟨rfl, hb1⟩
  have HB1 := Lib.hid (bel_t (bel_1 _ _) hb1)
  have z0 : w1.cell? ⟨w.heap.size, 0, none⟩ = some (.bool false) := stays_below hb1 _ _ _ (by simp [go_sem])
  have z1 : w1.cell? ⟨w.heap.size, 1, none⟩ = some (.int .i64 0) := stays_below hb1 _ _ _ (by simp [go_sem])
  have z2 : w1.cell? ⟨w.heap.size, 2, none⟩ = some (.int .i64 0) := stays_below hb1 _ _ _ (by simp [go_sem])
  have z3 : w1.cell? ⟨w.heap.size, 3, none⟩ = some (.int .i64 0) := stays_below hb1 _ _ _ (by simp [go_sem])
  have z4 : w1.cell? ⟨w.heap.size, 4, none⟩ = some (.int .i64 0) := stays_below hb1 _ _ _ (by simp [go_sem])
  have f0 : w1.frozen? ⟨w.heap.size, 0, none⟩ = false := ((bcell hb1).2 _ 0 (by simp)).trans (by simp [go_sem])
  have f1 : w1.frozen? ⟨w.heap.size, 1, none⟩ = false := ((bcell hb1).2 _ 1 (by simp)).trans (by simp [go_sem])
  have f2 : w1.frozen? ⟨w.heap.size, 2, none⟩ = false := ((bcell hb1).2 _ 2 (by simp)).trans (by simp [go_sem])
  have f3 : w1.frozen? ⟨w.heap.size, 3, none⟩ = false := ((bcell hb1).2 _ 3 (by simp)).trans (by simp [go_sem])
  have f4 : w1.frozen? ⟨w.heap.size, 4, none⟩ = false := ((bcell hb1).2 _ 4 (by simp)).trans (by simp [go_sem])
  have hz1 : w.heap.size < w1.heap.size := block_lt_of_cell z0
  clear hb1
  cases hv : deviceValidF ds
  · have HF := Lib.hid (rp_1 ds a hv)
    clear hv
    go_wp2
    refine bodyPost_ret (v := .tuple #[Pg.zero.val, .bool false]) (by simp [results, Try.results34, go_sem, Pg.val, Pg.zero, z0, z1, z2, z3, z4]) rfl ⟨by rw [HF.out], ?_⟩
    exact bel_s5 HB1.out (Nat.le_refl _) _ _ _ _ _
  · by_cases ha : 0 ≤ a ∧ a < 4 * n
    · obtain ⟨q, r, hr, ea⟩ : ∃ q r : Nat, r < 4 ∧ a = ((4 * q + r : Nat) : Int) := ⟨(a / 4).toNat, (a % 4).toNat, by omega, by omega⟩
      have hq : q < n := by omega
      have HF := Lib.hid (rp_3 ds n q r a HL.out hv ea hr hq)
      have HV := Lib.hid (dv_at ds n q HL.out hv hq)
      have hn12 := (dv_len ds n HL.out hv).2
      have e1 : a.tdiv 4 = (q : Int) := by rw [Int.tdiv_eq_ediv_of_nonneg (by omega)]; omega
      have e2 : a.tmod 4 = (r : Int) := by rw [Int.tmod_eq_emod_of_nonneg (by omega)]; omega
      obtain ⟨b, o, rfl, hC⟩ := HP.out.2.2 (by omega)
      obtain ⟨A', m, c', c0, c1, hps⟩ := (hC q hq).keepS (stays_below HB1.out)
      obtain rfl : m = 4 := hps.1.symm.trans (bv_len _ HV.out)
      obtain ⟨b', o', rfl, hD⟩ := hps.2.2 (by omega)
      obtain ⟨d0, d1, d2, d3, d4⟩ := hD r hr
      rcases hp : pgAt (blAt ds q).pages r with ⟨f, fi, pl, va, st⟩
      rw [hp] at d0 d1 d2 d3 d4 HF
      simp only [] at d0 d1 d2 d3 d4 HF
      have hs0 : b' < w1.heap.size := block_lt_of_cell d0
      clear hC hps hD hp hv ea
      obtain ⟨ha0, ha1⟩ := ha
      go_wp2
      have HBW := Lib.hid (bel_t HB1.out (bel_1 w1 (.cells #[.bool f, .int .i64 fi, .int .i64 pl, .int .i64 va, .int .i64 st] 32)))
      have x0 : (w1.alloc (.cells #[.bool f, .int .i64 fi, .int .i64 pl, .int .i64 va, .int .i64 st] 32)).cell? ⟨w1.heap.size, 0, none⟩ = some (.bool f) := by simp [go_sem]
      have x1 : (w1.alloc (.cells #[.bool f, .int .i64 fi, .int .i64 pl, .int .i64 va, .int .i64 st] 32)).cell? ⟨w1.heap.size, 1, none⟩ = some (.int .i64 fi) := by simp [go_sem]
      have x2 : (w1.alloc (.cells #[.bool f, .int .i64 fi, .int .i64 pl, .int .i64 va, .int .i64 st] 32)).cell? ⟨w1.heap.size, 2, none⟩ = some (.int .i64 pl) := by simp [go_sem]
      have x3 : (w1.alloc (.cells #[.bool f, .int .i64 fi, .int .i64 pl, .int .i64 va, .int .i64 st] 32)).cell? ⟨w1.heap.size, 3, none⟩ = some (.int .i64 va) := by simp [go_sem]
      have x4 : (w1.alloc (.cells #[.bool f, .int .i64 fi, .int .i64 pl, .int .i64 va, .int .i64 st] 32)).cell? ⟨w1.heap.size, 4, none⟩ = some (.int .i64 st) := by simp [go_sem]
      replace z0 := stays_below (bel_1 w1 (.cells #[.bool f, .int .i64 fi, .int .i64 pl, .int .i64 va, .int .i64 st] 32)) _ _ _ z0
      replace f0 := ((bcell (bel_1 w1 (.cells #[.bool f, .int .i64 fi, .int .i64 pl, .int .i64 va, .int .i64 st] 32))).2 _ 0 hz1).trans f0
      replace z1 := stays_below (bel_1 w1 (.cells #[.bool f, .int .i64 fi, .int .i64 pl, .int .i64 va, .int .i64 st] 32)) _ _ _ z1
      replace f1 := ((bcell (bel_1 w1 (.cells #[.bool f, .int .i64 fi, .int .i64 pl, .int .i64 va, .int .i64 st] 32))).2 _ 1 hz1).trans f1
      replace z2 := stays_below (bel_1 w1 (.cells #[.bool f, .int .i64 fi, .int .i64 pl, .int .i64 va, .int .i64 st] 32)) _ _ _ z2
      replace f2 := ((bcell (bel_1 w1 (.cells #[.bool f, .int .i64 fi, .int .i64 pl, .int .i64 va, .int .i64 st] 32))).2 _ 2 hz1).trans f2
      replace z3 := stays_below (bel_1 w1 (.cells #[.bool f, .int .i64 fi, .int .i64 pl, .int .i64 va, .int .i64 st] 32)) _ _ _ z3
      replace f3 := ((bcell (bel_1 w1 (.cells #[.bool f, .int .i64 fi, .int .i64 pl, .int .i64 va, .int .i64 st] 32))).2 _ 3 hz1).trans f3
      replace z4 := stays_below (bel_1 w1 (.cells #[.bool f, .int .i64 fi, .int .i64 pl, .int .i64 va, .int .i64 st] 32)) _ _ _ z4
      replace f4 := ((bcell (bel_1 w1 (.cells #[.bool f, .int .i64 fi, .int .i64 pl, .int .i64 va, .int .i64 st] 32))).2 _ 4 hz1).trans f4
      generalize w1.alloc (.cells #[.bool f, .int .i64 fi, .int .i64 pl, .int .i64 va, .int .i64 st] 32) = W1 at *
      clear c0 c1 d0 d1 d2 d3 d4 HP HB1
      go_region
      all_goals go_wp2
      all_goals
        refine bodyPost_ret (v := .tuple #[.agg #[.bool f, .int .i64 fi, .int .i64 pl, .int .i64 va, .int .i64 st], .bool f]) (by simp [results, Try.results34, go_sem, z0, z1, z2, z3, z4]) rfl ⟨by rw [HF.out]; rfl, ?_⟩
        exact (bel_s5 HBW.out (Nat.le_refl _) _ _ _ _ _).drew
    · have HF := Lib.hid (rp_2 ds n a HL.out ha)
      have hn12 := (dv_len ds n HL.out hv).2
      clear hv
      by_cases h0 : a < 0
      · go_wp2
        refine bodyPost_ret (v := .tuple #[Pg.zero.val, .bool false]) (by simp [results, Try.results34, go_sem, Pg.val, Pg.zero, z0, z1, z2, z3, z4]) rfl ⟨by rw [HF.out], ?_⟩
        exact bel_s5 HB1.out (Nat.le_refl _) _ _ _ _ _
      · have h1 : (n : Int) * 4 ≤ a := by omega
        clear ha
        go_wp2
        refine bodyPost_ret (v := .tuple #[Pg.zero.val, .bool false]) (by simp [results, Try.results34, go_sem, Pg.val, Pg.zero, z0, z1, z2, z3, z4]) rfl ⟨by rw [HF.out], ?_⟩
        exact bel_s5 HB1.out (Nat.le_refl _) _ _ _ _ _

set_option maxHeartbeats 1000000 in
theorem sReadPage (A : Option Addr) (n c : Nat) (ds : List Bl) (a : Int) (w : World) (h : DevAt w A n ds) :
    Calls Try.prog 35 #[.slice A n c, .int .i64 a] w fun e w' => e = .returned (.tuple #[(readPageF ds a).1.val, .bool (readPageF ds a).2]) ∧ Below w.heap.size w w' := by
  have HP := Lib.hid h
  have hm := h.2.1
  have HL := Lib.hid h.1
  clear h
  go_enter Try.func35, Try.ntmps35
  go_wp2_with fail
  refine (sDeviceValid _ _ _ ds _ (HP.out.keep (bel_1 _ _))).mono ?_
  rintro e w1 ⟨rfl, hb1⟩
  have HB1 := Lib.hid (bel_t (bel_1 _ _) hb1)
  have z0 : w1.cell? ⟨w.heap.size, 0, none⟩ = some (.bool false) := stays_below hb1 _ _ _ (by simp [go_sem])
  have z1 : w1.cell? ⟨w.heap.size, 1, none⟩ = some (.int .i64 0) := stays_below hb1 _ _ _ (by simp [go_sem])
  have z2 : w1.cell? ⟨w.heap.size, 2, none⟩ = some (.int .i64 0) := stays_below hb1 _ _ _ (by simp [go_sem])
  have z3 : w1.cell? ⟨w.heap.size, 3, none⟩ = some (.int .i64 0) := stays_below hb1 _ _ _ (by simp [go_sem])
  have z4 : w1.cell? ⟨w.heap.size, 4, none⟩ = some (.int .i64 0) := stays_below hb1 _ _ _ (by simp [go_sem])
  have f0 : w1.frozen? ⟨w.heap.size, 0, none⟩ = false := ((bcell hb1).2 _ 0 (by simp)).trans (by simp [go_sem])
  have f1 : w1.frozen? ⟨w.heap.size, 1, none⟩ = false := ((bcell hb1).2 _ 1 (by simp)).trans (by simp [go_sem])
  have f2 : w1.frozen? ⟨w.heap.size, 2, none⟩ = false := ((bcell hb1).2 _ 2 (by simp)).trans (by simp [go_sem])
  have f3 : w1.frozen? ⟨w.heap.size, 3, none⟩ = false := ((bcell hb1).2 _ 3 (by simp)).trans (by simp [go_sem])
  have f4 : w1.frozen? ⟨w.heap.size, 4, none⟩ = false := ((bcell hb1).2 _ 4 (by simp)).trans (by simp [go_sem])
  have hz1 : w.heap.size < w1.heap.size := block_lt_of_cell z0
  clear hb1
  cases hv : deviceValidF ds
  · have HF := Lib.hid (rp_1 ds a hv)
    clear hv
    go_wp2
    refine bodyPost_ret (v := .tuple #[Pg.zero.val, .bool false]) (by simp [results, Try.results35, go_sem, Pg.val, Pg.zero, z0, z1, z2, z3, z4]) rfl ⟨by rw [HF.out], ?_⟩
    exact bel_s5 HB1.out (Nat.le_refl _) _ _ _ _ _
  · by_cases ha : 0 ≤ a ∧ a < 4 * n
    · obtain ⟨q, r, hr, ea⟩ : ∃ q r : Nat, r < 4 ∧ a = ((4 * q + r : Nat) : Int) := ⟨(a / 4).toNat, (a % 4).toNat, by omega, by omega⟩
      have hq : q < n := by omega
      have HF := Lib.hid (rp_3 ds n q r a HL.out hv ea hr hq)
      have HV := Lib.hid (dv_at ds n q HL.out hv hq)
      have hn12 := (dv_len ds n HL.out hv).2
      have e1 : a.tdiv 4 = (q : Int) := by rw [Int.tdiv_eq_ediv_of_nonneg (by omega)]; omega
      have e2 : a.tmod 4 = (r : Int) := by rw [Int.tmod_eq_emod_of_nonneg (by omega)]; omega
      obtain ⟨b, o, rfl, hC⟩ := HP.out.2.2 (by omega)
      obtain ⟨A', m, c', c0, c1, hps⟩ := (hC q hq).keepS (stays_below HB1.out)
      obtain rfl : m = 4 := hps.1.symm.trans (bv_len _ HV.out)
      obtain ⟨b', o', rfl, hD⟩ := hps.2.2 (by omega)
      obtain ⟨d0, d1, d2, d3, d4⟩ := hD r hr
      rcases hp : pgAt (blAt ds q).pages r with ⟨f, fi, pl, va, st⟩
      rw [hp] at d0 d1 d2 d3 d4 HF
      simp only [] at d0 d1 d2 d3 d4 HF
      have hs0 : b' < w1.heap.size := block_lt_of_cell d0
      clear hC hps hD hp hv ea
      have hin := inB_t (n := a) (lo := 0) (hi := 4 * (n : Int) - 1) (by omega) (by omega)
      go_wp2_with fail
      refine (l1In_any _ _ _ _).mono ?_
      rw [hin]
      rintro e w' ⟨rfl, rfl⟩
      go_wp2
      have HBW := Lib.hid (bel_t HB1.out (bel_1 w1 (.cells #[.bool f, .int .i64 fi, .int .i64 pl, .int .i64 va, .int .i64 st] 32)))
      have x0 : (w1.alloc (.cells #[.bool f, .int .i64 fi, .int .i64 pl, .int .i64 va, .int .i64 st] 32)).cell? ⟨w1.heap.size, 0, none⟩ = some (.bool f) := by simp [go_sem]
      have x1 : (w1.alloc (.cells #[.bool f, .int .i64 fi, .int .i64 pl, .int .i64 va, .int .i64 st] 32)).cell? ⟨w1.heap.size, 1, none⟩ = some (.int .i64 fi) := by simp [go_sem]
      have x2 : (w1.alloc (.cells #[.bool f, .int .i64 fi, .int .i64 pl, .int .i64 va, .int .i64 st] 32)).cell? ⟨w1.heap.size, 2, none⟩ = some (.int .i64 pl) := by simp [go_sem]
      have x3 : (w1.alloc (.cells #[.bool f, .int .i64 fi, .int .i64 pl, .int .i64 va, .int .i64 st] 32)).cell? ⟨w1.heap.size, 3, none⟩ = some (.int .i64 va) := by simp [go_sem]
      have x4 : (w1.alloc (.cells #[.bool f, .int .i64 fi, .int .i64 pl, .int .i64 va, .int .i64 st] 32)).cell? ⟨w1.heap.size, 4, none⟩ = some (.int .i64 st) := by simp [go_sem]
      replace z0 := stays_below (bel_1 w1 (.cells #[.bool f, .int .i64 fi, .int .i64 pl, .int .i64 va, .int .i64 st] 32)) _ _ _ z0
      replace f0 := ((bcell (bel_1 w1 (.cells #[.bool f, .int .i64 fi, .int .i64 pl, .int .i64 va, .int .i64 st] 32))).2 _ 0 hz1).trans f0
      replace z1 := stays_below (bel_1 w1 (.cells #[.bool f, .int .i64 fi, .int .i64 pl, .int .i64 va, .int .i64 st] 32)) _ _ _ z1
      replace f1 := ((bcell (bel_1 w1 (.cells #[.bool f, .int .i64 fi, .int .i64 pl, .int .i64 va, .int .i64 st] 32))).2 _ 1 hz1).trans f1
      replace z2 := stays_below (bel_1 w1 (.cells #[.bool f, .int .i64 fi, .int .i64 pl, .int .i64 va, .int .i64 st] 32)) _ _ _ z2
      replace f2 := ((bcell (bel_1 w1 (.cells #[.bool f, .int .i64 fi, .int .i64 pl, .int .i64 va, .int .i64 st] 32))).2 _ 2 hz1).trans f2
      replace z3 := stays_below (bel_1 w1 (.cells #[.bool f, .int .i64 fi, .int .i64 pl, .int .i64 va, .int .i64 st] 32)) _ _ _ z3
      replace f3 := ((bcell (bel_1 w1 (.cells #[.bool f, .int .i64 fi, .int .i64 pl, .int .i64 va, .int .i64 st] 32))).2 _ 3 hz1).trans f3
      replace z4 := stays_below (bel_1 w1 (.cells #[.bool f, .int .i64 fi, .int .i64 pl, .int .i64 va, .int .i64 st] 32)) _ _ _ z4
      replace f4 := ((bcell (bel_1 w1 (.cells #[.bool f, .int .i64 fi, .int .i64 pl, .int .i64 va, .int .i64 st] 32))).2 _ 4 hz1).trans f4
      generalize w1.alloc (.cells #[.bool f, .int .i64 fi, .int .i64 pl, .int .i64 va, .int .i64 st] 32) = W1 at *
      clear c0 c1 d0 d1 d2 d3 d4 HP HB1
      go_region
      all_goals go_wp2
      all_goals
        refine bodyPost_ret (v := .tuple #[.agg #[.bool f, .int .i64 fi, .int .i64 pl, .int .i64 va, .int .i64 st], .bool f]) (by simp [results, Try.results35, go_sem, z0, z1, z2, z3, z4]) rfl ⟨by rw [HF.out]; rfl, ?_⟩
        exact (bel_s5 HBW.out (Nat.le_refl _) _ _ _ _ _).drew
    · have HF := Lib.hid (rp_2 ds n a HL.out ha)
      have hn12 := (dv_len ds n HL.out hv).2
      clear hv
      have hin : inB a 0 (4 * (n : Int) - 1) = false := by simp only [inB, Bool.and_eq_false_iff, decide_eq_false_iff_not]; omega
      go_wp2_with fail
      refine (l1In_any _ _ _ _).mono ?_
      rw [hin]
      rintro e w' ⟨rfl, rfl⟩
      go_wp2
      refine bodyPost_ret (v := .tuple #[Pg.zero.val, .bool false]) (by simp [results, Try.results35, go_sem, Pg.val, Pg.zero, z0, z1, z2, z3, z4]) rfl ⟨by rw [HF.out], ?_⟩
      exact bel_s5 HB1.out (Nat.le_refl _) _ _ _ _ _

end Go.Proofs.Yteekikaebmkioaa
