/-auto What the program's and the reference's FreePages return. -/
import Derived.Test.YteekikaebmkioaaDevices2
namespace Go.Proofs.Yteekikaebmkioaa
open Go.RowKit
set_option linter.unusedVariables false

theorem fullTo_le (ps : List Pg) (k : Nat) : fullTo ps k ≤ k := by
  induction k with
  | zero => rw [fullTo_zero]; omega
  | succ k ih => rw [fullTo_succ]; split <;> omega
theorem fullTo_t (ps : List Pg) (k : Nat) (h : (pgAt ps k).full = true) : fullTo ps (k + 1) = fullTo ps k + 1 := by rw [fullTo_succ, h]; rfl
theorem fullTo_f (ps : List Pg) (k : Nat) (h : (pgAt ps k).full = false) : fullTo ps (k + 1) = fullTo ps k := by rw [fullTo_succ, h]; rfl
/-- how many of a device's first k pages are not written -/
def freeAt (d : List Bl) : Nat → Nat
  | 0 => 0
  | k + 1 => freeAt d k + (if (pgAt (blAt d (k / 4)).pages (k % 4)).full then 0 else 1)
theorem freeAt_zero (d : List Bl) : freeAt d 0 = 0 := rfl
theorem freeAt_succ (d : List Bl) (k : Nat) : freeAt d (k + 1) = freeAt d k + (if (pgAt (blAt d (k / 4)).pages (k % 4)).full then 0 else 1) := rfl
theorem freeAt_t (d : List Bl) (k : Nat) (h : (pgAt (blAt d (k / 4)).pages (k % 4)).full = true) : freeAt d (k + 1) = freeAt d k := by rw [freeAt_succ, h]; rfl
theorem freeAt_f (d : List Bl) (k : Nat) (h : (pgAt (blAt d (k / 4)).pages (k % 4)).full = false) : freeAt d (k + 1) = freeAt d k + 1 := by rw [freeAt_succ, h]; rfl
theorem freeAt_le (d : List Bl) (k : Nat) : freeAt d k ≤ k := by
  induction k with
  | zero => rw [freeAt_zero]; omega
  | succ k ih => rw [freeAt_succ]; split <;> omega
theorem freeAt_four (d : List Bl) (k : Nat) (h : ∀ i, i < k → (blAt d i).pages.length = 4) : (freeAt d (4 * k) : Int) = freeTo d k := by
  induction k with
  | zero => rw [Nat.mul_zero, freeAt_zero, freeTo_zero]; rfl
  | succ k ih =>
    rw [freeTo_succ, ← ih (fun i hi => h i (by omega)), h k (by omega), show 4 * (k + 1) = 4 * k + 1 + 1 + 1 + 1 by omega]
    rw [freeAt_succ, freeAt_succ, freeAt_succ, freeAt_succ]
    rw [show (4 * k) / 4 = k by omega, show (4 * k) % 4 = 0 by omega, show (4 * k + 1) / 4 = k by omega, show (4 * k + 1) % 4 = 1 by omega, show (4 * k + 1 + 1) / 4 = k by omega, show (4 * k + 1 + 1) % 4 = 2 by omega, show (4 * k + 1 + 1 + 1) / 4 = k by omega, show (4 * k + 1 + 1 + 1) % 4 = 3 by omega]
    rw [fullTo_succ, fullTo_succ, fullTo_succ, fullTo_succ, fullTo_zero]
    cases (pgAt (blAt d k).pages 0).full <;> cases (pgAt (blAt d k).pages 1).full <;> cases (pgAt (blAt d k).pages 2).full <;> cases (pgAt (blAt d k).pages 3).full <;> simp <;> omega
attribute [irreducible] freeAt
theorem fp_1 (d : List Bl) (h : deviceValidF d = false) : freePagesF d = -1 := by rw [freePagesF, h]; rfl
theorem fp_2 (d : List Bl) (n : Nat) (hl : d.length = n) (h : deviceValidF d = true) : freePagesF d = freeTo d n := by rw [freePagesF, h, hl]; rfl
theorem fp_4 (d : List Bl) (n k : Nat) (hl : d.length = n) (h : deviceValidF d = true) (hk : k ≤ n) : freeTo d k = (freeAt d (4 * k) : Int) :=
  (freeAt_four d k (fun i hi => bv_len _ (dv_at d n i hl h (by omega)))).symm

set_option maxHeartbeats 400000 in
theorem iWritten (x : Int) (A : Option Addr) (n c : Nat) (ps : List Pg) (w : World) (h : PgsAt w A n ps) :
    Calls Try.prog 70 #[.agg #[.int .i64 x, .slice A n c]] w fun e w' => e = .returned (.int .i64 (fullTo ps n : Int)) ∧ Below w.heap.size w w' := by
  have HP := Lib.hid h
  have hm := h.2.1
  clear h
  go_enter Try.func70, Try.ntmps70
  go_wp2
  have HB0 := Lib.hid (bel_1 w (.cells #[.int .i64 x, .slice A n c] 25))
  generalize w.alloc (.cells #[.int .i64 x, .slice A n c] 25) = W at *
  go_loopw [3, 9] (fun v i wr => ∃ (k : Nat) (y : Int), k ≤ n ∧ v = .int .i64 y ∧ Hid (y = (fullTo ps k : Int)) ∧ i = .int .i64 (k : Int) ∧ Hid (Below w.heap.size w wr)) (fun _ i _ => n - (intOf i).toNat)
  case atStart => exact ⟨0, 0, by omega, rfl, (by show (0 : Int) = _; rw [fullTo_zero]; rfl), rfl, HB0.out⟩
  case round =>
    obtain ⟨k, y, hk, rfl, HY, rfl, HB⟩ := hrel
    by_cases hkn : k = n
    · subst hkn
      go_wp2
      go_ret
      exact ⟨by rw [← HY.out]; rfl, HB.out⟩
    · have hy0 : 0 ≤ y := by rw [HY.out]; omega
      have hy1 : y < 9223372036854775807 := by rw [HY.out]; have := fullTo_le ps k; omega
      obtain ⟨b, o, rfl, hC⟩ := HP.out.2.2 (by omega)
      obtain ⟨c0, c1, c2, c3, c4⟩ := (hC k (by omega)).keep (stays_below HB.out)
      clear hC
      rcases hp : pgAt ps k with ⟨f, fi, pl, va, st⟩
      rw [hp] at c0 c1 c2 c3 c4
      simp only [] at c0 c1 c2 c3 c4
      cases f
      · have HG := Lib.hid (fullTo_f ps k (by rw [hp]))
        clear hp
        go_wp2
        go_round
        case rel => exact ⟨k + 1, y, by omega, rfl, (by show y = _; rw [HG.out, HY.out]), by simp, (bel_t HB.out (bel_1 _ _) : Below _ _ _)⟩
        case measure => simp [intOf]; omega
      · have HG := Lib.hid (fullTo_t ps k (by rw [hp]))
        clear hp
        go_wp2
        go_round
        case rel => exact ⟨k + 1, y + 1, by omega, rfl, (by show y + 1 = _; rw [HG.out, HY.out]; simp), by simp, (bel_t HB.out (bel_1 _ _) : Below _ _ _)⟩
        case measure => simp [intOf]; omega

set_option maxHeartbeats 400000 in
theorem iFreePages (A : Option Addr) (n c : Nat) (ds : List Bl) (w : World) (h : DevAt w A n ds) :
    Calls Try.prog 40 #[.slice A n c] w fun e w' => e = .returned (.int .i64 (freePagesF ds)) ∧ Below w.heap.size w w' := by
  have HP := Lib.hid h
  have hm := h.2.1
  have HL := Lib.hid h.1
  clear h
  go_enter Try.func40, Try.ntmps40
  go_wp2_with fail
  refine (iDeviceValid _ _ _ ds _ HP.out).mono ?_
  rintro e w1 ⟨rfl, hb1⟩
  have HB1 := Lib.hid hb1
  clear hb1
  cases hv : deviceValidF ds
  · have HF := Lib.hid (fp_1 ds hv)
    clear hv
    go_wp2
    go_ret
    exact ⟨by rw [HF.out]; rfl, HB1.out⟩
  · have HF := Lib.hid (fp_2 ds n HL.out hv)
    have HV := Lib.hid hv
    have hn12 := (dv_len ds n HL.out hv).2
    clear hv
    go_wp2
    go_loopw [3, 11] (fun v i wr => ∃ (k : Nat) (y : Int), k ≤ n ∧ v = .int .i64 y ∧ Hid (y = freeTo ds k) ∧ i = .int .i64 (k : Int) ∧ Hid (Below w.heap.size w wr)) (fun _ i _ => n - (intOf i).toNat)
    case atStart => exact ⟨0, 0, by omega, rfl, (by show (0 : Int) = _; rw [freeTo_zero]), rfl, HB1.out⟩
    case round =>
      obtain ⟨k, y, hk, rfl, HY, rfl, HB⟩ := hrel
      by_cases hkn : k = n
      · subst hkn
        go_wp2
        go_ret
        exact ⟨by rw [HF.out, ← HY.out]; rfl, HB.out⟩
      · have hy := HY.out.trans (fp_4 ds n k HL.out HV.out hk)
        have hy0 : 0 ≤ y := by omega
        have hy1 : y ≤ 48 := by have := freeAt_le ds (4 * k); omega
        clear hy
        have hlen := bv_len _ (dv_at ds n k HL.out HV.out (by omega))
        have HG := Lib.hid (freeTo_succ ds k)
        rw [hlen] at HG
        obtain ⟨b, o, rfl, hC⟩ := HP.out.2.2 (by omega)
        obtain ⟨A', m, c', c0, c1, hps⟩ := (hC k (by omega)).keepS (stays_below HB.out)
        obtain rfl : m = 4 := hps.1.symm.trans hlen
        have HM := Lib.hid hps
        clear hC hps hlen
        go_wp2_with fail
        refine (iWritten _ _ _ _ _ _ (HM.out.keep (bel_1 _ _))).mono ?_
        have hw4 := fullTo_le (blAt ds k).pages 4
        generalize fullTo (blAt ds k).pages 4 = u at *
        rintro e w2 ⟨rfl, hb2⟩
        have HB2 := Lib.hid (bel_t (bel_t HB.out (bel_1 _ _)) hb2)
        clear hb2
        go_wp2
        go_round
        case rel => exact ⟨k + 1, y + (4 - u), by omega, rfl, (by show _ = _; rw [HG.out, HY.out]), by simp, HB2⟩
        case measure => simp [intOf]; omega

set_option maxHeartbeats 400000 in
theorem sFreePages (A : Option Addr) (n c : Nat) (ds : List Bl) (w : World) (h : DevAt w A n ds) :
    Calls Try.prog 42 #[.slice A n c] w fun e w' => e = .returned (.int .i64 (freePagesF ds)) ∧ Below w.heap.size w w' := by
  have HP := Lib.hid h
  have hm := h.2.1
  have HL := Lib.hid h.1
  clear h
  go_enter Try.func42, Try.ntmps42
  go_wp2_with fail
  refine (sDeviceValid _ _ _ ds _ HP.out).mono ?_
  rintro e w1 ⟨rfl, hb1⟩
  have HB1 := Lib.hid hb1
  clear hb1
  cases hv : deviceValidF ds
  · have HF := Lib.hid (fp_1 ds hv)
    clear hv
    go_wp2
    go_ret
    exact ⟨by rw [HF.out]; rfl, HB1.out⟩
  · have HF := Lib.hid ((fp_2 ds n HL.out hv).trans (fp_4 ds n n HL.out hv (Nat.le_refl _)))
    have HV := Lib.hid hv
    have hn12 := (dv_len ds n HL.out hv).2
    clear hv
    go_wp2
    go_loopw [3, 4] (fun v i wr => ∃ (k : Nat) (y : Int), k ≤ 4 * n ∧ v = .int .i64 y ∧ Hid (y = (freeAt ds k : Int)) ∧ i = .int .i64 (k : Int) ∧ Hid (Below w.heap.size w wr)) (fun _ i _ => 4 * n - (intOf i).toNat)
    case atStart => exact ⟨0, 0, by omega, rfl, (by show (0 : Int) = _; rw [freeAt_zero]; rfl), rfl, HB1.out⟩
    case round =>
      obtain ⟨k, y, hk, rfl, HY, rfl, HB⟩ := hrel
      by_cases hkn : k = 4 * n
      · have hk2 : ¬ ((k : Int) < 4 * (n : Int)) := by omega
        go_wp2
        go_ret
        exact ⟨by rw [HF.out, ← hkn, ← HY.out]; rfl, HB.out⟩
      · have hk2 : (k : Int) < 4 * (n : Int) := by omega
        have hy0 : 0 ≤ y := by rw [HY.out]; omega
        have hy1 : y ≤ 48 := by rw [HY.out]; have := freeAt_le ds k; omega
        have HR := Lib.hid (rp_3 ds n (k / 4) (k % 4) (k : Int) HL.out HV.out (by congr 1; omega) (by omega) (by omega))
        go_wp2_with fail
        refine (sReadPage _ _ _ ds _ _ (HP.out.keep HB.out)).mono ?_
        rw [HR.out]
        rcases hp : pgAt (blAt ds (k / 4)).pages (k % 4) with ⟨f, fi, pl, va, st⟩
        simp only [Pg.val]
        rintro e w2 ⟨rfl, hb2⟩
        have HB2 := Lib.hid (bel_t (bel_t HB.out hb2) (bel_1 _ (.cells #[.bool f, .int .i64 fi, .int .i64 pl, .int .i64 va, .int .i64 st] 32)))
        clear hb2
        cases f
        · have HG := Lib.hid (freeAt_f ds k (by rw [hp]))
          clear hp
          go_wp2
          go_round
          case rel => exact ⟨k + 1, y + 1, by omega, rfl, (by show _ = _; rw [HG.out, HY.out]; simp), by simp, HB2⟩
          case measure => simp [intOf]; omega
        · have HG := Lib.hid (freeAt_t ds k (by rw [hp]))
          clear hp
          go_wp2
          go_round
          case rel => exact ⟨k + 1, y, by omega, rfl, (by show _ = _; rw [HG.out, HY.out]), by simp, HB2⟩
          case measure => simp [intOf]; omega

end Go.Proofs.Yteekikaebmkioaa
