/-auto What the program's and the reference's functions that read a device return. -/
import Derived.Test.YteekikaebmkioaaBlocks2
namespace Go.Proofs.Yteekikaebmkioaa
open Go.RowKit
set_option linter.unusedVariables false

theorem dv_1 (ds : List Bl) (n : Nat) (hl : ds.length = n) (h : n < 1 ∨ 12 < n) : deviceValidF ds = false := by
  rw [deviceValidF, hl]; simp only [Bool.and_eq_false_iff]; left; simp only [inB, Bool.and_eq_false_iff, decide_eq_false_iff_not]; omega
theorem dv_2 (ds : List Bl) (n k : Nat) (hl : ds.length = n) (hk : k < n) (h : blockValidF (blAt ds k) = false) : deviceValidF ds = false := by
  rw [deviceValidF, allTo_false ds (by rw [hl]; exact hk) h]; simp
theorem dv_3 (ds : List Bl) (n : Nat) (hl : ds.length = n) (h : allTo ds n = true) : deviceValidF ds = inB n 1 12 := by
  rw [deviceValidF, hl, h]; simp
theorem allTo_up (ds : List Bl) (k : Nat) (h : allTo ds k = true) (h1 : blockValidF (blAt ds k) = true) : allTo ds (k + 1) = true := by rw [allTo_succ, h, h1]; rfl

set_option maxHeartbeats 1000000 in
theorem iDeviceValid (A : Option Addr) (n c : Nat) (ds : List Bl) (w : World) (h : DevAt w A n ds) :
    Calls Try.prog 31 #[.slice A n c] w fun e w' => e = .returned (.bool (deviceValidF ds)) ∧ Below w.heap.size w w' := by
  have HP := Lib.hid h
  have hm := h.2.1
  have HL := Lib.hid h.1
  clear h
  by_cases hn : 1 ≤ n ∧ n ≤ 12
  · obtain ⟨hn1, hn2⟩ := hn
    go_enter Try.func31, Try.ntmps31
    go_wp2
    go_loopw [15] (fun i wr => ∃ k : Nat, k ≤ n ∧ i = .int .i64 (k : Int) ∧ Hid (allTo ds k = true) ∧ Hid (Below w.heap.size w wr)) (fun i _ => n - (intOf i).toNat)
    case atStart => exact ⟨0, by omega, rfl, allTo_zero ds, Below.refl _ _⟩
    case round =>
      obtain ⟨k, hk, rfl, HO, HB⟩ := hrel
      by_cases hkn : k = n
      · have HF := Lib.hid (dv_3 ds n HL.out (hkn ▸ HO.out))
        rw [inB_t (by omega) (by omega)] at HF
        subst hkn
        go_wp2
        go_ret
        exact ⟨by rw [HF.out]; rfl, HB.out⟩
      · obtain ⟨b, o, rfl, hC⟩ := HP.out.2.2 (by omega)
        obtain ⟨A', m, c', c0, c1, hps⟩ := (hC k (by omega)).keepS (stays_below HB.out)
        clear hC
        have HQ := Lib.hid hps
        rcases hp : blAt ds k with ⟨z, ps⟩
        rw [hp] at c0 HQ
        simp only [] at c0 HQ
        clear hps
        go_wp2_with fail
        refine (iBlockValid _ _ _ _ ps _ (HQ.out.keep (bel_1 _ _))).mono ?_
        rintro e w1 ⟨rfl, hb1⟩
        have HV1 := Lib.hid (bel_t (bel_1 _ _) hb1)
        have HB1 := Lib.hid (bel_t HB.out HV1.out)
        clear hb1
        cases hv : blockValidF ⟨z, ps⟩
        · have HF := Lib.hid (dv_2 ds n k HL.out (by omega) (by rw [hp]; exact hv))
          clear hp
          go_wp2
          go_ret
          exact ⟨by rw [HF.out]; rfl, HB1.out⟩
        · have HF := Lib.hid (allTo_up ds k HO.out (by rw [hp]; exact hv))
          clear hp
          go_wp2
          go_round
          case rel => exact ⟨k + 1, by omega, by simp, HF, HB1⟩
          case measure => simp [intOf]; omega
  · have HF := Lib.hid (dv_1 ds n HL.out (by omega))
    by_cases h1 : n < 1
    · obtain rfl : n = 0 := by omega
      go_enter Try.func31, Try.ntmps31
      go_wp2
      go_ret
      exact ⟨by rw [HF.out]; rfl, Below.refl _ _⟩
    · have h2 : 12 < n := by omega
      clear hn
      go_enter Try.func31, Try.ntmps31
      go_wp2
      go_ret
      exact ⟨by rw [HF.out]; rfl, Below.refl _ _⟩

set_option maxHeartbeats 1000000 in
theorem sDeviceValid (A : Option Addr) (n c : Nat) (ds : List Bl) (w : World) (h : DevAt w A n ds) :
    Calls Try.prog 32 #[.slice A n c] w fun e w' => e = .returned (.bool (deviceValidF ds)) ∧ Below w.heap.size w w' := by
  have HP := Lib.hid h
  have hm := h.2.1
  have HL := Lib.hid h.1
  clear h
  go_enter Try.func32, Try.ntmps32
  go_wp2
  go_loopw [3] (fun i wr => ∃ k : Nat, k ≤ n ∧ i = .int .i64 (k : Int) ∧ Hid (allTo ds k = true) ∧ Hid (Below w.heap.size w wr)) (fun i _ => n - (intOf i).toNat)
  case atStart => exact ⟨0, by omega, rfl, allTo_zero ds, Below.refl _ _⟩
  case round =>
    obtain ⟨k, hk, rfl, HO, HB⟩ := hrel
    by_cases hkn : k = n
    · have HF := Lib.hid (dv_3 ds n HL.out (hkn ▸ HO.out))
      subst hkn
      go_wp2_with fail
      refine (l1In_any _ _ _ _).mono ?_
      rintro e w' ⟨rfl, rfl⟩
      go_wp2
      go_ret
      exact ⟨by rw [HF.out]; rfl, HB.out⟩
    · obtain ⟨b, o, rfl, hC⟩ := HP.out.2.2 (by omega)
      obtain ⟨A', m, c', c0, c1, hps⟩ := (hC k (by omega)).keepS (stays_below HB.out)
      clear hC
      have HQ := Lib.hid hps
      rcases hp : blAt ds k with ⟨z, ps⟩
      rw [hp] at c0 HQ
      simp only [] at c0 HQ
      clear hps
      go_wp2_with fail
      refine (sBlockValid _ _ _ _ ps _ HQ.out).mono ?_
      rintro e w1 ⟨rfl, hb1⟩
      have HB1 := Lib.hid (bel_t HB.out hb1)
      clear hb1
      cases hv : blockValidF ⟨z, ps⟩
      · have HF := Lib.hid (dv_2 ds n k HL.out (by omega) (by rw [hp]; exact hv))
        clear hp
        go_wp2
        go_ret
        exact ⟨by rw [HF.out]; rfl, HB1.out⟩
      · have HF := Lib.hid (allTo_up ds k HO.out (by rw [hp]; exact hv))
        clear hp
        go_wp2
        go_round
        case rel => exact ⟨k + 1, by omega, by simp, HF, HB1⟩
        case measure => simp [intOf]; omega

end Go.Proofs.Yteekikaebmkioaa
