/- What the program's and the reference's CodeWord and FixWord return, for every argument. -/
import Derived.Test.YtejppibmjckckaaWords
import Derived.Deep.QuietTactic
import Derived.BigQuiet
import Derived.RegionTactic
import Derived.Outline
namespace Go.Proofs.Ytejppibmjckckaa
open Go.RowKit
set_option linter.unusedVariables false

set_option maxHeartbeats 400000 in
theorem dataPlaces_any (w : World) :
    Calls Try.prog 62 #[] w fun e w' => e = .returned (.agg #[.int .i64 3, .int .i64 5, .int .i64 6, .int .i64 7, .int .i64 9, .int .i64 10, .int .i64 11, .int .i64 12]) ∧ Below w.heap.size w w' := by
  go_enter Try.func62, Try.ntmps62
  go_wp2
  exact bodyPost_ret (v := .agg #[.int .i64 3, .int .i64 5, .int .i64 6, .int .i64 7, .int .i64 9, .int .i64 10, .int .i64 11, .int .i64 12]) (by simp [results, Try.results62, go_sem]) rfl ⟨rfl, (Below.refl _ _).alloc (Nat.le_refl _) _⟩

theorem idx8 (k : Nat) (hk : k < 8) : ∀ W : World, (Instr.index 57 (.agg #[.int .i64 3, .int .i64 5, .int .i64 6, .int .i64 7, .int .i64 9, .int .i64 10, .int .i64 11, .int .i64 12]) (.int .i64 (k : Int))).run Try.prog W = .ok (.int .i64 ((places.getD k 0 : Nat) : Int)) W := by
  have h : k = 0 ∨ k = 1 ∨ k = 2 ∨ k = 3 ∨ k = 4 ∨ k = 5 ∨ k = 6 ∨ k = 7 := by omega
  rcases h with rfl | rfl | rfl | rfl | rfl | rfl | rfl | rfl
  all_goals (intro W; kernel_rfl)

set_option maxHeartbeats 400000 in
theorem placesTogether_any (s : Int) (w : World) (h1 : 0 ≤ s) (h2 : s ≤ 4095) :
    Calls Try.prog 63 #[.int .i64 s] w fun e w' => e = .returned (.int .i64 ((together s.toNat 12 : Nat) : Int)) ∧ w = w' := by
  go_enter Try.func63, Try.ntmps63
  go_wp2
  go_loop [3, 4] (fun a p => ∃ k : Nat, k ≤ 12 ∧ p = .int .i64 ((k : Int) + 1) ∧ a = .int .i64 ((together s.toNat k : Nat) : Int)) (fun _ p => 13 - (intOf p).toNat)
  case atStart => exact ⟨0, by omega, rfl, by rw [together]; rfl⟩
  case round =>
    obtain ⟨k, hk, rfl, rfl⟩ := hrel
    by_cases hlt : k < 12
    · have HE := Lib.hid (and1_int s k h1 (by omega))
      have hT := together_lt s.toNat k (by omega)
      cases hb : s.toNat.testBit k
      · have hE : (bits .and .i64 (s / 2 ^ k) 1 == 1) = false := by have := HE.out; rw [Int.toNat_natCast] at this; rw [this]; exact hb
        have HB := Lib.hid (together_0 _ _ hb)
        clear hb
        go_wp2
        go_round
        case rel => exact ⟨k + 1, by omega, by go_num, by rw [HB.out]⟩
        case measure => simp [intOf]; omega
      · have hE : (bits .and .i64 (s / 2 ^ k) 1 == 1) = true := by have := HE.out; rw [Int.toNat_natCast] at this; rw [this]; exact hb
        have HB := Lib.hid (together_1 _ _ hb)
        have HX := Lib.hid (xor_nat _ k hT hlt)
        clear hb
        go_wp2
        go_round
        case rel => exact ⟨k + 1, by omega, by go_num, by rw [HB.out, ← HX.out]⟩
        case measure => simp [intOf]; omega
    · obtain rfl : k = 12 := by omega
      go_wp2
      go_ret
      exact ⟨rfl, rfl⟩

set_option maxHeartbeats 400000 in
theorem l2Sum_any (s : Int) (w : World) (h1 : 0 ≤ s) (h2 : s ≤ 4095) :
    Calls Try.prog 64 #[.int .i64 s] w fun e w' => e = .returned (.int .i64 ((together s.toNat 12 : Nat) : Int)) ∧ w = w' := by
  go_enter Try.func64, Try.ntmps64
  go_wp2
  go_loop [3, 4] (fun a p => ∃ k : Nat, k ≤ 12 ∧ p = .int .i64 ((k : Int) + 1) ∧ a = .int .i64 ((together s.toNat k : Nat) : Int)) (fun _ p => 13 - (intOf p).toNat)
  case atStart => exact ⟨0, by omega, rfl, by rw [together]; rfl⟩
  case round =>
    obtain ⟨k, hk, rfl, rfl⟩ := hrel
    by_cases hlt : k < 12
    · have HE := Lib.hid (testBit_int s k h1)
      have hT := together_lt s.toNat k (by omega)
      have hD : 0 ≤ s / 2 ^ k := Int.ediv_nonneg h1 (Int.le_of_lt (Int.pow_pos (by decide)))
      cases hb : s.toNat.testBit k
      · have hE : (s / 2 ^ k % 2 == 1) = false := by have := HE.out; rw [Int.toNat_natCast] at this; rw [this]; exact hb
        have HB := Lib.hid (together_0 _ _ hb)
        clear hb
        go_wp2
        go_round
        case rel => exact ⟨k + 1, by omega, by go_num, by rw [HB.out]⟩
        case measure => simp [intOf]; omega
      · have hE : (s / 2 ^ k % 2 == 1) = true := by have := HE.out; rw [Int.toNat_natCast] at this; rw [this]; exact hb
        have HB := Lib.hid (together_1 _ _ hb)
        have HX := Lib.hid (xor_nat _ k hT hlt)
        clear hb
        go_wp2
        go_round
        case rel => exact ⟨k + 1, by omega, by go_num, by rw [HB.out, ← HX.out]⟩
        case measure => simp [intOf]; omega
    · obtain rfl : k = 12 := by omega
      go_wp2
      go_ret
      exact ⟨rfl, rfl⟩

theorem below_drewN {B : Nat} {a w : World} (h : Below B a w) (n : Nat) : Below B a (w.drewN n) := ⟨h.os, h.tape, h.output, h.size, h.block⟩

set_option maxHeartbeats 1000000 in
theorem iCode (s : Int) (w : World) :
    Calls Try.prog 50 #[.int .i64 s] w fun e w' => e = .returned (.int .i64 (codeF s)) ∧ Below w.heap.size w w' := by
  by_cases hin : 0 ≤ s ∧ s ≤ 255
  · obtain ⟨h1, h2⟩ := hin
    have HF := Lib.hid (show codeF s = ((cw s.toNat : Nat) : Int) by simp [codeF, inB_t, h1, h2])
    go_enter Try.func50, Try.ntmps50
    go_wp2_with (go_at_call 62; refine (dataPlaces_any _).mono ?_; rintro e w1 ⟨rfl, hb1⟩)
    go_loop [3, 15] (fun a p => ∃ k : Nat, k ≤ 8 ∧ p = .int .i64 (k : Int) ∧ a = .int .i64 ((laidW s.toNat k : Nat) : Int)) (fun _ p => 8 - (intOf p).toNat)
    case atStart => exact ⟨0, by omega, rfl, by rw [laidW]; rfl⟩
    case round =>
      obtain ⟨k, hk, rfl, rfl⟩ := hrel
      by_cases hlt : k < 8
      · have HE := Lib.hid (and1_int s k h1 (by omega))
        have hL := laidW_lt s.toNat k (by omega)
        have hq := places_b k hlt
        have hidx := idx8 k hlt
        obtain ⟨q, HQ⟩ : ∃ q, Hid (q = places.getD k 0) := ⟨_, rfl⟩
        rw [← HQ.out] at hq hidx
        obtain ⟨hq1, hq2⟩ := hq
        cases hb : s.toNat.testBit k
        · have hE : (bits .and .i64 (s / 2 ^ k) 1 == 1) = false := by have := HE.out; rw [Int.toNat_natCast] at this; rw [this]; exact hb
          have HB := Lib.hid (laidW_0 _ _ hb)
          clear hb
          go_wp2
          go_round
          case rel => exact ⟨k + 1, by omega, by go_num, by rw [HB.out]⟩
          case measure => simp [intOf]; omega
        · have hE : (bits .and .i64 (s / 2 ^ k) 1 == 1) = true := by have := HE.out; rw [Int.toNat_natCast] at this; rw [this]; exact hb
          have HB := Lib.hid (laidW_1 _ _ q HQ.out hb)
          have HX := Lib.hid (or_pow ((laidW s.toNat k : Nat) : Int) (q - 1) (by omega) (by omega) (by omega))
          clear hb
          go_wp2
          go_round
          case rel => exact ⟨k + 1, by omega, by go_num, by have := HX.out; rw [Int.toNat_natCast] at this; rw [HB.out, ← this]⟩
          case measure => simp [intOf]; omega
      · obtain rfl : k = 8 := by omega
        have hL := laidW_lt s.toNat 8 (by omega)
        have hT := together_lt (laidW s.toNat 8) 12 (by omega)
        obtain ⟨L, HL⟩ : ∃ L, Hid (L = laidW s.toNat 8) := ⟨_, rfl⟩
        rw [← HL.out] at hL hT ⊢
        obtain ⟨t, HT⟩ : ∃ t, Hid (t = together L 12) := ⟨_, rfl⟩
        rw [← HT.out] at hT
        go_wp2_with (go_at_call 63; refine (placesTogether_any _ _ (by omega) (by omega)).mono ?_; rintro e w' ⟨rfl, rfl⟩)
        rw [← HT.out]
        go_loop [3, 7] (fun a p => ∃ k : Nat, k ≤ 4 ∧ p = .int .i64 (pl4 k) ∧ a = .int .i64 ((checkedW L t k : Nat) : Int)) (fun _ p => 16 - (intOf p).toNat)
        case atStart => exact ⟨0, by omega, rfl, by rw [checkedW]⟩
        case round =>
          obtain ⟨k, hk, rfl, rfl⟩ := hrel
          have hC := checkedW_lt L t k hL hk
          have hk5 : k = 0 ∨ k = 1 ∨ k = 2 ∨ k = 3 ∨ k = 4 := by omega
          rcases hk5 with rfl | rfl | rfl | rfl | rfl
          · rw [show pl4 0 = 1 from rfl]
            have hA := andp t 0 (by omega) (by omega)
            rw [show ((2 ^ 0 : Nat) : Int) = 1 from rfl] at hA
            cases hb : t.testBit 0
            · rw [hb] at hA
              have HB := Lib.hid (checkedW_0 L t 0 hb)
              clear hb
              go_wp2
              go_round
              case rel => exact ⟨1, by omega, rfl, by rw [HB.out]⟩
              case measure => simp [intOf]
            · rw [hb] at hA
              have HB := Lib.hid (checkedW_1 L t 0 hb)
              have HX := Lib.hid (b_or (checkedW L t 0) (2 ^ (2 ^ 0 - 1)) (by omega) (by decide))
              clear hb
              go_wp2
              go_round
              case rel => exact ⟨1, by omega, rfl, by rw [HB.out, ← HX.out]; rfl⟩
              case measure => simp [intOf]
          · rw [show pl4 1 = 2 from rfl]
            have hA := andp t 1 (by omega) (by omega)
            rw [show ((2 ^ 1 : Nat) : Int) = 2 from rfl] at hA
            cases hb : t.testBit 1
            · rw [hb] at hA
              have HB := Lib.hid (checkedW_0 L t 1 hb)
              clear hb
              go_wp2
              go_round
              case rel => exact ⟨2, by omega, rfl, by rw [HB.out]⟩
              case measure => simp [intOf]
            · rw [hb] at hA
              have HB := Lib.hid (checkedW_1 L t 1 hb)
              have HX := Lib.hid (b_or (checkedW L t 1) (2 ^ (2 ^ 1 - 1)) (by omega) (by decide))
              clear hb
              go_wp2
              go_round
              case rel => exact ⟨2, by omega, rfl, by rw [HB.out, ← HX.out]; rfl⟩
              case measure => simp [intOf]
          · rw [show pl4 2 = 4 from rfl]
            have hA := andp t 2 (by omega) (by omega)
            rw [show ((2 ^ 2 : Nat) : Int) = 4 from rfl] at hA
            cases hb : t.testBit 2
            · rw [hb] at hA
              have HB := Lib.hid (checkedW_0 L t 2 hb)
              clear hb
              go_wp2
              go_round
              case rel => exact ⟨3, by omega, rfl, by rw [HB.out]⟩
              case measure => simp [intOf]
            · rw [hb] at hA
              have HB := Lib.hid (checkedW_1 L t 2 hb)
              have HX := Lib.hid (b_or (checkedW L t 2) (2 ^ (2 ^ 2 - 1)) (by omega) (by decide))
              clear hb
              go_wp2
              go_round
              case rel => exact ⟨3, by omega, rfl, by rw [HB.out, ← HX.out]; rfl⟩
              case measure => simp [intOf]
          · rw [show pl4 3 = 8 from rfl]
            have hA := andp t 3 (by omega) (by omega)
            rw [show ((2 ^ 3 : Nat) : Int) = 8 from rfl] at hA
            cases hb : t.testBit 3
            · rw [hb] at hA
              have HB := Lib.hid (checkedW_0 L t 3 hb)
              clear hb
              go_wp2
              go_round
              case rel => exact ⟨4, by omega, rfl, by rw [HB.out]⟩
              case measure => simp [intOf]
            · rw [hb] at hA
              have HB := Lib.hid (checkedW_1 L t 3 hb)
              have HX := Lib.hid (b_or (checkedW L t 3) (2 ^ (2 ^ 3 - 1)) (by omega) (by decide))
              clear hb
              go_wp2
              go_round
              case rel => exact ⟨4, by omega, rfl, by rw [HB.out, ← HX.out]; rfl⟩
              case measure => simp [intOf]
          · rw [show pl4 4 = 16 from rfl]
            go_wp2
            go_ret
            exact ⟨ret_int (by rw [HF.out, cw, HT.out, HL.out]), hb1⟩
  · have HF := Lib.hid (show codeF s = -1 by rw [codeF, if_neg]; simp [inB]; omega)
    by_cases h1 : 0 ≤ s
    · have h2 : ¬ s ≤ 255 := by omega
      clear hin
      go_enter Try.func50, Try.ntmps50
      go_wp2
      go_ret
      exact ⟨by rw [HF.out]; rfl, Below.refl _ _⟩
    · clear hin
      go_enter Try.func50, Try.ntmps50
      go_wp2
      go_ret
      exact ⟨by rw [HF.out]; rfl, Below.refl _ _⟩
end Go.Proofs.Ytejppibmjckckaa
