/- What the reference's CodeWord and both FixWords return, for every argument. -/
import Derived.Test.YtejppibmjckckaaCodes
namespace Go.Proofs.Ytejppibmjckckaa
open Go.RowKit
set_option linter.unusedVariables false

theorem lo0 (s : Int) (h1 : 0 ≤ s) : bits .or .i64 ((laidW s.toNat 0 : Nat) : Int) (s % 2 * 4) = ((laidW s.toNat 1 : Nat) : Int) := by
  have := laid_or s 0 2 h1 (by omega) rfl
  rw [show (2 : Int) ^ 0 = 1 from rfl, show (2 : Int) ^ 2 = 4 from rfl] at this
  simpa using this
theorem ro0 (s : Int) (h1 : 0 ≤ s) : bits .or .i64 ((readW s.toNat 0 : Nat) : Int) (s / 4 % 2) = ((readW s.toNat 1 : Nat) : Int) := by
  have := read_or s 0 2 h1 (by omega) rfl
  rw [show (2 : Int) ^ 0 = 1 from rfl, show (2 : Int) ^ 2 = 4 from rfl] at this
  simpa using this
theorem lo1 (s : Int) (h1 : 0 ≤ s) : bits .or .i64 ((laidW s.toNat 1 : Nat) : Int) (s / 2 % 2 * 16) = ((laidW s.toNat 2 : Nat) : Int) := by
  have := laid_or s 1 4 h1 (by omega) rfl
  rw [show (2 : Int) ^ 1 = 2 from rfl, show (2 : Int) ^ 4 = 16 from rfl] at this
  exact this
theorem ro1 (s : Int) (h1 : 0 ≤ s) : bits .or .i64 ((readW s.toNat 1 : Nat) : Int) (s / 16 % 2 * 2) = ((readW s.toNat 2 : Nat) : Int) := by
  have := read_or s 1 4 h1 (by omega) rfl
  rw [show (2 : Int) ^ 1 = 2 from rfl, show (2 : Int) ^ 4 = 16 from rfl] at this
  exact this
theorem lo2 (s : Int) (h1 : 0 ≤ s) : bits .or .i64 ((laidW s.toNat 2 : Nat) : Int) (s / 4 % 2 * 32) = ((laidW s.toNat 3 : Nat) : Int) := by
  have := laid_or s 2 5 h1 (by omega) rfl
  rw [show (2 : Int) ^ 2 = 4 from rfl, show (2 : Int) ^ 5 = 32 from rfl] at this
  exact this
theorem ro2 (s : Int) (h1 : 0 ≤ s) : bits .or .i64 ((readW s.toNat 2 : Nat) : Int) (s / 32 % 2 * 4) = ((readW s.toNat 3 : Nat) : Int) := by
  have := read_or s 2 5 h1 (by omega) rfl
  rw [show (2 : Int) ^ 2 = 4 from rfl, show (2 : Int) ^ 5 = 32 from rfl] at this
  exact this
theorem lo3 (s : Int) (h1 : 0 ≤ s) : bits .or .i64 ((laidW s.toNat 3 : Nat) : Int) (s / 8 % 2 * 64) = ((laidW s.toNat 4 : Nat) : Int) := by
  have := laid_or s 3 6 h1 (by omega) rfl
  rw [show (2 : Int) ^ 3 = 8 from rfl, show (2 : Int) ^ 6 = 64 from rfl] at this
  exact this
theorem ro3 (s : Int) (h1 : 0 ≤ s) : bits .or .i64 ((readW s.toNat 3 : Nat) : Int) (s / 64 % 2 * 8) = ((readW s.toNat 4 : Nat) : Int) := by
  have := read_or s 3 6 h1 (by omega) rfl
  rw [show (2 : Int) ^ 3 = 8 from rfl, show (2 : Int) ^ 6 = 64 from rfl] at this
  exact this
theorem lo4 (s : Int) (h1 : 0 ≤ s) : bits .or .i64 ((laidW s.toNat 4 : Nat) : Int) (s / 16 % 2 * 256) = ((laidW s.toNat 5 : Nat) : Int) := by
  have := laid_or s 4 8 h1 (by omega) rfl
  rw [show (2 : Int) ^ 4 = 16 from rfl, show (2 : Int) ^ 8 = 256 from rfl] at this
  exact this
theorem ro4 (s : Int) (h1 : 0 ≤ s) : bits .or .i64 ((readW s.toNat 4 : Nat) : Int) (s / 256 % 2 * 16) = ((readW s.toNat 5 : Nat) : Int) := by
  have := read_or s 4 8 h1 (by omega) rfl
  rw [show (2 : Int) ^ 4 = 16 from rfl, show (2 : Int) ^ 8 = 256 from rfl] at this
  exact this
theorem lo5 (s : Int) (h1 : 0 ≤ s) : bits .or .i64 ((laidW s.toNat 5 : Nat) : Int) (s / 32 % 2 * 512) = ((laidW s.toNat 6 : Nat) : Int) := by
  have := laid_or s 5 9 h1 (by omega) rfl
  rw [show (2 : Int) ^ 5 = 32 from rfl, show (2 : Int) ^ 9 = 512 from rfl] at this
  exact this
theorem ro5 (s : Int) (h1 : 0 ≤ s) : bits .or .i64 ((readW s.toNat 5 : Nat) : Int) (s / 512 % 2 * 32) = ((readW s.toNat 6 : Nat) : Int) := by
  have := read_or s 5 9 h1 (by omega) rfl
  rw [show (2 : Int) ^ 5 = 32 from rfl, show (2 : Int) ^ 9 = 512 from rfl] at this
  exact this
theorem lo6 (s : Int) (h1 : 0 ≤ s) : bits .or .i64 ((laidW s.toNat 6 : Nat) : Int) (s / 64 % 2 * 1024) = ((laidW s.toNat 7 : Nat) : Int) := by
  have := laid_or s 6 10 h1 (by omega) rfl
  rw [show (2 : Int) ^ 6 = 64 from rfl, show (2 : Int) ^ 10 = 1024 from rfl] at this
  exact this
theorem ro6 (s : Int) (h1 : 0 ≤ s) : bits .or .i64 ((readW s.toNat 6 : Nat) : Int) (s / 1024 % 2 * 64) = ((readW s.toNat 7 : Nat) : Int) := by
  have := read_or s 6 10 h1 (by omega) rfl
  rw [show (2 : Int) ^ 6 = 64 from rfl, show (2 : Int) ^ 10 = 1024 from rfl] at this
  exact this
theorem lo7 (s : Int) (h1 : 0 ≤ s) : bits .or .i64 ((laidW s.toNat 7 : Nat) : Int) (s / 128 % 2 * 2048) = ((laidW s.toNat 8 : Nat) : Int) := by
  have := laid_or s 7 11 h1 (by omega) rfl
  rw [show (2 : Int) ^ 7 = 128 from rfl, show (2 : Int) ^ 11 = 2048 from rfl] at this
  exact this
theorem ro7 (s : Int) (h1 : 0 ≤ s) : bits .or .i64 ((readW s.toNat 7 : Nat) : Int) (s / 2048 % 2 * 128) = ((readW s.toNat 8 : Nat) : Int) := by
  have := read_or s 7 11 h1 (by omega) rfl
  rw [show (2 : Int) ^ 7 = 128 from rfl, show (2 : Int) ^ 11 = 2048 from rfl] at this
  exact this
theorem co0 (x t : Nat) (hx : x < 4096) : bits .or .i64 ((checkedW x t 0 : Nat) : Int) ((t : Int) % 2) = ((checkedW x t 1 : Nat) : Int) := by
  have := checked_or x t 0 hx (by omega)
  rw [show (2 : Int) ^ (2 ^ 0 - 1) = 1 from rfl] at this
  simpa using this
theorem co1 (x t : Nat) (hx : x < 4096) : bits .or .i64 ((checkedW x t 1 : Nat) : Int) ((t : Int) / 2 % 2 * 2) = ((checkedW x t 2 : Nat) : Int) := by
  have := checked_or x t 1 hx (by omega)
  rw [show (2 : Int) ^ (2 ^ 1 - 1) = 2 from rfl] at this
  exact this
theorem co2 (x t : Nat) (hx : x < 4096) : bits .or .i64 ((checkedW x t 2 : Nat) : Int) ((t : Int) / 4 % 2 * 8) = ((checkedW x t 3 : Nat) : Int) := by
  have := checked_or x t 2 hx (by omega)
  rw [show (2 : Int) ^ (2 ^ 2 - 1) = 8 from rfl, show (2 : Int) ^ 2 = 4 from rfl] at this
  exact this
theorem co3 (x t : Nat) (hx : x < 4096) : bits .or .i64 ((checkedW x t 3 : Nat) : Int) ((t : Int) / 8 % 2 * 128) = ((checkedW x t 4 : Nat) : Int) := by
  have := checked_or x t 3 hx (by omega)
  rw [show (2 : Int) ^ (2 ^ 3 - 1) = 128 from rfl, show (2 : Int) ^ 3 = 8 from rfl] at this
  exact this

set_option maxHeartbeats 2000000 in
theorem sCode (s : Int) (w : World) :
    Calls Try.prog 51 #[.int .i64 s] w fun e w' => e = .returned (.int .i64 (codeF s)) ∧ Below w.heap.size w w' := by
  cases e1 : inB s 0 255
  · have HF := Lib.hid (show codeF s = -1 by rw [codeF, e1]; simp)
    go_enter Try.func51, Try.ntmps51
    go_wp2_with (go_at_call 57; refine (l1In_any _ _ _ _).mono ?_; rintro e w' ⟨rfl, rfl⟩)
    go_ret
    exact ⟨by rw [HF.out]; rfl, Below.refl _ _⟩
  · obtain ⟨h1, h2⟩ := inB_iff.1 e1
    have HF := Lib.hid (show codeF s = ((cw s.toNat : Nat) : Int) by simp [codeF, inB_t, h1, h2])
    go_enter Try.func51, Try.ntmps51
    go_wp2_with (go_at_call 57; refine (l1In_any _ _ _ _).mono ?_; rintro e w' ⟨rfl, rfl⟩)
    clear e1
    go_loopw [3, 5] (fun a p wr => ∃ (k n : Nat), k ≤ 8 ∧ p = .int .i64 (k : Int) ∧ a = .int .i64 ((laidW s.toNat k : Nat) : Int) ∧ wr = (w.alloc (.cells #[.int .i64 3, .int .i64 5, .int .i64 6, .int .i64 7, .int .i64 9, .int .i64 10, .int .i64 11, .int .i64 12] 3)).drewN n) (fun _ p _ => 8 - (intOf p).toNat)
    case atStart => exact ⟨0, 0, by omega, rfl, by rw [laidW]; rfl, rfl⟩
    case round =>
      obtain ⟨k, n, hk, rfl, rfl, rfl⟩ := hrel
      have hL := laidW_lt s.toNat k (by omega)
      have hk9 : k = 0 ∨ k = 1 ∨ k = 2 ∨ k = 3 ∨ k = 4 ∨ k = 5 ∨ k = 6 ∨ k = 7 ∨ k = 8 := by omega
      rcases hk9 with rfl | rfl | rfl | rfl | rfl | rfl | rfl | rfl | rfl
      · have HX := Lib.hid (lo0 s h1)
        go_wp2
        go_quiet (fail)
        go_wp2
        go_roundw
        case rel => exact ⟨1, _, by omega, rfl, by rw [← HX.out], rfl⟩
        case measure => simp [intOf]
      · have HX := Lib.hid (lo1 s h1)
        go_wp2
        go_quiet (fail)
        go_wp2
        go_roundw
        case rel => exact ⟨2, _, by omega, rfl, by rw [← HX.out], rfl⟩
        case measure => simp [intOf]
      · have HX := Lib.hid (lo2 s h1)
        go_wp2
        go_quiet (fail)
        go_wp2
        go_roundw
        case rel => exact ⟨3, _, by omega, rfl, by rw [← HX.out], rfl⟩
        case measure => simp [intOf]
      · have HX := Lib.hid (lo3 s h1)
        go_wp2
        go_quiet (fail)
        go_wp2
        go_roundw
        case rel => exact ⟨4, _, by omega, rfl, by rw [← HX.out], rfl⟩
        case measure => simp [intOf]
      · have HX := Lib.hid (lo4 s h1)
        go_wp2
        go_quiet (fail)
        go_wp2
        go_roundw
        case rel => exact ⟨5, _, by omega, rfl, by rw [← HX.out], rfl⟩
        case measure => simp [intOf]
      · have HX := Lib.hid (lo5 s h1)
        go_wp2
        go_quiet (fail)
        go_wp2
        go_roundw
        case rel => exact ⟨6, _, by omega, rfl, by rw [← HX.out], rfl⟩
        case measure => simp [intOf]
      · have HX := Lib.hid (lo6 s h1)
        go_wp2
        go_quiet (fail)
        go_wp2
        go_roundw
        case rel => exact ⟨7, _, by omega, rfl, by rw [← HX.out], rfl⟩
        case measure => simp [intOf]
      · have HX := Lib.hid (lo7 s h1)
        go_wp2
        go_quiet (fail)
        go_wp2
        go_roundw
        case rel => exact ⟨8, _, by omega, rfl, by rw [← HX.out], rfl⟩
        case measure => simp [intOf]
      · have hT := together_lt (laidW s.toNat 8) 12 (by omega)
        obtain ⟨L, HL⟩ : ∃ L, Hid (L = laidW s.toNat 8) := ⟨_, rfl⟩
        rw [← HL.out] at hL hT ⊢
        obtain ⟨t, HT⟩ : ∃ t, Hid (t = together L 12) := ⟨_, rfl⟩
        rw [← HT.out] at hT
        go_wp2_with (go_at_call 64; refine (l2Sum_any _ _ (by omega) (by omega)).mono ?_; rintro e w' ⟨rfl, rfl⟩)
        rw [← HT.out]
        go_loopw [3, 7] (fun a p wr => ∃ (k n : Nat), k ≤ 4 ∧ p = .int .i64 (k : Int) ∧ a = .int .i64 ((checkedW L t k : Nat) : Int) ∧ wr = (w.alloc (.cells #[.int .i64 3, .int .i64 5, .int .i64 6, .int .i64 7, .int .i64 9, .int .i64 10, .int .i64 11, .int .i64 12] 3)).drewN n) (fun _ p _ => 4 - (intOf p).toNat)
        case atStart => exact ⟨0, _, by omega, rfl, by rw [checkedW], rfl⟩
        case round =>
          obtain ⟨k, n, hk, rfl, rfl, rfl⟩ := hrel
          have hC := checkedW_lt L t k hL hk
          have hk5 : k = 0 ∨ k = 1 ∨ k = 2 ∨ k = 3 ∨ k = 4 := by omega
          rcases hk5 with rfl | rfl | rfl | rfl | rfl
          · have HX := Lib.hid (co0 L t hL)
            go_wp2
            go_quiet (fail)
            go_wp2
            go_roundw
            case rel => exact ⟨1, _, by omega, rfl, by rw [← HX.out], rfl⟩
            case measure => simp [intOf]
          · have HX := Lib.hid (co1 L t hL)
            go_wp2
            go_quiet (fail)
            go_wp2
            go_roundw
            case rel => exact ⟨2, _, by omega, rfl, by rw [← HX.out], rfl⟩
            case measure => simp [intOf]
          · have HX := Lib.hid (co2 L t hL)
            go_wp2
            go_quiet (fail)
            go_wp2
            go_roundw
            case rel => exact ⟨3, _, by omega, rfl, by rw [← HX.out], rfl⟩
            case measure => simp [intOf]
          · have HX := Lib.hid (co3 L t hL)
            go_wp2
            go_quiet (fail)
            go_wp2
            go_roundw
            case rel => exact ⟨4, _, by omega, rfl, by rw [← HX.out], rfl⟩
            case measure => simp [intOf]
          · go_wp2
            go_ret
            exact ⟨ret_int (by rw [HF.out, cw, HT.out, HL.out]), below_drewN ((Below.refl _ _).alloc (Nat.le_refl _) _) _⟩

theorem fix_out (s : Int) (h : ¬ (0 ≤ s ∧ s ≤ 4095)) : fixF s = (-1, -1) := by rw [fixF, if_neg]; simp [inB]; omega
theorem fix_far (s : Int) (h1 : 0 ≤ s) (h2 : s ≤ 4095) (h : 12 < together s.toNat 12) : fixF s = (-1, -1) := by
  rw [fixF, inB_t h1 h2, if_pos rfl, if_neg (by omega)]
theorem fix_in (s : Int) (h1 : 0 ≤ s) (h2 : s ≤ 4095) (h : together s.toNat 12 ≤ 12) : fixF s = (((readW (mend s.toNat (together s.toNat 12)) 8 : Nat) : Int), ((together s.toNat 12 : Nat) : Int)) := by
  rw [fixF, inB_t h1 h2, if_pos rfl, if_pos h]
theorem ret_two {a b : Int} {p : Int × Int} (h : p = (a, b)) : Ending.returned (.tuple #[.int .i64 a, .int .i64 b]) = .returned (.tuple #[.int .i64 p.1, .int .i64 p.2]) := by rw [h]
theorem mend_x (s : Int) (t : Nat) (h1 : 0 ≤ s) (h2 : s ≤ 4095) (ht : 0 < t) (ht2 : t ≤ 12) : bits .xor .i64 s (wrap64 (2 ^ (t - 1))) = ((mend s.toNat t : Nat) : Int) := by
  rw [xor_pow s (t - 1) h1 (by omega) (by omega), mend, if_neg (by omega)]

set_option maxHeartbeats 2000000 in
theorem iFix (s : Int) (w : World) :
    Calls Try.prog 52 #[.int .i64 s] w fun e w' => e = .returned (.tuple #[.int .i64 (fixF s).1, .int .i64 (fixF s).2]) ∧ Below w.heap.size w w' := by
  by_cases hin : 0 ≤ s ∧ s ≤ 4095
  · obtain ⟨h1, h2⟩ := hin
    have hT := together_lt s.toNat 12 (by omega)
    by_cases hfar : 12 < together s.toNat 12
    · have HF := Lib.hid (fix_far s h1 h2 hfar)
      obtain ⟨t, HT⟩ : ∃ t, Hid (t = together s.toNat 12) := ⟨_, rfl⟩
      rw [← HT.out] at hT hfar
      go_enter Try.func52, Try.ntmps52
      go_wp2_with (go_at_call 63; refine (placesTogether_any _ _ (by omega) (by omega)).mono ?_; rintro e w' ⟨rfl, rfl⟩; rw [← HT.out])
      go_ret2
      exact ⟨ret_two HF.out, Below.refl _ _⟩
    · have HF := Lib.hid (fix_in s h1 h2 (by omega))
      have hM := mend_lt s.toNat (together s.toNat 12) (by omega) (by omega)
      obtain ⟨t, HT⟩ : ∃ t, Hid (t = together s.toNat 12) := ⟨_, rfl⟩
      rw [← HT.out] at hT hfar hM HF
      obtain ⟨m, hm0, hm1, HM⟩ : ∃ m : Int, 0 ≤ m ∧ m ≤ 4095 ∧ Hid (m = ((mend s.toNat t : Nat) : Int)) := ⟨((mend s.toNat t : Nat) : Int), by omega, by omega, rfl⟩
      by_cases h0 : 0 < t
      · have HX := Lib.hid ((mend_x s t h1 h2 h0 (by omega)).trans HM.out.symm)
        clear hM
        go_enter Try.func52, Try.ntmps52
        go_wp2_with (first | (go_at_call 63; refine (placesTogether_any _ _ (by omega) (by omega)).mono ?_; rintro e w' ⟨rfl, rfl⟩; rw [← HT.out]) | (go_at_call 62; refine (dataPlaces_any _).mono ?_; rintro e w1 ⟨rfl, hb1⟩))
        rw [HX.out]
        go_loop [5, 26] (fun a p => ∃ k : Nat, k ≤ 8 ∧ p = .int .i64 (k : Int) ∧ a = .int .i64 ((readW m.toNat k : Nat) : Int)) (fun _ p => 8 - (intOf p).toNat)
        case atStart => exact ⟨0, by omega, rfl, by rw [readW]; rfl⟩
        case round =>
          obtain ⟨k, hk, rfl, rfl⟩ := hrel
          by_cases hlt : k < 8
          · have hL := readW_lt m.toNat k (by omega)
            have hq := places_b k hlt
            have hidx := idx8 k hlt
            obtain ⟨q, HQ⟩ : ∃ q, Hid (q = places.getD k 0) := ⟨_, rfl⟩
            rw [← HQ.out] at hq hidx
            obtain ⟨hq1, hq2⟩ := hq
            have HE := Lib.hid (and1_int m ((q - 1 : Nat) : Int) hm0 (by omega))
            cases hb : m.toNat.testBit (q - 1)
            · have hE : (bits .and .i64 (m / 2 ^ (q - 1)) 1 == 1) = false := by have := HE.out; rw [Int.toNat_natCast] at this; rw [this]; exact hb
              have HB := Lib.hid (readW_0 _ _ q HQ.out hb)
              clear hb
              go_wp2
              go_round
              case rel => exact ⟨k + 1, by omega, by go_num, by rw [HB.out]⟩
              case measure => simp [intOf]; omega
            · have hE : (bits .and .i64 (m / 2 ^ (q - 1)) 1 == 1) = true := by have := HE.out; rw [Int.toNat_natCast] at this; rw [this]; exact hb
              have HB := Lib.hid (readW_1 _ _ q HQ.out hb)
              have HX := Lib.hid (or_pow ((readW m.toNat k : Nat) : Int) k (by omega) (by omega) (by omega))
              clear hb
              go_wp2
              go_round
              case rel => exact ⟨k + 1, by omega, by go_num, by have := HX.out; rw [Int.toNat_natCast] at this; rw [HB.out, ← this]⟩
              case measure => simp [intOf]; omega
          · obtain rfl : k = 8 := by omega
            go_wp2
            go_ret2
            exact ⟨ret_two (by rw [HF.out, ← Int.toNat_natCast (mend _ _), ← HM.out]; try rfl), hb1⟩
      · obtain rfl : t = 0 := by omega
        obtain rfl : m = s := by have := HM.out; rw [mend, if_pos rfl] at this; omega
        clear hM
        go_enter Try.func52, Try.ntmps52
        go_wp2_with (first | (go_at_call 63; refine (placesTogether_any _ _ (by omega) (by omega)).mono ?_; rintro e w' ⟨rfl, rfl⟩; rw [← HT.out]) | (go_at_call 62; refine (dataPlaces_any _).mono ?_; rintro e w1 ⟨rfl, hb1⟩))
        go_loop [5, 26] (fun a p => ∃ k : Nat, k ≤ 8 ∧ p = .int .i64 (k : Int) ∧ a = .int .i64 ((readW m.toNat k : Nat) : Int)) (fun _ p => 8 - (intOf p).toNat)
        case atStart => exact ⟨0, by omega, rfl, by rw [readW]; rfl⟩
        case round =>
          obtain ⟨k, hk, rfl, rfl⟩ := hrel
          by_cases hlt : k < 8
          · have hL := readW_lt m.toNat k (by omega)
            have hq := places_b k hlt
            have hidx := idx8 k hlt
            obtain ⟨q, HQ⟩ : ∃ q, Hid (q = places.getD k 0) := ⟨_, rfl⟩
            rw [← HQ.out] at hq hidx
            obtain ⟨hq1, hq2⟩ := hq
            have HE := Lib.hid (and1_int m ((q - 1 : Nat) : Int) hm0 (by omega))
            cases hb : m.toNat.testBit (q - 1)
            · have hE : (bits .and .i64 (m / 2 ^ (q - 1)) 1 == 1) = false := by have := HE.out; rw [Int.toNat_natCast] at this; rw [this]; exact hb
              have HB := Lib.hid (readW_0 _ _ q HQ.out hb)
              clear hb
              go_wp2
              go_round
              case rel => exact ⟨k + 1, by omega, by go_num, by rw [HB.out]⟩
              case measure => simp [intOf]; omega
            · have hE : (bits .and .i64 (m / 2 ^ (q - 1)) 1 == 1) = true := by have := HE.out; rw [Int.toNat_natCast] at this; rw [this]; exact hb
              have HB := Lib.hid (readW_1 _ _ q HQ.out hb)
              have HX := Lib.hid (or_pow ((readW m.toNat k : Nat) : Int) k (by omega) (by omega) (by omega))
              clear hb
              go_wp2
              go_round
              case rel => exact ⟨k + 1, by omega, by go_num, by have := HX.out; rw [Int.toNat_natCast] at this; rw [HB.out, ← this]⟩
              case measure => simp [intOf]; omega
          · obtain rfl : k = 8 := by omega
            go_wp2
            go_ret2
            exact ⟨ret_two (by rw [HF.out, ← Int.toNat_natCast (mend _ _), ← HM.out]; try rfl), hb1⟩
  · have HF := Lib.hid (fix_out s hin)
    by_cases h1 : 0 ≤ s
    · have h2 : ¬ s ≤ 4095 := by omega
      clear hin
      go_enter Try.func52, Try.ntmps52
      go_wp2
      go_ret2
      exact ⟨ret_two HF.out, Below.refl _ _⟩
    · clear hin
      go_enter Try.func52, Try.ntmps52
      go_wp2
      go_ret2
      exact ⟨ret_two HF.out, Below.refl _ _⟩

set_option maxHeartbeats 4000000 in
theorem sFix (s : Int) (w : World) :
    Calls Try.prog 54 #[.int .i64 s] w fun e w' => e = .returned (.tuple #[.int .i64 (fixF s).1, .int .i64 (fixF s).2]) ∧ Below w.heap.size w w' := by
  cases e1 : inB s 0 4095
  · have HF := Lib.hid (show fixF s = (-1, -1) by rw [fixF, e1]; simp)
    go_enter Try.func54, Try.ntmps54
    go_wp2_with (go_at_call 57; refine (l1In_any _ _ _ _).mono ?_; rintro e w' ⟨rfl, rfl⟩)
    go_ret2
    exact ⟨ret_two HF.out, Below.refl _ _⟩
  · obtain ⟨h1, h2⟩ := inB_iff.1 e1
    have hT := together_lt s.toNat 12 (by omega)
    by_cases hfar : 12 < together s.toNat 12
    · have HF := Lib.hid (fix_far s h1 h2 hfar)
      obtain ⟨t, HT⟩ : ∃ t, Hid (t = together s.toNat 12) := ⟨_, rfl⟩
      rw [← HT.out] at hT hfar
      go_enter Try.func54, Try.ntmps54
      go_wp2_with (first | (go_at_call 57; refine (l1In_any _ _ _ _).mono ?_; rintro e w' ⟨rfl, rfl⟩) | (go_at_call 64; refine (l2Sum_any _ _ (by omega) (by omega)).mono ?_; rintro e w' ⟨rfl, rfl⟩; rw [← HT.out]))
      go_ret2
      exact ⟨ret_two HF.out, Below.refl _ _⟩
    · have HF := Lib.hid (fix_in s h1 h2 (by omega))
      have hM := mend_lt s.toNat (together s.toNat 12) (by omega) (by omega)
      obtain ⟨t, HT⟩ : ∃ t, Hid (t = together s.toNat 12) := ⟨_, rfl⟩
      rw [← HT.out] at hT hfar hM HF
      obtain ⟨m, hm0, hm1, HM⟩ : ∃ m : Int, 0 ≤ m ∧ m ≤ 4095 ∧ Hid (m = ((mend s.toNat t : Nat) : Int)) := ⟨((mend s.toNat t : Nat) : Int), by omega, by omega, rfl⟩
      by_cases h0 : 0 < t
      · have HX := Lib.hid (show flipF s (t : Int) = m by rw [HM.out, flipF, e1, inB_t (by omega) (by omega), Bool.and_self, if_pos rfl, mend, if_neg (by omega), Int.toNat_natCast])
        clear hM
        go_enter Try.func54, Try.ntmps54
        go_wp2_with (first | (go_at_call 57; refine (l1In_any _ _ _ _).mono ?_; rintro e w' ⟨rfl, rfl⟩) | (go_at_call 64; refine (l2Sum_any _ _ (by omega) (by omega)).mono ?_; rintro e w' ⟨rfl, rfl⟩; rw [← HT.out]) | (go_at_call 39; refine (sFlip _ _ _).mono ?_; rintro e w' ⟨rfl, rfl⟩; rw [HX.out]))
        go_loop [5, 7] (fun a p => ∃ (k : Nat), k ≤ 8 ∧ p = .int .i64 (k : Int) ∧ a = .int .i64 ((readW m.toNat k : Nat) : Int)) (fun _ p => 8 - (intOf p).toNat)
        case atStart => exact ⟨0, by omega, rfl, by rw [readW]; rfl⟩
        case round =>
          obtain ⟨k, hk, rfl, rfl⟩ := hrel
          have hL := readW_lt m.toNat k (by omega)
          have hk9 : k = 0 ∨ k = 1 ∨ k = 2 ∨ k = 3 ∨ k = 4 ∨ k = 5 ∨ k = 6 ∨ k = 7 ∨ k = 8 := by omega
          rcases hk9 with rfl | rfl | rfl | rfl | rfl | rfl | rfl | rfl | rfl
          · have HX := Lib.hid (ro0 m hm0)
            go_wp2
            go_round
            case rel => exact ⟨1, by omega, rfl, by rw [← HX.out]⟩
            case measure => simp [intOf]
          · have HX := Lib.hid (ro1 m hm0)
            go_wp2
            go_round
            case rel => exact ⟨2, by omega, rfl, by rw [← HX.out]⟩
            case measure => simp [intOf]
          · have HX := Lib.hid (ro2 m hm0)
            go_wp2
            go_round
            case rel => exact ⟨3, by omega, rfl, by rw [← HX.out]⟩
            case measure => simp [intOf]
          · have HX := Lib.hid (ro3 m hm0)
            go_wp2
            go_round
            case rel => exact ⟨4, by omega, rfl, by rw [← HX.out]⟩
            case measure => simp [intOf]
          · have HX := Lib.hid (ro4 m hm0)
            go_wp2
            go_round
            case rel => exact ⟨5, by omega, rfl, by rw [← HX.out]⟩
            case measure => simp [intOf]
          · have HX := Lib.hid (ro5 m hm0)
            go_wp2
            go_round
            case rel => exact ⟨6, by omega, rfl, by rw [← HX.out]⟩
            case measure => simp [intOf]
          · have HX := Lib.hid (ro6 m hm0)
            go_wp2
            go_round
            case rel => exact ⟨7, by omega, rfl, by rw [← HX.out]⟩
            case measure => simp [intOf]
          · have HX := Lib.hid (ro7 m hm0)
            go_wp2
            go_round
            case rel => exact ⟨8, by omega, rfl, by rw [← HX.out]⟩
            case measure => simp [intOf]
          · go_wp2
            go_ret2
            exact ⟨ret_two (by rw [HF.out, ← Int.toNat_natCast (mend _ _), ← HM.out]; try rfl), (Below.refl _ _).alloc (Nat.le_refl _) _⟩
      · obtain rfl : t = 0 := by omega
        obtain rfl : m = s := by have := HM.out; rw [mend, if_pos rfl] at this; omega
        clear hM
        go_enter Try.func54, Try.ntmps54
        go_wp2_with (first | (go_at_call 57; refine (l1In_any _ _ _ _).mono ?_; rintro e w' ⟨rfl, rfl⟩) | (go_at_call 64; refine (l2Sum_any _ _ (by omega) (by omega)).mono ?_; rintro e w' ⟨rfl, rfl⟩; rw [← HT.out]))
        go_loop [5, 7] (fun a p => ∃ (k : Nat), k ≤ 8 ∧ p = .int .i64 (k : Int) ∧ a = .int .i64 ((readW m.toNat k : Nat) : Int)) (fun _ p => 8 - (intOf p).toNat)
        case atStart => exact ⟨0, by omega, rfl, by rw [readW]; rfl⟩
        case round =>
          obtain ⟨k, hk, rfl, rfl⟩ := hrel
          have hL := readW_lt m.toNat k (by omega)
          have hk9 : k = 0 ∨ k = 1 ∨ k = 2 ∨ k = 3 ∨ k = 4 ∨ k = 5 ∨ k = 6 ∨ k = 7 ∨ k = 8 := by omega
          rcases hk9 with rfl | rfl | rfl | rfl | rfl | rfl | rfl | rfl | rfl
          · have HX := Lib.hid (ro0 m hm0)
            go_wp2
            go_round
            case rel => exact ⟨1, by omega, rfl, by rw [← HX.out]⟩
            case measure => simp [intOf]
          · have HX := Lib.hid (ro1 m hm0)
            go_wp2
            go_round
            case rel => exact ⟨2, by omega, rfl, by rw [← HX.out]⟩
            case measure => simp [intOf]
          · have HX := Lib.hid (ro2 m hm0)
            go_wp2
            go_round
            case rel => exact ⟨3, by omega, rfl, by rw [← HX.out]⟩
            case measure => simp [intOf]
          · have HX := Lib.hid (ro3 m hm0)
            go_wp2
            go_round
            case rel => exact ⟨4, by omega, rfl, by rw [← HX.out]⟩
            case measure => simp [intOf]
          · have HX := Lib.hid (ro4 m hm0)
            go_wp2
            go_round
            case rel => exact ⟨5, by omega, rfl, by rw [← HX.out]⟩
            case measure => simp [intOf]
          · have HX := Lib.hid (ro5 m hm0)
            go_wp2
            go_round
            case rel => exact ⟨6, by omega, rfl, by rw [← HX.out]⟩
            case measure => simp [intOf]
          · have HX := Lib.hid (ro6 m hm0)
            go_wp2
            go_round
            case rel => exact ⟨7, by omega, rfl, by rw [← HX.out]⟩
            case measure => simp [intOf]
          · have HX := Lib.hid (ro7 m hm0)
            go_wp2
            go_round
            case rel => exact ⟨8, by omega, rfl, by rw [← HX.out]⟩
            case measure => simp [intOf]
          · go_wp2
            go_ret2
            exact ⟨ret_two (by rw [HF.out, ← Int.toNat_natCast (mend _ _), ← HM.out]; try rfl), (Below.refl _ _).alloc (Nat.le_refl _) _⟩
end Go.Proofs.Ytejppibmjckckaa
