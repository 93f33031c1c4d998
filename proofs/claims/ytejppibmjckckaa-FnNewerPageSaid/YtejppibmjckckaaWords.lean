/- What the program's and the reference's functions on words return, for every argument. -/
import Derived.Test.YtejppibmjckckaaSets2
namespace Go.Proofs.Ytejppibmjckckaa
open Go.RowKit
set_option linter.unusedVariables false

set_option maxHeartbeats 400000 in
theorem iBitFirst (s : Int) (w : World) :
    Calls Try.prog 27 #[.int .i64 s] w fun e w' => e = .returned (.int .i64 (bitFirstF s)) ∧ w = w' := by
  by_cases hin : 0 ≤ s ∧ s ≤ 65535
  · obtain ⟨h1, h2⟩ := hin
    have HF := Lib.hid (show bitFirstF s = firstIn s.toNat 16 0 by simp [bitFirstF, inB_t, h1, h2])
    go_enter Try.func27, Try.ntmps27
    go_wp2
    go_loop [10] (fun i => ∃ n : Nat, i = .int .i64 (n : Int) ∧ n ≤ 16 ∧ Hid (firstIn s.toNat (16 - n) n = firstIn s.toNat 16 0)) (fun i => 16 - (intOf i).toNat)
    case atStart => exact ⟨0, rfl, by omega, rfl⟩
    case round =>
      obtain ⟨n, rfl, hn, hH⟩ := hrel
      by_cases hlt : n < 16
      · have HE := Lib.hid (and1_int s n h1 (by omega))
        have HS := Lib.hid (firstIn_step s.toNat (15 - n) n)
        have HK := Lib.hid (show 16 - n = 15 - n + 1 by omega)
        cases hb : s.toNat.testBit n
        · have hE : (bits .and .i64 (s / 2 ^ n) 1 == 1) = false := by have := HE.out; rw [Int.toNat_natCast] at this; rw [this]; exact hb
          have HB := Lib.hid hb
          clear hb
          go_wp2
          go_round
          case rel => exact ⟨n + 1, by go_num, by omega, by have := hH.out; rw [HK.out, HS.out, HB.out] at this; rw [show 16 - (n + 1) = 15 - n by omega]; simpa [Hid] using this⟩
          case measure => simp [intOf]; omega
        · have hE : (bits .and .i64 (s / 2 ^ n) 1 == 1) = true := by have := HE.out; rw [Int.toNat_natCast] at this; rw [this]; exact hb
          have HB := Lib.hid hb
          clear hb
          go_wp2
          go_ret
          exact ⟨ret_int (by rw [HF.out]; have := hH.out; rw [HK.out, HS.out, HB.out] at this; simpa using this), rfl⟩
      · obtain rfl : n = 16 := by omega
        go_wp2
        go_ret
        exact ⟨ret_int (by rw [HF.out]; have := hH.out; rw [← this]; simp [firstIn]), rfl⟩
  · have HF := Lib.hid (show bitFirstF s = -1 by rw [bitFirstF, if_neg]; simp [inB]; omega)
    by_cases h1 : 0 ≤ s
    · have h2 : ¬ s ≤ 65535 := by omega
      clear hin
      go_enter Try.func27, Try.ntmps27
      go_wp2
      go_ret
      exact ⟨by rw [HF.out]; rfl, rfl⟩
    · clear hin
      go_enter Try.func27, Try.ntmps27
      go_wp2
      go_ret
      exact ⟨by rw [HF.out]; rfl, rfl⟩

theorem bitFirst_step (s : Int) (n : Nat) (hn : n < 16) (h : bitHasF s n = true) (hl : ∀ j : Nat, j < n → bitHasF s j = false) : bitFirstF s = n := by
  have hs : inB s 0 65535 = true := by
    cases e : inB s 0 65535
    · rw [bitHasF, e] at h; simp at h
    · rfl
  have ht : ∀ j : Nat, j < 16 → bitHasF s j = s.toNat.testBit j := fun j hj => by
    rw [bitHasF, hs, inB_t (n := (j : Int)) (by omega) (by omega)]; simp
  rw [bitFirstF, hs, if_pos rfl]
  have gen : ∀ k m, m + k = 16 → m ≤ n → firstIn s.toNat k m = n := by
    intro k
    induction k with
    | zero => intro m h1 h2; omega
    | succ k ih =>
      intro m h1 h2
      rw [firstIn_step]
      by_cases e : m = n
      · subst e; rw [ht m hn] at h; rw [h]; rfl
      · have := hl m (by omega); rw [ht m (by omega)] at this; rw [this]; exact ih (m + 1) (by omega) (by omega)
  exact gen 16 0 rfl (by omega)
theorem bitFirst_none (s : Int) (hl : ∀ j : Nat, j < 16 → bitHasF s j = false) : bitFirstF s = -1 := by
  rw [bitFirstF]
  cases hs : inB s 0 65535
  · rfl
  · rw [if_pos rfl]
    have ht : ∀ j : Nat, j < 16 → s.toNat.testBit j = false := fun j hj => by
      have := hl j hj; rw [bitHasF, hs, inB_t (n := (j : Int)) (by omega) (by omega)] at this; simpa using this
    have gen : ∀ k m, m + k = 16 → firstIn s.toNat k m = -1 := by
      intro k
      induction k with
      | zero => intro m h1; rw [firstIn]
      | succ k ih => intro m h1; rw [firstIn_step, ht m (by omega)]; exact ih (m + 1) (by omega)
    exact gen 16 0 rfl

set_option maxHeartbeats 400000 in
theorem sBitFirst (s : Int) (w : World) :
    Calls Try.prog 28 #[.int .i64 s] w fun e w' => e = .returned (.int .i64 (bitFirstF s)) ∧ w = w' := by
  go_enter Try.func28, Try.ntmps28
  go_wp2
  go_loop [3] (fun i => ∃ n : Nat, i = .int .i64 (n : Int) ∧ n ≤ 16 ∧ Hid (∀ j : Nat, j < n → bitHasF s j = false)) (fun i => 16 - (intOf i).toNat)
  case atStart => exact ⟨0, rfl, by omega, fun j hj => by omega⟩
  case round =>
    obtain ⟨n, rfl, hn, hH⟩ := hrel
    by_cases hlt : n < 16
    · cases hb : bitHasF s n
      · go_wp2_with (go_at_call 24; refine (sBitHas _ _ _).mono ?_; rintro e w' ⟨rfl, rfl⟩)
        go_round
        case rel => exact ⟨n + 1, by go_num, by omega, fun j hj => by
          by_cases e : j = n
          · rw [e]; exact hb
          · exact hH.out j (by omega)⟩
        case measure => simp [intOf]; omega
      · go_wp2_with (go_at_call 24; refine (sBitHas _ _ _).mono ?_; rintro e w' ⟨rfl, rfl⟩)
        go_ret
        exact ⟨ret_int (bitFirst_step s n hlt hb hH.out).symm, rfl⟩
    · obtain rfl : n = 16 := by omega
      go_wp2_with (go_at_call 24; refine (sBitHas _ _ _).mono ?_; rintro e w' ⟨rfl, rfl⟩)
      go_ret
      exact ⟨ret_int (bitFirst_none s hH.out).symm, rfl⟩

set_option maxHeartbeats 800000 in
theorem iFlip (s n : Int) (w : World) :
    Calls Try.prog 38 #[.int .i64 s, .int .i64 n] w fun e w' => e = .returned (.int .i64 (flipF s n)) ∧ w = w' := by
  by_cases hin : (0 ≤ s ∧ s ≤ 4095) ∧ 1 ≤ n ∧ n ≤ 12
  · obtain ⟨⟨h1, h2⟩, h3, h4⟩ := hin
    have H1 := Lib.hid (xor_pow s (n.toNat - 1) h1 (by omega) (by omega))
    have HF := Lib.hid (show flipF s n = ((s.toNat ^^^ 2 ^ (n.toNat - 1) : Nat) : Int) by simp [flipF, inB_t, h1, h2, h3, h4])
    go_enter Try.func38, Try.ntmps38
    go_wp2
    go_ret
    exact ⟨ret_int (by rw [HF.out, ← H1.out]), rfl⟩
  · have HF := Lib.hid (show flipF s n = -1 by rw [flipF, if_neg]; simp [inB]; omega)
    by_cases h1 : 0 ≤ s <;> by_cases h2 : s ≤ 4095 <;> by_cases h3 : 1 ≤ n <;> by_cases h4 : n ≤ 12
    all_goals try (exfalso; omega)
    all_goals
      clear hin
      go_enter Try.func38, Try.ntmps38
      go_wp2
      go_ret
      exact ⟨by rw [HF.out]; rfl, rfl⟩

set_option maxHeartbeats 400000 in
theorem sFlip (s n : Int) (w : World) :
    Calls Try.prog 39 #[.int .i64 s, .int .i64 n] w fun e w' => e = .returned (.int .i64 (flipF s n)) ∧ w = w' := by
  cases e1 : inB s 0 4095
  · have HF := Lib.hid (show flipF s n = -1 by rw [flipF, e1]; simp)
    go_enter Try.func39, Try.ntmps39
    go_wp2_with (go_at_call 57; refine (l1In_any _ _ _ _).mono ?_; rintro e w' ⟨rfl, rfl⟩)
    go_ret
    exact ⟨by rw [HF.out]; rfl, rfl⟩
  · cases e2 : inB n 1 12
    · have HF := Lib.hid (show flipF s n = -1 by rw [flipF, e2]; simp)
      go_enter Try.func39, Try.ntmps39
      go_wp2_with (go_at_call 57; refine (l1In_any _ _ _ _).mono ?_; rintro e w' ⟨rfl, rfl⟩)
      go_ret
      exact ⟨by rw [HF.out]; rfl, rfl⟩
    · obtain ⟨h1, h2⟩ := inB_iff.1 e1
      obtain ⟨h3, h4⟩ := inB_iff.1 e2
      have H1 := Lib.hid (xor_pow s (n.toNat - 1) h1 (by omega) (by omega))
      have HF := Lib.hid (show flipF s n = ((s.toNat ^^^ 2 ^ (n.toNat - 1) : Nat) : Int) by simp [flipF, inB_t, h1, h2, h3, h4])
      go_enter Try.func39, Try.ntmps39
      go_wp2_with (go_at_call 57; refine (l1In_any _ _ _ _).mono ?_; rintro e w' ⟨rfl, rfl⟩)
      go_ret
      exact ⟨ret_int (by rw [HF.out, ← H1.out]), rfl⟩

theorem apart_in (a b : Int) (h1 : 0 ≤ a) (h2 : a ≤ 4095) (h3 : 0 ≤ b) (h4 : b ≤ 4095) : apartF a b = bitCountF (bits .xor .i64 a b) := by
  rw [xor_int a b h1 (by omega) h3 (by omega)]
  have hx : a.toNat ^^^ b.toNat < 2 ^ 12 := xor_lt _ _ 12 (by omega) (by omega)
  rw [apartF, inB_t h1 h2, inB_t h3 h4, bitCountF, inB_t (by omega) (by omega)]
  simp

set_option maxHeartbeats 800000 in
theorem iApart (s n : Int) (w : World) :
    Calls Try.prog 40 #[.int .i64 s, .int .i64 n] w fun e w' => e = .returned (.int .i64 (apartF s n)) ∧ w = w' := by
  by_cases hin : (0 ≤ s ∧ s ≤ 4095) ∧ 0 ≤ n ∧ n ≤ 4095
  · obtain ⟨⟨h1, h2⟩, h3, h4⟩ := hin
    have HF := Lib.hid (apart_in s n h1 h2 h3 h4)
    go_enter Try.func40, Try.ntmps40
    go_wp2_with (go_at_call 16; refine (iBitCount _ _).mono ?_; rintro e w' ⟨rfl, rfl⟩)
    go_ret
    exact ⟨ret_int (by rw [HF.out]), rfl⟩
  · have HF := Lib.hid (show apartF s n = -1 by rw [apartF, if_neg]; simp [inB]; omega)
    by_cases h1 : 0 ≤ s <;> by_cases h2 : s ≤ 4095 <;> by_cases h3 : 0 ≤ n <;> by_cases h4 : n ≤ 4095
    all_goals try (exfalso; omega)
    all_goals
      clear hin
      go_enter Try.func40, Try.ntmps40
      go_wp2
      go_ret
      exact ⟨by rw [HF.out]; rfl, rfl⟩

set_option maxHeartbeats 400000 in
theorem sApart (s n : Int) (w : World) :
    Calls Try.prog 48 #[.int .i64 s, .int .i64 n] w fun e w' => e = .returned (.int .i64 (apartF s n)) ∧ w = w' := by
  cases e1 : inB s 0 4095
  · have HF := Lib.hid (show apartF s n = -1 by rw [apartF, e1]; simp)
    go_enter Try.func48, Try.ntmps48
    go_wp2_with (go_at_call 57; refine (l1In_any _ _ _ _).mono ?_; rintro e w' ⟨rfl, rfl⟩)
    go_ret
    exact ⟨by rw [HF.out]; rfl, rfl⟩
  · cases e2 : inB n 0 4095
    · have HF := Lib.hid (show apartF s n = -1 by rw [apartF, e2]; simp)
      go_enter Try.func48, Try.ntmps48
      go_wp2_with (go_at_call 57; refine (l1In_any _ _ _ _).mono ?_; rintro e w' ⟨rfl, rfl⟩)
      go_ret
      exact ⟨by rw [HF.out]; rfl, rfl⟩
    · obtain ⟨h1, h2⟩ := inB_iff.1 e1
      obtain ⟨h3, h4⟩ := inB_iff.1 e2
      have HF := Lib.hid (apart_in s n h1 h2 h3 h4)
      go_enter Try.func48, Try.ntmps48
      go_wp2_with (first | (go_at_call 57; refine (l1In_any _ _ _ _).mono ?_; rintro e w' ⟨rfl, rfl⟩) | (go_at_call 17; refine (sBitCount _ _).mono ?_; rintro e w' ⟨rfl, rfl⟩))
      go_ret
      exact ⟨ret_int (by rw [HF.out]), rfl⟩
end Go.Proofs.Ytejppibmjckckaa
