/- Plain laws on sets and words, as the laws ask them; and the law's own 'alive'. -/
import Derived.Test.YtejppibmjckckaaCodes2
import Derived.Test.YtejppibmjckckaaPages2
namespace Go.Proofs.Ytejppibmjckckaa
open Go.RowKit
set_option linter.unusedVariables false

theorem count_10 : bitCountF 10 = 2 := by rw [bitCountF, inB_t (by decide) (by decide), if_pos rfl]; have : pc 16 (Int.toNat 10) = 2 := by unfold pc; decide +kernel
                                          rw [this]; rfl
theorem count_m1 : bitCountF (-1) = -1 := by rw [bitCountF, inB_lo (by decide)]; rfl
set_option maxHeartbeats 400000 in
theorem alive_any (w : World) : Calls Try.prog 19 #[] w fun e w' => e = .returned (.bool true) ∧ w = w' := by
  have k1 := count_10
  have k2 := count_m1
  go_enter Try.func19, Try.ntmps19
  go_wp2_with (go_at_call 16; refine (iBitCount _ _).mono ?_; rintro e w' ⟨rfl, rfl⟩)
  go_ret
  exact ⟨rfl, rfl⟩

theorem put_out (s t : Int) (b : Bool) (h : ¬ ((0 ≤ s ∧ s ≤ 65535) ∧ 0 ≤ t ∧ t ≤ 15)) : bitPutF s t b = -1 := by rw [bitPutF, if_neg]; simp [inB]; omega
theorem has_out (s t : Int) (h : ¬ ((0 ≤ s ∧ s ≤ 65535) ∧ 0 ≤ t ∧ t ≤ 15)) : bitHasF s t = false := by
  rw [bitHasF]; simp only [Bool.and_eq_false_iff]; left; simp only [inB, Bool.and_eq_false_iff, decide_eq_false_iff_not]; omega
theorem put_true (s t : Int) (h : (0 ≤ s ∧ s ≤ 65535) ∧ 0 ≤ t ∧ t ≤ 15) : bitPutF s t true = ((s.toNat ||| 2 ^ t.toNat : Nat) : Int) := by
  rw [bitPutF, inB_t h.1.1 h.1.2, inB_t h.2.1 h.2.2]; rfl
theorem put_false (s t : Int) (h : (0 ≤ s ∧ s ≤ 65535) ∧ 0 ≤ t ∧ t ≤ 15) : bitPutF s t false = ((s.toNat ^^^ (s.toNat &&& 2 ^ t.toNat) : Nat) : Int) := by
  rw [bitPutF, inB_t h.1.1 h.1.2, inB_t h.2.1 h.2.2]; rfl
theorem has_in (s t : Int) (h : (0 ≤ s ∧ s ≤ 65535) ∧ 0 ≤ t ∧ t ≤ 15) : bitHasF s t = s.toNat.testBit t.toNat := by
  rw [bitHasF, inB_t h.1.1 h.1.2, inB_t h.2.1 h.2.2]; rfl
theorem put_in (s t : Int) (b : Bool) (h : (0 ≤ s ∧ s ≤ 65535) ∧ 0 ≤ t ∧ t ≤ 15) : 0 ≤ bitPutF s t b ∧ bitPutF s t b ≤ 65535 := by
  have hs : s.toNat < 2 ^ 16 := by omega
  have hp : (2 : Nat) ^ t.toNat < 2 ^ 16 := Nat.pow_lt_pow_right (by decide) (by omega)
  cases b
  · rw [put_false s t h]
    have h1 : s.toNat &&& 2 ^ t.toNat < 2 ^ 16 := Nat.and_lt_two_pow _ hp
    have := xor_lt _ _ 16 hs h1
    omega
  · rw [put_true s t h]
    have := Nat.or_lt_two_pow hs hp
    omega
/-- which numbers a set has after one is put or taken away -/
theorem put_bits (s t : Int) (b : Bool) (h : (0 ≤ s ∧ s ≤ 65535) ∧ 0 ≤ t ∧ t ≤ 15) (k : Nat) (hk : k ≤ 15) : bitHasF (bitPutF s t b) k = if (k : Int) = t then b else bitHasF s k := by
  have hp := put_in s t b h
  rw [has_in _ (k : Int) ⟨hp, by omega, by omega⟩, has_in s (k : Int) ⟨h.1, by omega, by omega⟩, Int.toNat_natCast]
  have e : (t.toNat = k) ↔ ((k : Int) = t) := by omega
  cases b
  · rw [put_false s t h, Int.toNat_natCast, Nat.testBit_xor, Nat.testBit_and, Nat.testBit_two_pow]
    by_cases hkt : (k : Int) = t
    · rw [if_pos hkt, decide_eq_true (e.2 hkt)]; cases s.toNat.testBit k <;> rfl
    · rw [if_neg hkt, decide_eq_false (fun h => hkt (e.1 h))]; cases s.toNat.testBit k <;> rfl
  · rw [put_true s t h, Int.toNat_natCast, Nat.testBit_or, Nat.testBit_two_pow]
    by_cases hkt : (k : Int) = t
    · rw [if_pos hkt, decide_eq_true (e.2 hkt)]; cases s.toNat.testBit k <;> rfl
    · rw [if_neg hkt, decide_eq_false (fun h => hkt (e.1 h))]; cases s.toNat.testBit k <;> rfl
theorem put_has (s t : Int) (h : (0 ≤ s ∧ s ≤ 65535) ∧ 0 ≤ t ∧ t ≤ 15) :
    0 ≤ bitPutF s t true ∧ Hid (bitHasF (bitPutF s t true) t = true) ∧ 0 ≤ bitPutF s t false ∧ Hid (bitHasF (bitPutF s t false) t = false) := by
  obtain ⟨k, rfl⟩ := Int.eq_ofNat_of_zero_le h.2.1
  exact ⟨(put_in s k true h).1, by have := put_bits s k true h k (by omega); simpa [Hid] using this, (put_in s k false h).1, by have := put_bits s k false h k (by omega); simpa [Hid] using this⟩

theorem flip_out (s t : Int) (h : ¬ ((0 ≤ s ∧ s ≤ 4095) ∧ 1 ≤ t ∧ t ≤ 12)) : flipF s t = -1 := by rw [flipF, if_neg]; simp [inB]; omega
theorem flip_in (s t : Int) (h : (0 ≤ s ∧ s ≤ 4095) ∧ 1 ≤ t ∧ t ≤ 12) : flipF s t = ((s.toNat ^^^ 2 ^ (t.toNat - 1) : Nat) : Int) := by
  rw [flipF, inB_t h.1.1 h.1.2, inB_t h.2.1 h.2.2]; rfl
theorem pc_pow : ∀ k, k < 16 → pc 16 (2 ^ k) = 1 := by
  intro k hk
  have h : k = 0 ∨ k = 1 ∨ k = 2 ∨ k = 3 ∨ k = 4 ∨ k = 5 ∨ k = 6 ∨ k = 7 ∨ k = 8 ∨ k = 9 ∨ k = 10 ∨ k = 11 ∨ k = 12 ∨ k = 13 ∨ k = 14 ∨ k = 15 := by omega
  rcases h with rfl | rfl | rfl | rfl | rfl | rfl | rfl | rfl | rfl | rfl | rfl | rfl | rfl | rfl | rfl | rfl <;> decide +kernel
theorem flip_laws (s t : Int) (h : (0 ≤ s ∧ s ≤ 4095) ∧ 1 ≤ t ∧ t ≤ 12) : 0 ≤ flipF s t ∧ flipF (flipF s t) t = s ∧ apartF s (flipF s t) = 1 := by
  have hp : (2 : Nat) ^ (t.toNat - 1) < 2 ^ 12 := Nat.pow_lt_pow_right (by decide) (by omega)
  have hx := xor_lt s.toNat _ 12 (by omega) hp
  have e := flip_in s t h
  refine ⟨by omega, ?_, ?_⟩
  · rw [flip_in _ t ⟨by omega, h.2⟩, e, Int.toNat_natCast, Nat.xor_assoc, Nat.xor_self, Nat.xor_zero]; omega
  · rw [apartF, inB_t h.1.1 h.1.2, inB_t (n := flipF s t) (by omega) (by omega), e, Int.toNat_natCast, ← Nat.xor_assoc, Nat.xor_self, Nat.zero_xor, pc_pow _ (by omega)]; rfl

theorem apart_out (s t : Int) (h : ¬ ((0 ≤ s ∧ s ≤ 4095) ∧ 0 ≤ t ∧ t ≤ 4095)) : apartF s t = -1 := by rw [apartF, if_neg]; simp [inB]; omega
theorem apart_is (s t : Int) (h : (0 ≤ s ∧ s ≤ 4095) ∧ 0 ≤ t ∧ t ≤ 4095) : apartF s t = ((pc 16 (s.toNat ^^^ t.toNat) : Nat) : Int) := by
  rw [apartF, inB_t h.1.1 h.1.2, inB_t h.2.1 h.2.2]; rfl
theorem apart_comm (s t : Int) : apartF s t = apartF t s := by
  by_cases h : (0 ≤ s ∧ s ≤ 4095) ∧ 0 ≤ t ∧ t ≤ 4095
  · rw [apart_is s t h, apart_is t s h.symm, Nat.xor_comm]
  · rw [apart_out s t h, apart_out t s (fun h' => h h'.symm)]
theorem pc_zero_iff (k : Nat) : ∀ x, x < 2 ^ k → pc k x = 0 → x = 0 := by
  induction k with
  | zero => intro x hx _; simpa using hx
  | succ k ih =>
    intro x hx h
    rw [pc] at h
    have := ih (x / 2) (by rw [Nat.pow_succ] at hx; omega) (by omega)
    omega
theorem xor_eq_zero (a b : Nat) (h : a ^^^ b = 0) : a = b := by
  have : (a ^^^ b) ^^^ b = b := by rw [h, Nat.zero_xor]
  rwa [Nat.xor_assoc, Nat.xor_self, Nat.xor_zero] at this
theorem apart_laws (s t : Int) (h : (0 ≤ s ∧ s ≤ 4095) ∧ 0 ≤ t ∧ t ≤ 4095) :
    0 ≤ apartF s t ∧ apartF s t ≤ 12 ∧ apartF s s = 0 ∧ (apartF s t == 0) = (s == t) := by
  have hx := xor_lt s.toNat t.toNat 12 (by omega) (by omega)
  have e := apart_is s t h
  have h12 : pc 16 (s.toNat ^^^ t.toNat) = pc 12 (s.toNat ^^^ t.toNat) := by
    rw [pc_stable 15 _ (by omega), pc_stable 14 _ (by omega), pc_stable 13 _ (by omega), pc_stable 12 _ (by omega)]
  have hle := pc_le 12 (s.toNat ^^^ t.toNat)
  refine ⟨by omega, by omega, ?_, ?_⟩
  · rw [apart_is s s ⟨h.1, h.1⟩, Nat.xor_self, pc_zero]; rfl
  · rw [Bool.eq_iff_iff, beq_iff_eq, beq_iff_eq, e]
    constructor
    · intro h0
      have := pc_zero_iff 16 (s.toNat ^^^ t.toNat) (by omega) (by omega)
      have := xor_eq_zero _ _ this
      omega
    · intro h0
      subst h0
      rw [Nat.xor_self, pc_zero]; rfl
/-! pages -/
theorem same_comm (a b : Pg) : samePlaceF a b = samePlaceF b a := by
  unfold samePlaceF
  have e1 : decide (a.file = b.file) = decide (b.file = a.file) := by rw [Bool.eq_iff_iff]; simp [eq_comm]
  have e2 : decide (a.place = b.place) = decide (b.place = a.place) := by rw [Bool.eq_iff_iff]; simp [eq_comm]
  rw [e1, e2]
  cases pageValidF a <;> cases pageValidF b <;> cases a.full <;> cases b.full <;> rfl
theorem same_self (a : Pg) : samePlaceF a a = (pageValidF a && a.full) := by
  unfold samePlaceF
  cases pageValidF a <;> cases a.full <;> simp
end Go.Proofs.Ytejppibmjckckaa
