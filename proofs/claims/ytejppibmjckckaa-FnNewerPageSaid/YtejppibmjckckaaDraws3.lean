/- What the drawing functions of sets, words, pages and small numbers give, for every code. -/
import Derived.Test.YtejppibmjckckaaDraws2
import Derived.Deep.RegionHeld3
namespace Go.Proofs.Ytejppibmjckckaa
open Go.RowKit
set_option linter.unusedVariables false

/-- some number, the reader asked at most M times, all else as before -/
def DrawnI (g : Nat) (A : Option Addr) (n c M : Nat) (w : World) (e : Ending) (w' : World) : Prop :=
  ∃ s : Int, e = .returned (.int .i64 s) ∧ Rdr w' g A n c M ∧ Kp g w w'
theorem pick_c (g : Nat) (A : Option Addr) (n c M : Nat) (N : Int) (w : World) (h : Rdr w g A n c M) (hM : M ≤ 100000) (hN : 1 ≤ N) :
    Calls Try.prog 59 #[.pointer (some ⟨g, 0, none⟩), .int .i64 N] w fun e w' => ∃ r : Int, e = .returned (.int .i64 r) ∧ 0 ≤ r ∧ r < N ∧ Rdr w' g A n c (M + 1) ∧ Kp g w w' :=
  (pick_any g A n c M N w h hM).mono fun _ _ ⟨r, he, h0, h1, hR, hK⟩ => ⟨r, he, h0, h1 hN, hR, hK⟩
theorem kcell {g : Nat} {a w : World} (h : Kp g a w) {b : Nat} (hb : b < a.heap.size) (hne : b ≠ g) : ∀ o, w.cell? ⟨b, o, none⟩ = a.cell? ⟨b, o, none⟩ := fun _ => h.cell hb hne
theorem kfroz {g : Nat} {a w : World} (h : Kp g a w) {b : Nat} (hb : b < a.heap.size) (hne : b ≠ g) : ∀ o, w.frozen? ⟨b, o, none⟩ = a.frozen? ⟨b, o, none⟩ :=
  fun _ => World.frozen?_of_block (w := a) (h.block b hb (fun e => hne (by injection e)))

set_option maxHeartbeats 2000000 in
theorem set_any (g : Nat) (A : Option Addr) (n c M : Nat) (N : Int) (w : World) (h : Rdr w g A n c M) (hM : M ≤ 50000) (hN : 0 < N) (hN2 : N ≤ 1000) :
    Calls Try.prog 55 #[.pointer (some ⟨g, 0, none⟩), .int .i64 N] w (DrawnI g A n c (M + 4) w) := by
  go_enter Try.func55, Try.ntmps55
  go_wp2_with fail
  refine (odd_any g A n c M N _ h (by omega) hN hN2).mono ?_
  rintro e w1 ⟨b, rfl, hR1, hK1⟩
  have hg1 := hR1.lt
  cases b
  · go_wp2_with fail
    refine (pick_c g A n c (M + 1) 256 _ hR1 (by omega) (by omega)).mono ?_
    rintro e w2 ⟨r2, rfl, h20, h21, hR2, hK2⟩
    go_wp2_with fail
    refine (pick_c g A n c (M + 1 + 1) 256 _ hR2 (by omega) (by omega)).mono ?_
    rintro e w3 ⟨r3, rfl, h30, h31, hR3, hK3⟩
    have hg3 := hR3.lt
    go_wp2_with fail
    refine (pick_c g A n c (M + 1 + 1 + 1) 6 _ (hR3.keep (bel_2 _ _ _)) (by omega) (by omega)).mono ?_
    rintro e w4 ⟨r4, rfl, h40, h41, hR4, hK4⟩
    have hcA := kcell hK4 (b := w3.heap.size) (by simp; omega) (by omega)
    have hcB := kcell hK4 (b := w3.heap.size + 1) (by simp) (by omega)
    have hr4 : r4 = 0 ∨ r4 = 1 ∨ r4 = 2 ∨ r4 = 3 ∨ r4 = 4 ∨ r4 = 5 := by omega
    rcases hr4 with rfl | rfl | rfl | rfl | rfl | rfl
    all_goals
      go_wp2
      go_ret
      exact ⟨_, rfl, hR4.mono (by omega), hK1.trans (hK2.trans (hK3.trans ((Kp.of_below (bel_2 _ _ _)).trans hK4)))⟩
  · go_wp2_with fail
    refine (pick_c g A n c (M + 1) 2 _ (hR1.keep (bel_1 _ _)) (by omega) (by omega)).mono ?_
    rintro e w2 ⟨r2, rfl, h20, h21, hR2, hK2⟩
    have hcA := kcell hK2 (b := w1.heap.size) (by simp) (by omega)
    have hr2 : r2 = 0 ∨ r2 = 1 := by omega
    rcases hr2 with rfl | rfl
    all_goals
      go_wp2
      go_ret
      exact ⟨_, rfl, hR2.mono (by omega), hK1.trans ((Kp.of_below (bel_1 _ _)).trans hK2)⟩

set_option maxHeartbeats 2000000 in
theorem word_any (g : Nat) (A : Option Addr) (n c M : Nat) (N : Int) (w : World) (h : Rdr w g A n c M) (hM : M ≤ 50000) (hN : 0 < N) (hN2 : N ≤ 1000) :
    Calls Try.prog 60 #[.pointer (some ⟨g, 0, none⟩), .int .i64 N] w (DrawnI g A n c (M + 8) w) := by
  go_enter Try.func60, Try.ntmps60
  go_wp2_with fail
  refine (odd_any g A n c M N _ h (by omega) hN hN2).mono ?_
  rintro e w1 ⟨b, rfl, hR1, hK1⟩
  have hg1 := hR1.lt
  cases b
  · go_wp2_with fail
    refine (pick_c g A n c (M + 1) 256 _ hR1 (by omega) (by omega)).mono ?_
    rintro e w2 ⟨r2, rfl, h20, h21, hR2, hK2⟩
    go_wp2_with fail
    refine (sCode _ _).mono ?_
    rintro e w3 ⟨rfl, hb3⟩
    go_wp2_with fail
    refine (pick_c g A n c (M + 1 + 1) 3 _ (hR2.keep hb3) (by omega) (by omega)).mono ?_
    rintro e w4 ⟨r4, rfl, h40, h41, hR4, hK4⟩
    go_wp2_with fail
    have HK := Lib.hid (hK1.trans (hK2.trans ((Kp.of_below hb3).trans hK4)))
    obtain ⟨q, rfl⟩ := Int.eq_ofNat_of_zero_le h40
    go_loopw [5, 6] (fun x k wr => ∃ (s : Int) (j : Nat), x = .int .i64 s ∧ k = .int .i64 (j : Int) ∧ j ≤ q ∧ Rdr wr g A n c (M + 1 + 1 + 1 + (q - j)) ∧ Hid (Kp g w wr)) (fun _ k _ => (intOf k).toNat)
    case atStart => exact ⟨_, q, rfl, rfl, Nat.le_refl _, by rw [Nat.sub_self]; exact hR4, HK.out⟩
    case round =>
      obtain ⟨s, j, rfl, rfl, hj, hR5, HK5⟩ := hrel
      by_cases h0 : 0 < j
      · go_wp2_with fail
        refine (pick_c g A n c _ 12 _ hR5 (by omega) (by omega)).mono ?_
        rintro e w6 ⟨r6, rfl, h60, h61, hR6, hK6⟩
        go_wp2_with fail
        refine (sFlip _ _ _).mono ?_
        rintro e w7 ⟨rfl, rfl⟩
        go_wp2
        go_roundw
        case rel => exact ⟨_, j - 1, rfl, by congr 1; omega, by omega, hR6.mono (by omega), HK5.out.trans hK6⟩
        case measure => simp [intOf]; omega
      · obtain rfl : j = 0 := by omega
        go_wp2
        go_ret
        exact ⟨_, rfl, hR5.mono (by omega), HK5.out⟩
  · go_wp2_with fail
    refine (pick_c g A n c (M + 1) 2 _ (hR1.keep (bel_1 _ _)) (by omega) (by omega)).mono ?_
    rintro e w2 ⟨r2, rfl, h20, h21, hR2, hK2⟩
    have hcA := kcell hK2 (b := w1.heap.size) (by simp) (by omega)
    have hr2 : r2 = 0 ∨ r2 = 1 := by omega
    rcases hr2 with rfl | rfl
    all_goals
      go_wp2
      go_ret
      exact ⟨_, rfl, hR2.mono (by omega), hK1.trans ((Kp.of_below (bel_1 _ _)).trans hK2)⟩

/-- numbers drawn off a code; old memory as before -/
def Got1 (w : World) (e : Ending) (w' : World) : Prop := ∃ s : Int, e = .returned (.int .i64 s) ∧ Below w.heap.size w w'
def Got2 (w : World) (e : Ending) (w' : World) : Prop := ∃ s t : Int, e = .returned (.tuple #[.int .i64 s, .int .i64 t]) ∧ Below w.heap.size w w'
def Got3 (w : World) (e : Ending) (w' : World) : Prop := ∃ (s t : Int) (b : Bool), e = .returned (.tuple #[.int .i64 s, .int .i64 t, .bool b]) ∧ Below w.heap.size w w'
theorem got {w w1 w2 : World} (hb : Below w.heap.size w w1) (hK : Kp w.heap.size w1 w2) : Below w.heap.size w w2 := hb.trans (hK.below (Nat.le_refl _) hb.size)

set_option maxHeartbeats 1000000 in
theorem dBitCount (x : Cd) (w : World) (h : CodeArg w x) : Calls Try.prog 15 #[.slice x.A x.n x.c] w (Got1 w) := by
  go_enter Try.func15, Try.ntmps15
  go_wp2_with fail
  refine (open_any x _ h).mono ?_
  rintro e w1 ⟨A, n, c, rfl, hR, hb⟩
  go_wp2_with fail
  refine (set_any _ A n c 0 6 _ hR (by omega) (by omega) (by omega)).mono ?_
  rintro e w2 ⟨s, rfl, hR2, hK2⟩
  go_wp2
  go_ret
  exact ⟨s, rfl, got hb hK2⟩

set_option maxHeartbeats 1000000 in
theorem dBitFirst (x : Cd) (w : World) (h : CodeArg w x) : Calls Try.prog 26 #[.slice x.A x.n x.c] w (Got1 w) := by
  go_enter Try.func26, Try.ntmps26
  go_wp2_with fail
  refine (open_any x _ h).mono ?_
  rintro e w1 ⟨A, n, c, rfl, hR, hb⟩
  go_wp2_with fail
  refine (set_any _ A n c 0 6 _ hR (by omega) (by omega) (by omega)).mono ?_
  rintro e w2 ⟨s, rfl, hR2, hK2⟩
  go_wp2
  go_ret
  exact ⟨s, rfl, got hb hK2⟩

set_option maxHeartbeats 1000000 in
theorem dFixWord (x : Cd) (w : World) (h : CodeArg w x) : Calls Try.prog 53 #[.slice x.A x.n x.c] w (Got1 w) := by
  go_enter Try.func53, Try.ntmps53
  go_wp2_with fail
  refine (open_any x _ h).mono ?_
  rintro e w1 ⟨A, n, c, rfl, hR, hb⟩
  go_wp2_with fail
  refine (word_any _ A n c 0 9 _ hR (by omega) (by omega) (by omega)).mono ?_
  rintro e w2 ⟨s, rfl, hR2, hK2⟩
  go_wp2
  go_ret
  exact ⟨s, rfl, got hb hK2⟩

set_option maxHeartbeats 1000000 in
theorem dBitHas (x : Cd) (w : World) (h : CodeArg w x) : Calls Try.prog 23 #[.slice x.A x.n x.c] w (Got2 w) := by
  go_enter Try.func23, Try.ntmps23
  go_wp2_with fail
  refine (open_any x _ h).mono ?_
  rintro e w1 ⟨A, n, c, rfl, hR, hb⟩
  go_wp2_with fail
  refine (set_any _ A n c 0 9 _ hR (by omega) (by omega) (by omega)).mono ?_
  rintro e w2 ⟨s, rfl, hR2, hK2⟩
  go_wp2_with fail
  refine (pick_c _ A n c _ 18 _ hR2 (by omega) (by omega)).mono ?_
  rintro e w3 ⟨r3, rfl, h30, h31, hR3, hK3⟩
  go_wp2_with fail
  refine (pick_c _ A n c _ 14 _ hR3 (by omega) (by omega)).mono ?_
  rintro e w4 ⟨r4, rfl, h40, h41, hR4, hK4⟩
  go_wp2
  go_ret2
  exact ⟨_, _, rfl, got hb (hK2.trans (hK3.trans hK4))⟩

set_option maxHeartbeats 1000000 in
theorem dBitPut (x : Cd) (w : World) (h : CodeArg w x) : Calls Try.prog 32 #[.slice x.A x.n x.c] w (Got3 w) := by
  have h2 := h.2.1
  have h1 := h.1
  unfold maxLen at h2
  go_enter Try.func32, Try.ntmps32
  go_wp2_with fail
  refine (dBitHas x _ h).mono ?_
  rintro e w1 ⟨s, t, rfl, hb⟩
  go_wp2
  go_ret3
  exact ⟨_, _, _, rfl, hb⟩

set_option maxHeartbeats 1000000 in
theorem dFlipBit (x : Cd) (w : World) (h : CodeArg w x) : Calls Try.prog 37 #[.slice x.A x.n x.c] w (Got2 w) := by
  go_enter Try.func37, Try.ntmps37
  go_wp2_with fail
  refine (open_any x _ h).mono ?_
  rintro e w1 ⟨A, n, c, rfl, hR, hb⟩
  go_wp2_with fail
  refine (word_any _ A n c 0 9 _ hR (by omega) (by omega) (by omega)).mono ?_
  rintro e w2 ⟨s, rfl, hR2, hK2⟩
  go_wp2_with fail
  refine (pick_c _ A n c _ 14 _ hR2 (by omega) (by omega)).mono ?_
  rintro e w3 ⟨r3, rfl, h30, h31, hR3, hK3⟩
  go_wp2
  go_ret2
  exact ⟨_, _, rfl, got hb (hK2.trans hK3)⟩

set_option maxHeartbeats 1000000 in
theorem dWordsApart (x : Cd) (w : World) (h : CodeArg w x) : Calls Try.prog 47 #[.slice x.A x.n x.c] w (Got2 w) := by
  go_enter Try.func47, Try.ntmps47
  go_wp2_with fail
  refine (open_any x _ h).mono ?_
  rintro e w1 ⟨A, n, c, rfl, hR, hb⟩
  go_wp2_with fail
  refine (word_any _ A n c 0 12 _ hR (by omega) (by omega) (by omega)).mono ?_
  rintro e w2 ⟨s, rfl, hR2, hK2⟩
  go_wp2_with fail
  refine (word_any _ A n c _ 12 _ hR2 (by omega) (by omega) (by omega)).mono ?_
  rintro e w3 ⟨t, rfl, hR3, hK3⟩
  go_wp2
  go_ret2
  exact ⟨_, _, rfl, got hb (hK2.trans hK3)⟩

set_option maxHeartbeats 1000000 in
theorem dCodeWord (x : Cd) (w : World) (h : CodeArg w x) : Calls Try.prog 49 #[.slice x.A x.n x.c] w (Got1 w) := by
  go_enter Try.func49, Try.ntmps49
  go_wp2_with fail
  refine (open_any x _ h).mono ?_
  rintro e w1 ⟨A, n, c, rfl, hR, hb⟩
  go_wp2_with fail
  refine (pick_c _ A n c _ 256 _ hR (by omega) (by omega)).mono ?_
  rintro e w2 ⟨r2, rfl, h20, h21, hR2, hK2⟩
  have hg2 := hR2.lt
  go_wp2_with fail
  refine (pick_c _ A n c _ 7 _ (hR2.keep (bel_2 _ _ _)) (by omega) (by omega)).mono ?_
  rintro e w3 ⟨r3, rfl, h30, h31, hR3, hK3⟩
  have hcA := kcell hK3 (b := w2.heap.size) (by simp; omega) (by omega)
  have hcB := kcell hK3 (b := w2.heap.size + 1) (by simp) (by omega)
  have hr3 : r3 = 0 ∨ r3 = 1 ∨ r3 = 2 ∨ r3 = 3 ∨ r3 = 4 ∨ r3 = 5 ∨ r3 = 6 := by omega
  rcases hr3 with rfl | rfl | rfl | rfl | rfl | rfl | rfl
  all_goals
    go_wp2
    go_ret
    exact ⟨_, rfl, got hb (hK2.trans ((Kp.of_below (bel_2 _ _ _)).trans hK3))⟩

set_option maxHeartbeats 1000000 in
theorem dNewBlock (x : Cd) (w : World) (h : CodeArg w x) : Calls Try.prog 41 #[.slice x.A x.n x.c] w (Got1 w) := by
  go_enter Try.func41, Try.ntmps41
  go_wp2_with fail
  refine (open_any x _ h).mono ?_
  rintro e w1 ⟨A, n, c, rfl, hR, hb⟩
  go_wp2_with fail
  refine (pick_c _ A n c _ 101 _ hR (by omega) (by omega)).mono ?_
  rintro e w2 ⟨r2, rfl, h20, h21, hR2, hK2⟩
  have hg2 := hR2.lt
  go_wp2_with fail
  refine (pick_c _ A n c _ 6 _ (hR2.keep (bel_2 _ _ _)) (by omega) (by omega)).mono ?_
  rintro e w3 ⟨r3, rfl, h30, h31, hR3, hK3⟩
  have hcA := kcell hK3 (b := w2.heap.size) (by simp; omega) (by omega)
  have hcB := kcell hK3 (b := w2.heap.size + 1) (by simp) (by omega)
  have hr3 : r3 = 0 ∨ r3 = 1 ∨ r3 = 2 ∨ r3 = 3 ∨ r3 = 4 ∨ r3 = 5 := by omega
  rcases hr3 with rfl | rfl | rfl | rfl | rfl | rfl
  all_goals
    go_wp2
    go_ret
    exact ⟨_, rfl, got hb (hK2.trans ((Kp.of_below (bel_2 _ _ _)).trans hK3))⟩

end Go.Proofs.Ytejppibmjckckaa
