/-auto What the program's and the reference's functions on one block return. -/
import Derived.Test.YteekikaebmkioaaMem
import Derived.Outline
namespace Go.Proofs.Yteekikaebmkioaa
open Go.RowKit
set_option linter.unusedVariables false

theorem bv_1 (x : Int) (ps : List Pg) (h : ¬ (0 ≤ x ∧ x ≤ 100)) : blockValidF ⟨x, ps⟩ = false := by
  rw [blockValidF]; simp only [Bool.and_eq_false_iff]; left; left; simp only [inB, Bool.and_eq_false_iff, decide_eq_false_iff_not]; omega
theorem bv_2 (x : Int) (ps : List Pg) (h : ps.length ≠ 4) : blockValidF ⟨x, ps⟩ = false := by rw [blockValidF, decide_eq_false h]; simp
theorem bv_3 (x : Int) (ps : List Pg) (k : Nat) (hk : k < ps.length) (h : okAt ps k = false) : blockValidF ⟨x, ps⟩ = false := by rw [blockValidF, okTo_false ps hk h]; simp
theorem bv_4 (x : Int) (ps : List Pg) (h : 0 ≤ x ∧ x ≤ 100) (hl : ps.length = 4) (ho : okTo ps 4 = true) : blockValidF ⟨x, ps⟩ = true := by rw [blockValidF, inB_t h.1 h.2, hl, ho]; rfl

theorem bv_5 (x : Int) (ps : List Pg) (k : Nat) (hl : ps.length = k) (ho : okTo ps k = true) : blockValidF ⟨x, ps⟩ = (inB x 0 100 && decide (k = 4)) := by rw [blockValidF, hl, ho]; simp
theorem bn_1 (b : Bl) (h : blockValidF b = false) : blockNextF b = -1 := by rw [blockNextF, h]; rfl
theorem bn_2 (b : Bl) (n : Nat) (hn : b.pages.length = n) (h : blockValidF b = true) : blockNextF b = freeFrom b.pages n 0 := by rw [blockNextF, h, hn]; rfl
theorem bn_3 (b : Bl) (n : Nat) (hn : b.pages.length = n) (h0 : n = 0) : blockNextF b = -1 := by
  rw [blockNextF]; split
  · rw [hn, h0, freeFrom_zero]
  · rfl
theorem ff_1 (ps : List Pg) (n k : Nat) (hk : k < n) (h : (pgAt ps k).full = true) : freeFrom ps (n - k) k = freeFrom ps (n - (k + 1)) (k + 1) := by
  rw [show n - k = (n - (k + 1)) + 1 by omega, freeFrom_succ, h]; rfl
theorem ff_2 (ps : List Pg) (n k : Nat) (hk : k < n) (h : (pgAt ps k).full = false) : freeFrom ps (n - k) k = k := by
  rw [show n - k = (n - (k + 1)) + 1 by omega, freeFrom_succ, h]; rfl
theorem ff_3 (ps : List Pg) (n k : Nat) (hk : k = n) : freeFrom ps (n - k) k = -1 := by rw [hk, Nat.sub_self, freeFrom_zero]
theorem bv_len (b : Bl) (h : blockValidF b = true) : b.pages.length = 4 := by
  rw [blockValidF] at h; simp only [Bool.and_eq_true, decide_eq_true_eq] at h; exact h.1.2
theorem ok_1 (ps : List Pg) (k : Nat) (h : pageValidF (pgAt ps k) = false) : okAt ps k = false := by rw [okAt, h]; rfl
theorem ok_2 (ps : List Pg) (k : Nat) (h : pageValidF (pgAt ps k) = true) (h0 : k = 0) : okAt ps k = true := by rw [okAt, h, h0]; rfl
theorem ok_3 (ps : List Pg) (k : Nat) (h : pageValidF (pgAt ps k) = true) (h0 : (pgAt ps k).full = false) : okAt ps k = true := by rw [okAt, h, h0]; simp
theorem ok_4 (ps : List Pg) (k : Nat) (h : pageValidF (pgAt ps k) = true) (h0 : (pgAt ps (k - 1)).full = true) : okAt ps k = true := by rw [okAt, h, h0]; simp
theorem ok_5 (ps : List Pg) (k : Nat) (h0 : k ≠ 0) (h1 : (pgAt ps k).full = true) (h2 : (pgAt ps (k - 1)).full = false) : okAt ps k = false := by
  rw [okAt, h1, h2]; simp [h0]
theorem okTo_up (ps : List Pg) (k : Nat) (h : okTo ps k = true) (h1 : okAt ps k = true) : okTo ps (k + 1) = true := by rw [okTo_succ, h, h1]; rfl

set_option maxHeartbeats 4000000 in
theorem iBlockValid (x : Int) (A : Option Addr) (n c : Nat) (ps : List Pg) (w : World) (h : PgsAt w A n ps) :
    Calls Try.prog 16 #[.agg #[.int .i64 x, .slice A n c]] w fun e w' => e = .returned (.bool (blockValidF ⟨x, ps⟩)) ∧ Below w.heap.size w w' := by
  obtain ⟨hl, hn, hc⟩ := h
  by_cases hx : 0 ≤ x ∧ x ≤ 100
  · by_cases h4 : n = 4
    · subst h4
      obtain ⟨b, o, rfl, hC⟩ := hc (by omega)
      have HC := Lib.hid hC
      have HL := Lib.hid hl
      clear hC hc hl
      obtain ⟨hx0, hx1⟩ := hx
      go_enter Try.func16, Try.ntmps16
      go_wp2
      have HB0 := Lib.hid (bel_1 w (.cells #[.int .i64 x, .slice (some ⟨b, o, none⟩) 4 c] 25))
      have B0 : Hid ((w.alloc (.cells #[.int .i64 x, .slice (some ⟨b, o, none⟩) 4 c] 25)).cell? ⟨w.heap.size, 0, none⟩ = some (.int .i64 x)) := Lib.hid (by simp [go_sem])
      have B1 : Hid ((w.alloc (.cells #[.int .i64 x, .slice (some ⟨b, o, none⟩) 4 c] 25)).cell? ⟨w.heap.size, 1, none⟩ = some (.slice (some ⟨b, o, none⟩) 4 c)) := Lib.hid (by simp [go_sem])
      have hsW : w.heap.size < (w.alloc (.cells #[.int .i64 x, .slice (some ⟨b, o, none⟩) 4 c] 25)).heap.size := by simp
      generalize w.alloc (.cells #[.int .i64 x, .slice (some ⟨b, o, none⟩) 4 c] 25) = W at *
      go_loopw [22] (fun i wr => ∃ k : Nat, k ≤ 4 ∧ i = .int .i64 (k : Int) ∧ Hid (okTo ps k = true) ∧ Hid (Below W.heap.size W wr)) (fun i _ => 4 - (intOf i).toNat)
      case atStart => exact ⟨0, by omega, rfl, okTo_zero ps, Below.refl _ _⟩
      case round =>
        obtain ⟨k, hk, rfl, HO, HB⟩ := hrel
        have HW := Lib.hid (bel_t HB0.out HB.out)
        have hz : w.heap.size < wr.heap.size := by have := HB.out.size; omega
        have b0 := stays_below HB.out _ _ _ B0.out
        have b1 := stays_below HB.out _ _ _ B1.out
        by_cases hk4 : k = 4
        · subst hk4
          go_wp2
          go_ret
          exact ⟨by rw [bv_4 x ps ⟨hx0, hx1⟩ HL.out HO.out]; rfl, HW.out⟩
        · obtain ⟨c0, c1, c2, c3, c4⟩ := (HC.out k (by omega)).keep (stays_below HW.out)
          rcases hp : pgAt ps k with ⟨f, fi, pl, va, st⟩
          rw [hp] at c0 c1 c2 c3 c4
          simp only [] at c0 c1 c2 c3 c4
          have HP := Lib.hid hp
          clear hp
          go_wp2_with fail
          refine (iPageValid _ _ _ _ _ _).mono ?_
          rintro e w1 ⟨rfl, hb1⟩
          have HV1 := Lib.hid (bel_t (bel_1 _ _) hb1)
          have HW1 := Lib.hid (bel_t HW.out HV1.out)
          have HB1 := Lib.hid (bel_t HB.out HV1.out)
          have p0 : w1.cell? ⟨wr.heap.size, 0, none⟩ = some (.bool f) := stays_below hb1 _ _ _ (by simp [go_sem])
          have hz1 : wr.heap.size < w1.heap.size := by have := hb1.size; simp at this; omega
          clear hb1
          replace b1 := stays_below HV1.out _ _ _ b1
          cases hv : pageValidF ⟨f, fi, pl, va, st⟩
          · have HF := Lib.hid (bv_3 x ps k (by rw [HL.out]; omega) (ok_1 ps k (by rw [HP.out]; exact hv)))
            go_wp2
            go_ret
            exact ⟨by rw [HF.out]; rfl, HW1.out⟩
          · by_cases hk0 : k = 0
            · have HF := Lib.hid (okTo_up ps k HO.out (ok_2 ps k (by rw [HP.out]; exact hv) hk0))
              subst hk0
              go_wp2
              go_round
              case rel => exact ⟨1, by omega, rfl, HF, HB1⟩
              case measure => simp [intOf]
            · cases f
              · have HF := Lib.hid (okTo_up ps k HO.out (ok_3 ps k (by rw [HP.out]; exact hv) (by rw [HP.out])))
                go_wp2
                go_round
                case rel => exact ⟨k + 1, by omega, by simp, HF, HB1⟩
                case measure => simp [intOf]; omega
              · have d0 := stays_below HV1.out _ _ _ (stays_below HW.out _ _ _ (HC.out (k - 1) (by omega)).1)
                have hj : ((k : Int) - 1).toNat = k - 1 := by omega
                have hk1 : 0 ≤ (k : Int) - 1 := by omega
                have hk2 : (k : Int) - 1 < 4 := by omega
                cases hq : (pgAt ps (k - 1)).full
                · have HF := Lib.hid (bv_3 x ps k (by rw [HL.out]; omega) (ok_5 ps k hk0 (by rw [HP.out]) hq))
                  rw [hq] at d0
                  go_wp2
                  go_ret
                  exact ⟨by rw [HF.out]; rfl, HW1.out⟩
                · have HF := Lib.hid (okTo_up ps k HO.out (ok_4 ps k (by rw [HP.out]; exact hv) hq))
                  rw [hq] at d0
                  go_wp2
                  go_round
                  case rel => exact ⟨k + 1, by omega, by simp, HF, HB1⟩
                  case measure => simp [intOf]; omega
    · have hq : ¬ (n : Int) = 4 := by omega
      have hq2 : ((n : Int) != 4) = true := by simp; omega
      obtain ⟨hx0, hx1⟩ := hx
      have HF := Lib.hid (bv_2 x ps (by omega))
      clear hc
      go_enter Try.func16, Try.ntmps16
      go_wp2
      go_ret
      exact ⟨by rw [HF.out]; rfl, bel_1 _ _⟩
  · have HF := Lib.hid (bv_1 x ps hx)
    clear hc
    by_cases hx0 : x < 0
    · go_enter Try.func16, Try.ntmps16
      go_wp2
      go_ret
      exact ⟨by rw [HF.out]; rfl, bel_1 _ _⟩
    · have hx1 : 100 < x := by omega
      clear hx
      go_enter Try.func16, Try.ntmps16
      go_wp2
      go_ret
      exact ⟨by rw [HF.out]; rfl, bel_1 _ _⟩

set_option maxHeartbeats 4000000 in
theorem sBlockValid (x : Int) (A : Option Addr) (n c : Nat) (ps : List Pg) (w : World) (h : PgsAt w A n ps) :
    Calls Try.prog 17 #[.agg #[.int .i64 x, .slice A n c]] w fun e w' => e = .returned (.bool (blockValidF ⟨x, ps⟩)) ∧ Below w.heap.size w w' := by
  obtain ⟨hl, hn, hc⟩ := h
  have HC := Lib.hid hc
  have HL := Lib.hid hl
  clear hc hl
  go_enter Try.func17, Try.ntmps17
  go_wp2
  have HB0 := Lib.hid (bel_1 w (.cells #[.int .i64 x, .slice A n c] 25))
  have B0 : Hid ((w.alloc (.cells #[.int .i64 x, .slice A n c] 25)).cell? ⟨w.heap.size, 0, none⟩ = some (.int .i64 x)) := Lib.hid (by simp [go_sem])
  have B1 : Hid ((w.alloc (.cells #[.int .i64 x, .slice A n c] 25)).cell? ⟨w.heap.size, 1, none⟩ = some (.slice A n c)) := Lib.hid (by simp [go_sem])
  have hsW : w.heap.size < (w.alloc (.cells #[.int .i64 x, .slice A n c] 25)).heap.size := by simp
  generalize w.alloc (.cells #[.int .i64 x, .slice A n c] 25) = W at *
  go_loopw [3] (fun i wr => ∃ k : Nat, k ≤ n ∧ i = .int .i64 (k : Int) ∧ Hid (okTo ps k = true) ∧ Hid (Below W.heap.size W wr)) (fun i _ => n - (intOf i).toNat)
  case atStart => exact ⟨0, by omega, rfl, okTo_zero ps, Below.refl _ _⟩
  case round =>
    obtain ⟨k, hk, rfl, HO, HB⟩ := hrel
    have HW := Lib.hid (bel_t HB0.out HB.out)
    have hz : w.heap.size < wr.heap.size := by have := HB.out.size; omega
    have b0 := stays_below HB.out _ _ _ B0.out
    have b1 := stays_below HB.out _ _ _ B1.out
    by_cases hkn : k = n
    · subst hkn
      have HF := Lib.hid (bv_5 x ps k HL.out HO.out)
      cases hin : inB x 0 100
      · rw [hin] at HF
        go_wp2_with (go_at_call 59; refine (l1In_any _ _ _ _).mono ?_; rintro e w' ⟨rfl, rfl⟩)
        go_ret
        exact ⟨by rw [HF.out]; rfl, HW.out⟩
      · rw [hin] at HF
        by_cases h4 : k = 4
        · subst h4
          go_wp2_with (go_at_call 59; refine (l1In_any _ _ _ _).mono ?_; rintro e w' ⟨rfl, rfl⟩)
          go_ret
          exact ⟨by rw [HF.out]; rfl, HW.out⟩
        · have hq : ((k : Int) == 4) = false := by simp; omega
          go_wp2_with (go_at_call 59; refine (l1In_any _ _ _ _).mono ?_; rintro e w' ⟨rfl, rfl⟩)
          go_ret
          exact ⟨by rw [HF.out, decide_eq_false h4]; first | rfl | simp, HW.out⟩
    · obtain ⟨b, o, rfl, hC⟩ := HC.out (by omega)
      have HD := Lib.hid hC
      clear hC
      obtain ⟨c0, c1, c2, c3, c4⟩ := (HD.out k (by omega)).keep (stays_below HW.out)
      rcases hp : pgAt ps k with ⟨f, fi, pl, va, st⟩
      rw [hp] at c0 c1 c2 c3 c4
      simp only [] at c0 c1 c2 c3 c4
      have HP := Lib.hid hp
      clear hp
      go_wp2_with fail
      refine (sPageValid _ _ _ _ _ _).mono ?_
      rintro e w1 ⟨rfl, hb1⟩
      have HV1 := Lib.hid hb1
      have HW1 := Lib.hid (bel_t HW.out HV1.out)
      have HB1 := Lib.hid (bel_t HB.out HV1.out)
      clear hb1
      replace b1 := stays_below HV1.out _ _ _ b1
      replace c0 := stays_below HV1.out _ _ _ c0
      cases hv : pageValidF ⟨f, fi, pl, va, st⟩
      · have HF := Lib.hid (bv_3 x ps k (by rw [HL.out]; omega) (ok_1 ps k (by rw [HP.out]; exact hv)))
        go_wp2
        go_ret
        exact ⟨by rw [HF.out]; rfl, HW1.out⟩
      · by_cases hk0 : k = 0
        · have HF := Lib.hid (okTo_up ps k HO.out (ok_2 ps k (by rw [HP.out]; exact hv) hk0))
          subst hk0
          go_wp2
          go_round
          case rel => exact ⟨1, by omega, rfl, HF, HB1⟩
          case measure => simp [intOf]; omega
        · cases f
          · have HF := Lib.hid (okTo_up ps k HO.out (ok_3 ps k (by rw [HP.out]; exact hv) (by rw [HP.out])))
            go_wp2
            go_round
            case rel => exact ⟨k + 1, by omega, by simp, HF, HB1⟩
            case measure => simp [intOf]; omega
          · have d0 := stays_below HV1.out _ _ _ (stays_below HW.out _ _ _ (HD.out (k - 1) (by omega)).1)
            have hj : ((k : Int) - 1).toNat = k - 1 := by omega
            have hk1 : 0 ≤ (k : Int) - 1 := by omega
            have hk2 : (k : Int) - 1 < n := by omega
            cases hq : (pgAt ps (k - 1)).full
            · have HF := Lib.hid (bv_3 x ps k (by rw [HL.out]; omega) (ok_5 ps k hk0 (by rw [HP.out]) hq))
              rw [hq] at d0
              go_wp2
              go_ret
              exact ⟨by rw [HF.out]; rfl, HW1.out⟩
            · have HF := Lib.hid (okTo_up ps k HO.out (ok_4 ps k (by rw [HP.out]; exact hv) hq))
              rw [hq] at d0
              go_wp2
              go_round
              case rel => exact ⟨k + 1, by omega, by simp, HF, HB1⟩
              case measure => simp [intOf]; omega

end Go.Proofs.Yteekikaebmkioaa
