/-auto What the laws' own helpers on tables return: sizes, copies, comparisons. -/
import Derived.Test.YtcmmamgbckglnaaTabPlain
import Derived.Test.YtcmmamgbckglnaaRegs2
import Derived.Test.YtcmmamgbckglnaaPages2
import Derived.Deep.QuietTactic
import Derived.BigQuiet
namespace Go.Proofs.Ytcmmamgbckglnaa
open Go.RowKit
set_option linter.unusedVariables false

theorem bel_dn' {B : Nat} {a w : World} (h : Below B a w) (n : Nat) : Below B a (w.drewN n) := ⟨h.os, h.tape, h.output, h.size, h.block⟩
theorem tyLT : TbTy Try.prog 43 := ⟨_, 41, 61, 3, Try.underlying43, by kernel_rfl, by kernel_rfl, Try.underlying41, Try.underlying61, Try.underlying3⟩

theorem szIntS_any (A : Option Addr) (n c : Nat) (x : Int) (w : World) (h0 : 0 ≤ x) (h1 : x ≤ 1048576) (hn : n ≤ 9223372036854775807) :
    Calls Try.prog 48 #[.slice A n c, .int .i64 x] w fun e w' => e = .returned (.int .i64 (if x < n then -1 else x - n)) ∧ Below w.heap.size w w' := by
  by_cases hx : x < n
  · rw [if_pos hx]
    go_enter Try.func48, Try.ntmps48
    go_wp2
    go_ret
    exact ⟨rfl, Below.refl _ _⟩
  · rw [if_neg hx]
    go_enter Try.func48, Try.ntmps48
    go_wp2
    go_ret
    exact ⟨rfl, Below.refl _ _⟩

set_option maxHeartbeats 400000 in
theorem szIntSS_any (A : Option Addr) (n c : Nat) (ts : List (List Int)) (x : Int) (w : World) (h : TabAt w A n ts) (h0 : 0 ≤ x) (h1 : x ≤ 1048576) :
    Calls Try.prog 39 #[.slice A n c, .int .i64 x] w fun e w' => ∃ r : Int, e = .returned (.int .i64 r) ∧ (r < 0 ∨ (n ≤ 1048576 ∧ ∀ i, i < n → (rowAt ts i).length ≤ 1048576)) ∧ Below w.heap.size w w' := by
  have HP := Lib.hid h
  have hm := h.2.1
  clear h
  by_cases hx : x < n
  · go_enter Try.func39, Try.ntmps39
    go_wp2
    go_ret
    exact ⟨-1, rfl, Or.inl (by decide), Below.refl _ _⟩
  · have hv : ¬ (x - (n : Int) < 0) := by omega
    go_enter Try.func39, Try.ntmps39
    go_wp2
    go_loopw [1, 5] (fun l i wr => ∃ (k : Nat) (y : Int), k ≤ n ∧ l = .int .i64 y ∧ 0 ≤ y ∧ y ≤ 1048576 ∧ i = .int .i64 (k : Int) ∧ Hid (∀ i, i < k → (rowAt ts i).length ≤ 1048576) ∧ Hid (Below w.heap.size w wr)) (fun _ i _ => n - (intOf i).toNat)
    case atStart => exact ⟨0, x - n, by omega, rfl, by omega, by omega, rfl, (fun i hi => absurd hi (by omega)), Below.refl _ _⟩
    case round =>
      obtain ⟨k, y, hk, rfl, hy0, hy1, rfl, HS, HB⟩ := hrel
      by_cases hkn : k = n
      · subst hkn
        go_wp2
        go_ret
        exact ⟨y, rfl, Or.inr ⟨by omega, HS.out⟩, HB.out⟩
      · obtain ⟨b, o, rfl, hC⟩ := (HP.out.keep HB.out).2.2 (by omega)
        obtain ⟨A', m, c', c0, hps⟩ := hC k (by omega)
        have hmm := hps.2.1
        have HM := Lib.hid hps.1
        clear hC hps
        by_cases hym : y < m
        · go_wp2_with fail
          refine (szIntS_any _ _ _ _ _ hy0 hy1 hmm).mono ?_
          rw [if_pos hym]
          rintro e w1 ⟨rfl, hb1⟩
          go_wp2
          go_ret
          exact ⟨-1, rfl, Or.inl (by decide), bel_t HB.out hb1⟩
        · go_wp2_with fail
          refine (szIntS_any _ _ _ _ _ hy0 hy1 hmm).mono ?_
          rw [if_neg (by omega)]
          rintro e w1 ⟨rfl, hb1⟩
          have hv1 : ¬ (y - (m : Int) < 0) := by omega
          have HB1 := Lib.hid (bel_t HB.out hb1)
          clear hb1
          go_wp2
          go_round
          case rel =>
            refine ⟨k + 1, y - m, by omega, rfl, by omega, by omega, by simp, (fun i hi => ?_), HB1⟩
            by_cases e : i = k
            · rw [e, HM.out]; omega
            · exact HS.out i (by omega)
          case measure => simp [intOf]; omega

set_option maxHeartbeats 400000 in
theorem szTable_any (A : Option Addr) (n c : Nat) (ts : List (List Int)) (x : Int) (w : World) (h : TabAt w A n ts) (h0 : 0 ≤ x) (h1 : x ≤ 1048576) :
    Calls Try.prog 22 #[.agg #[.slice A n c], .int .i64 x] w fun e w' => ∃ r : Int, e = .returned (.int .i64 r) ∧ (r < 0 ∨ (n ≤ 1048576 ∧ ∀ i, i < n → (rowAt ts i).length ≤ 1048576)) ∧ Below w.heap.size w w' := by
  have HP := Lib.hid h
  clear h
  go_enter Try.func22, Try.ntmps22
  go_wp2_with fail
  refine (szIntSS_any _ _ _ ts _ _ (HP.out.keep (bel_1 _ _)) h0 h1).mono ?_
  rintro e w1 ⟨r, rfl, hr, hb1⟩
  by_cases hr0 : r < 0
  · go_wp2
    go_ret
    exact ⟨-1, rfl, Or.inl (by decide), bel_t (bel_1 _ _) hb1⟩
  · go_wp2
    go_ret
    exact ⟨r, rfl, hr, bel_t (bel_1 _ _) hb1⟩

set_option maxHeartbeats 400000 in
theorem toIntS_any (A : Option Addr) (n c : Nat) (xs : List Int) (w : World) (h : IntsAt w A n xs) (hn : n ≤ 1048576) :
    Calls Try.prog 49 #[.slice A n c] w fun e w' => ∃ g, e = .returned (.slice (some ⟨g, 0, none⟩) n n) ∧ w.heap.size ≤ g ∧ VRow w' g n (fun i => .int .i64 (atAt xs i)) ∧ Below w.heap.size w w' := by
  have HP := Lib.hid h
  have hm := h.2.1
  clear h
  have hmk := run_make_row' (P := Try.prog) 61 3 (.int .i64 0) 8 Try.underlying61 (by kernel_rfl) rfl .i64 .i64 n (by omega) hm
  go_enter Try.func49, Try.ntmps49
  go_wp2
  clear hmk
  have HB0 := Lib.hid (bel_1 w (.cells (madeCells #[.int .i64 0] n) 3))
  have HR := Lib.hid (vrow_made w (.int .i64 0) n 3)
  generalize w.alloc (.cells (madeCells #[.int .i64 0] n) 3) = W at *
  go_loopw [4] (fun i wr => ∃ (k : Nat) (F : Nat → Value), k ≤ n ∧ i = .int .i64 (k : Int) ∧ Hid (VRow wr w.heap.size n F ∧ ∀ i, i < k → F i = .int .i64 (atAt xs i)) ∧ Hid (Below w.heap.size w wr)) (fun i _ => n - (intOf i).toNat)
  case atStart => exact ⟨0, _, by omega, rfl, ⟨HR.out, fun i hi => absurd hi (by omega)⟩, HB0.out⟩
  case round =>
    obtain ⟨k, F, hk, rfl, HQ, HB⟩ := hrel
    by_cases hkn : k = n
    · subst hkn
      go_wp2
      go_ret
      exact ⟨w.heap.size, rfl, Nat.le_refl _, HQ.out.1.congr HQ.out.2, HB.out⟩
    · obtain ⟨b, o, rfl, hC⟩ := (HP.out.keep HB.out).2.2 (by omega)
      have c0 := hC k (by omega)
      clear hC
      have e0 := HQ.out.1.2.1 k (by omega)
      have hf0 := HQ.out.1.2.2 k
      go_wp2
      go_round
      case rel =>
        refine ⟨k + 1, _, by omega, by simp, ⟨HQ.out.1.set (by omega) _, fun i hi => ?_⟩, (HB.out.setCell (p := ⟨w.heap.size, k, none⟩) (Nat.le_refl _) _ : Below _ _ _)⟩
        by_cases e : i = k
        · rw [if_pos e, e]
        · rw [if_neg e]; exact HQ.out.2 i (by omega)
      case measure => simp [intOf]; omega

set_option maxHeartbeats 400000 in
theorem toIntSS_any (A : Option Addr) (n c : Nat) (ts : List (List Int)) (w : World) (h : TabAt w A n ts) (hn : n ≤ 1048576) (hp : ∀ i, i < n → (rowAt ts i).length ≤ 1048576) :
    Calls Try.prog 40 #[.slice A n c] w fun e w' => ∃ g, e = .returned (.slice (some ⟨g, 0, none⟩) n n) ∧ TabHi w' w.heap.size g n ts ∧ Below w.heap.size w w' := by
  have HP := Lib.hid h
  have HS := Lib.hid hp
  have hm := h.2.1
  have HL := Lib.hid h.1
  clear h hp
  have hmk := run_make_row' (P := Try.prog) 41 61 (.slice none 0 0) 24 Try.underlying41 (by kernel_rfl) rfl .i64 .i64 n (by omega) hm
  go_enter Try.func40, Try.ntmps40
  go_wp2
  clear hmk
  have HB0 := Lib.hid (bel_1 w (.cells (madeCells #[.slice none 0 0] n) 61))
  have HR := Lib.hid (vrow_made w (.slice none 0 0) n 61)
  generalize w.alloc (.cells (madeCells #[.slice none 0 0] n) 61) = W at *
  go_loopw [4] (fun i wr => ∃ (k : Nat) (F : Nat → Value), k ≤ n ∧ i = .int .i64 (k : Int) ∧ Hid (VRow wr w.heap.size n F ∧ ∀ i, i < k → ∃ g m, F i = .slice (some ⟨g, 0, none⟩) m m ∧ m ≤ 1048576 ∧ (rowAt ts i).length = m ∧ w.heap.size < g ∧ VRow wr g m (fun j => .int .i64 (atAt (rowAt ts i) j))) ∧ Hid (Below w.heap.size w wr)) (fun i _ => n - (intOf i).toNat)
  case atStart => exact ⟨0, _, by omega, rfl, ⟨HR.out, fun i hi => absurd hi (by omega)⟩, HB0.out⟩
  case round =>
    obtain ⟨k, F, hk, rfl, HQ, HB⟩ := hrel
    by_cases hkn : k = n
    · subst hkn
      go_wp2
      go_ret
      refine ⟨w.heap.size, rfl, ⟨HL.out, Nat.le_refl _, fun i hi => ?_⟩, HB.out⟩
      obtain ⟨g, m, h1, h2, h3, h4, h5⟩ := HQ.out.2 i hi
      exact ⟨g, m, (HQ.out.1.2.1 i hi).trans (by rw [h1]), by omega, h2, h3, h5⟩
    · obtain ⟨b, o, rfl, hC⟩ := (HP.out.keep HB.out).2.2 (by omega)
      obtain ⟨A', m, c', c0, hps⟩ := hC k (by omega)
      have hm20 : m ≤ 1048576 := by rw [← hps.1]; exact HS.out k (by omega)
      have HM := Lib.hid hps
      clear hC hps
      go_wp2_with fail
      refine (toIntS_any _ _ _ _ _ HM.out hm20).mono ?_
      rintro e w1 ⟨g1, rfl, hg1, hR1, hb1⟩
      have HB1 := Lib.hid (bel_t HB.out hb1)
      have HQ1 := Lib.hid (HQ.out.1.keep hb1)
      have HQ2 : Hid (∀ i, i < k → ∃ g m, F i = .slice (some ⟨g, 0, none⟩) m m ∧ m ≤ 1048576 ∧ (rowAt ts i).length = m ∧ w.heap.size < g ∧ VRow w1 g m (fun j => .int .i64 (atAt (rowAt ts i) j))) := Lib.hid (fun i hi => by
        obtain ⟨g, m, h1, h2, h3, h4, h5⟩ := HQ.out.2 i hi
        exact ⟨g, m, h1, h2, h3, h4, h5.keep hb1⟩)
      have HR1 := Lib.hid hR1
      have hz := HQ.out.1.1
      clear hb1 hR1
      have e0 := HQ1.out.2.1 k (by omega)
      have hf0 := HQ1.out.2.2 k
      go_wp2
      go_round
      case rel =>
        refine ⟨k + 1, _, by omega, by simp, ⟨HQ1.out.set (by omega) _, fun i hi => ?_⟩, (HB1.out.setCell (p := ⟨w.heap.size, k, none⟩) (Nat.le_refl _) _ : Below _ _ _)⟩
        by_cases e : i = k
        · subst e
          exact ⟨g1, m, if_pos rfl, hm20, HM.out.1, by omega, HR1.out.setOther (a := ⟨w.heap.size, _, none⟩) (by simp; omega) _⟩
        · obtain ⟨g, m', h1, h2, h3, h4, h5⟩ := HQ2.out i (by omega)
          exact ⟨g, m', (if_neg e).trans h1, h2, h3, h4, h5.setOther (a := ⟨w.heap.size, _, none⟩) (by simp; omega) _⟩
      case measure => simp [intOf]; omega

set_option maxHeartbeats 400000 in
theorem toTable_any (A : Option Addr) (n c : Nat) (ts : List (List Int)) (w : World) (h : TabAt w A n ts) (hn : n ≤ 1048576) (hp : ∀ i, i < n → (rowAt ts i).length ≤ 1048576) :
    Calls Try.prog 24 #[.agg #[.slice A n c]] w fun e w' => ∃ A' c', e = .returned (.agg #[.slice A' n c']) ∧ TabAt w' A' n ts ∧ Below w.heap.size w w' := by
  have HP := Lib.hid h
  have HS := Lib.hid hp
  clear h hp
  go_enter Try.func24, Try.ntmps24
  go_wp2_with fail
  refine (toIntSS_any _ _ _ ts _ (HP.out.keep (bel_3 _ _ _ _)) hn HS.out).mono ?_
  rintro e w1 ⟨g, rfl, hT1, hb1⟩
  have HB1 := Lib.hid (bel_t (bel_3 _ _ _ _) hb1)
  have HT := Lib.hid hT1
  obtain ⟨hc1, hf1⟩ := bcell hb1
  clear hT1 hb1
  go_wp2
  refine bodyPost_ret (v := .agg #[.slice (some ⟨g, 0, none⟩) n n]) (by simp [results, Try.results24, go_sem, hc1]) rfl ⟨_, _, rfl, ?_, ?_⟩
  · exact ((HT.out.low (a := ⟨_, _, none⟩) (by simp) _).low (a := ⟨_, _, none⟩) (by simp) _).at (by omega)
  · exact (HB1.out.setCell (p := ⟨_, _, none⟩) (by simp <;> omega) _).setCell (p := ⟨_, _, none⟩) (by simp <;> omega) _

set_option maxHeartbeats 400000 in
theorem eqIntS_refl (A : Option Addr) (n c : Nat) (A' : Option Addr) (c' : Nat) (xs : List Int) (w : World) (h : IntsAt w A n xs) (h' : IntsAt w A' n xs) :
    Calls Try.prog 50 #[.slice A n c, .slice A' n c'] w fun e w' => e = .returned (.bool true) ∧ Below w.heap.size w w' := by
  have HP := Lib.hid h
  have HP' := Lib.hid h'
  have hm := h.2.1
  clear h h'
  go_enter Try.func50, Try.ntmps50
  go_wp2
  go_loopw [5] (fun i wr => ∃ k : Nat, k ≤ n ∧ i = .int .i64 (k : Int) ∧ Hid (Below w.heap.size w wr)) (fun i _ => n - (intOf i).toNat)
  case atStart => exact ⟨0, by omega, rfl, Below.refl _ _⟩
  case round =>
    obtain ⟨k, hk, rfl, HB⟩ := hrel
    by_cases hkn : k = n
    · subst hkn
      go_wp2
      go_ret
      exact ⟨rfl, HB.out⟩
    · obtain ⟨b, o, rfl, hC⟩ := (HP.out.keep HB.out).2.2 (by omega)
      obtain ⟨b', o', rfl, hC'⟩ := (HP'.out.keep HB.out).2.2 (by omega)
      have c0 := hC k (by omega)
      have d0 := hC' k (by omega)
      clear hC hC'
      go_wp2
      go_quiet (fail)
      go_wp2
      go_round
      case rel => exact ⟨k + 1, by omega, by simp, (bel_dn' HB.out _ : Below _ _ _)⟩
      case measure => simp [intOf]; omega

set_option maxHeartbeats 400000 in
theorem eqIntSS_refl (A : Option Addr) (n c : Nat) (A' : Option Addr) (c' : Nat) (ts : List (List Int)) (w : World) (h : TabAt w A n ts) (h' : TabAt w A' n ts) :
    Calls Try.prog 42 #[.slice A n c, .slice A' n c'] w fun e w' => e = .returned (.bool true) ∧ Below w.heap.size w w' := by
  have HP := Lib.hid h
  have HP' := Lib.hid h'
  have hm := h.2.1
  clear h h'
  go_enter Try.func42, Try.ntmps42
  go_wp2
  go_loopw [5] (fun i wr => ∃ k : Nat, k ≤ n ∧ i = .int .i64 (k : Int) ∧ Hid (Below w.heap.size w wr)) (fun i _ => n - (intOf i).toNat)
  case atStart => exact ⟨0, by omega, rfl, Below.refl _ _⟩
  case round =>
    obtain ⟨k, hk, rfl, HB⟩ := hrel
    by_cases hkn : k = n
    · subst hkn
      go_wp2
      go_ret
      exact ⟨rfl, HB.out⟩
    · obtain ⟨b, o, rfl, hC⟩ := (HP.out.keep HB.out).2.2 (by omega)
      obtain ⟨b', o', rfl, hC'⟩ := (HP'.out.keep HB.out).2.2 (by omega)
      obtain ⟨A1, m1, c1, c0, hx1⟩ := hC k (by omega)
      obtain ⟨A2, m2, c2, d0, hx2⟩ := hC' k (by omega)
      obtain rfl : m1 = m2 := hx1.1.symm.trans hx2.1
      have hbz : b < wr.heap.size := block_lt_of_cell c0
      have hbz' : b' < wr.heap.size := block_lt_of_cell d0
      have HQ1 := Lib.hid hx1
      have HQ2 := Lib.hid hx2
      clear hC hC' hx1 hx2
      go_wp2_with fail
      refine reg_begin (by kernel_rfl) (fun hHeld => ?_)
      refine reg_take 0 17 (v := ?_) rfl rfl (by kernel_rfl) (by kernel_rfl) (by kernel_rfl) (fun _ _ _ h => h) (Or.inl ⟨by rfl, ?_⟩) hHeld ?_
      rotate_left 1
      · intro wS hSw; go_simp <;> with_reducible rfl
      simp only [put_lit, List.set_cons_zero, List.set_cons_succ]
      refine reg_take 1 18 (v := ?_) rfl rfl (by kernel_rfl) (by kernel_rfl) (by kernel_rfl) (fun _ _ _ h => h) (Or.inl ⟨by rfl, ?_⟩) hHeld ?_
      rotate_left 1
      · intro wS hSw; go_simp <;> with_reducible rfl
      simp only [put_lit, List.set_cons_zero, List.set_cons_succ]
      refine reg_take 2 19 (v := ?_) rfl rfl (by kernel_rfl) (by kernel_rfl) (by kernel_rfl) (fun _ _ _ h => h) (Or.inl ⟨by rfl, ?_⟩) hHeld ?_
      rotate_left 1
      · intro wS hSw; go_simp <;> with_reducible rfl
      simp only [put_lit, List.set_cons_zero, List.set_cons_succ]
      refine reg_take 3 20 (v := ?_) rfl rfl (by kernel_rfl) (by kernel_rfl) (by kernel_rfl) (fun _ _ _ h => h) (Or.inl ⟨by rfl, ?_⟩) hHeld ?_
      rotate_left 1
      · intro wS hSw; have hqS := bcellB hSw; go_simp <;> with_reducible rfl
      simp only [put_lit, List.set_cons_zero, List.set_cons_succ]
      refine reg_take 4 21 (v := ?_) rfl rfl (by kernel_rfl) (by kernel_rfl) (by kernel_rfl) (fun _ _ _ h => h) (Or.inl ⟨by rfl, ?_⟩) hHeld ?_
      rotate_left 1
      · intro wS hSw; go_simp <;> with_reducible rfl
      simp only [put_lit, List.set_cons_zero, List.set_cons_succ]
      refine reg_take 5 22 (v := ?_) rfl rfl (by kernel_rfl) (by kernel_rfl) (by kernel_rfl) (fun _ _ _ h => h) (Or.inl ⟨by rfl, ?_⟩) hHeld ?_
      rotate_left 1
      · intro wS hSw; go_simp <;> with_reducible rfl
      simp only [put_lit, List.set_cons_zero, List.set_cons_succ]
      refine reg_take 6 23 (v := ?_) rfl rfl (by kernel_rfl) (by kernel_rfl) (by kernel_rfl) (fun _ _ _ h => h) (Or.inl ⟨by rfl, ?_⟩) hHeld ?_
      rotate_left 1
      · intro wS hSw; go_simp <;> with_reducible rfl
      simp only [put_lit, List.set_cons_zero, List.set_cons_succ]
      refine reg_take 7 24 (v := ?_) rfl rfl (by kernel_rfl) (by kernel_rfl) (by kernel_rfl) (fun _ _ _ h => h) (Or.inl ⟨by rfl, ?_⟩) hHeld ?_
      rotate_left 1
      · intro wS hSw; have hqS := bcellB hSw; go_simp <;> with_reducible rfl
      simp only [put_lit, List.set_cons_zero, List.set_cons_succ]
      refine wpAnyH_ready (rs := [8]) (by kernel_rfl) (by simp) ?_
      refine AllReadyH.cons rfl (fun K hK => ?_) AllReadyH.nil
      go_simp
      refine (eqIntS_refl _ _ _ _ _ (rowAt ts k) _ (HQ1.out.keep hHeld) (HQ2.out.keep hHeld)).mono ?_
      rintro e w1 ⟨rfl, hb1⟩
      go_wp2_with fail
      refine hK.out _ _ ?_ (fun hHeld => ?_)
      · exact reg_call hHeld hb1 (Nat.le_refl _)
      clear hK K
      (try simp only [put_lit, List.set_cons_zero, List.set_cons_succ])
      refine reg_take 9 26 (v := ?_) rfl rfl (by kernel_rfl) (by kernel_rfl) (by kernel_rfl) (fun _ _ _ h => h) (Or.inl ⟨by rfl, ?_⟩) hHeld ?_
      rotate_left 1
      · intro wS hSw; go_simp <;> with_reducible rfl
      simp only [put_lit, List.set_cons_zero, List.set_cons_succ]
      refine wpAnyH_done (by kernel_rfl) ?_ _
      go_wp2
      go_round
      case rel => exact ⟨k + 1, by omega, by simp, (bel_t HB.out hHeld : Below _ _ _)⟩
      case measure => simp [intOf]; omega

theorem eqTable_refl (A : Option Addr) (n c : Nat) (A' : Option Addr) (c' : Nat) (ts : List (List Int)) (w : World) (h : TabAt w A n ts) (h' : TabAt w A' n ts) :
    Calls Try.prog 26 #[.agg #[.slice A n c], .agg #[.slice A' n c']] w fun e w' => e = .returned (.bool true) ∧ Below w.heap.size w w' := by
  have HP := Lib.hid h
  have HP' := Lib.hid h'
  clear h h'
  go_enter Try.func26, Try.ntmps26
  go_wp2_with fail
  refine (eqIntSS_refl _ _ _ _ _ ts _ (HP.out.keep (bel_2 _ _ _)) (HP'.out.keep (bel_2 _ _ _))).mono ?_
  rintro e w1 ⟨rfl, hb1⟩
  go_wp2
  go_ret
  exact ⟨rfl, bel_t (bel_2 _ _ _) hb1⟩

end Go.Proofs.Ytcmmamgbckglnaa
