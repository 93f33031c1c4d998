/-auto What the program's and the reference's functions on tables return. -/
import Derived.Test.YtcmmamgbckglnaaTabCopies
import Derived.Test.YtcmmamgbckglnaaSets
import Derived.Deep.LoopGhost
namespace Go.Proofs.Ytcmmamgbckglnaa
open Go.RowKit
set_option linter.unusedVariables false

/-- the seen marks: a row of 48 truth values, true where the number is in vs -/
def SeenAt (w : World) (g : Nat) (vs : List Int) : Prop := VRow w g 48 (fun j => .bool (vs.contains (j : Int)))
theorem SeenAt.step {w : World} {g : Nat} {vs : List Int} (h : SeenAt w g vs) {a : Nat} (ha : a < 48) : SeenAt (w.setCell ⟨g, a, none⟩ (.bool true)) g (vs ++ [(a : Int)]) := by
  refine (VRow.set h ha (.bool true)).congr fun i hi => ?_
  by_cases e : i = a
  · subst e; simp
  · have : ¬ (i : Int) = (a : Int) := by omega
    simp [e, this]
theorem SeenAt.neg {w : World} {g : Nat} {vs : List Int} (h : SeenAt w g vs) {a : Int} (ha : ¬ 0 ≤ a) : SeenAt w g (vs ++ [a]) := by
  refine VRow.congr h fun i hi => ?_
  have : ¬ (i : Int) = a := by omega
  simp [this]
theorem pageNumber_any (x : Int) (w : World) :
    Calls Try.prog 41 #[.int .i64 x] w fun e w' => e = .returned (.bool (inB x (-1) 47)) ∧ w = w' := by
  by_cases h0 : -1 ≤ x
  · by_cases h1 : x < 48
    · rw [inB_t h0 (by omega)]
      go_enter Try.func41, Try.ntmps41
      go_wp2
      go_ret
      exact ⟨rfl, rfl⟩
    · rw [inB_hi (by omega)]
      go_enter Try.func41, Try.ntmps41
      go_wp2
      go_ret
      exact ⟨rfl, rfl⟩
  · rw [inB_lo (by omega)]
    go_enter Try.func41, Try.ntmps41
    go_wp2
    go_ret
    exact ⟨rfl, rfl⟩

theorem seen_new (w : World) (t : TypeId) : SeenAt (w.alloc (.cells #[.bool false, .bool false, .bool false, .bool false, .bool false, .bool false, .bool false, .bool false, .bool false, .bool false, .bool false, .bool false, .bool false, .bool false, .bool false, .bool false, .bool false, .bool false, .bool false, .bool false, .bool false, .bool false, .bool false, .bool false, .bool false, .bool false, .bool false, .bool false, .bool false, .bool false, .bool false, .bool false, .bool false, .bool false, .bool false, .bool false, .bool false, .bool false, .bool false, .bool false, .bool false, .bool false, .bool false, .bool false, .bool false, .bool false, .bool false, .bool false] t)) w.heap.size [] := by
  refine ⟨by simp, fun i hi => ?_, frozen_new w _ t⟩
  rw [cell_of_row _ _ _ _ _ _ (heap_new w _)]
  have hz : (#[.bool false, .bool false, .bool false, .bool false, .bool false, .bool false, .bool false, .bool false, .bool false, .bool false, .bool false, .bool false, .bool false, .bool false, .bool false, .bool false, .bool false, .bool false, .bool false, .bool false, .bool false, .bool false, .bool false, .bool false, .bool false, .bool false, .bool false, .bool false, .bool false, .bool false, .bool false, .bool false, .bool false, .bool false, .bool false, .bool false, .bool false, .bool false, .bool false, .bool false, .bool false, .bool false, .bool false, .bool false, .bool false, .bool false, .bool false, .bool false] : Array Value) = Array.replicate 48 (.bool false) := rfl
  rw [hz]
  simp [hi]
theorem seen_made (w : World) (t : TypeId) : SeenAt (w.alloc (.cells (madeCells #[.bool false] 48) t)) w.heap.size [] := (vrow_made w (.bool false) 48 t).congr fun i hi => by simp

set_option maxHeartbeats 4000000 in
theorem iTableValid (A : Option Addr) (n c : Nat) (ts : List (List Int)) (w : World) (h : TabAt w A n ts) :
    Calls Try.prog 25 #[.agg #[.slice A n c]] w fun e w' => e = .returned (.bool (tableValidF ts)) ∧ Below w.heap.size w w' := by
  have HP := Lib.hid h
  have hm := h.2.1
  have HL := Lib.hid h.1
  clear h
  by_cases h8 : n = 8
  · subst h8
    go_enter Try.func25, Try.ntmps25
    go_wp2
    have HB0 := Lib.hid (bel_2 w (.cells #[.slice A 8 c] 46) (.cells #[.bool false, .bool false, .bool false, .bool false, .bool false, .bool false, .bool false, .bool false, .bool false, .bool false, .bool false, .bool false, .bool false, .bool false, .bool false, .bool false, .bool false, .bool false, .bool false, .bool false, .bool false, .bool false, .bool false, .bool false, .bool false, .bool false, .bool false, .bool false, .bool false, .bool false, .bool false, .bool false, .bool false, .bool false, .bool false, .bool false, .bool false, .bool false, .bool false, .bool false, .bool false, .bool false, .bool false, .bool false, .bool false, .bool false, .bool false, .bool false] 63))
    have HS0 := Lib.hid (seen_new (w.alloc (.cells #[.slice A 8 c] 46)) 63)
    rw [World.size_alloc] at HS0
    rw [← pre_zero ts] at HS0
    have HG0 : Hid (goodL [] (pre ts 0 0) = true) := Lib.hid (by rw [pre_zero]; exact good_nil)
    generalize ((w.alloc (.cells #[.slice A 8 c] 46)).alloc (.cells #[.bool false, .bool false, .bool false, .bool false, .bool false, .bool false, .bool false, .bool false, .bool false, .bool false, .bool false, .bool false, .bool false, .bool false, .bool false, .bool false, .bool false, .bool false, .bool false, .bool false, .bool false, .bool false, .bool false, .bool false, .bool false, .bool false, .bool false, .bool false, .bool false, .bool false, .bool false, .bool false, .bool false, .bool false, .bool false, .bool false, .bool false, .bool false, .bool false, .bool false, .bool false, .bool false, .bool false, .bool false, .bool false, .bool false, .bool false, .bool false] 63)) = W at *
    go_loopw [15] (fun i wr => ∃ f : Nat, f ≤ 8 ∧ i = .int .i64 (f : Int) ∧ Hid (goodL [] (pre ts f 0) = true) ∧ Hid (∀ j, j < f → (rowAt ts j).length = 6) ∧ Hid (SeenAt wr (w.heap.size + 1) (pre ts f 0)) ∧ Hid (Below (w.heap.size + 1) W wr)) (fun i _ => 8 - (intOf i).toNat)
    case atStart => exact ⟨0, by omega, rfl, HG0, (fun j hj => absurd hj (by omega)), HS0, Below.refl _ _⟩
    case round =>
      obtain ⟨f, hf, rfl, HG, HR, HS, HB⟩ := hrel
      have HW := Lib.hid (HB0.out.trans (HB.out.mono (by omega)))
      by_cases hf8 : f = 8
      · have HF := Lib.hid (tv_ok ts 8 HL.out rfl (hf8 ▸ HR.out) (hf8 ▸ HG.out))
        subst hf8
        go_wp2
        go_ret
        exact ⟨by rw [HF.out]; rfl, HW.out⟩
      · obtain ⟨b, o, rfl, hC⟩ := HP.out.2.2 (by omega)
        obtain ⟨A', m, c', c0, hps⟩ := hC f (by omega)
        have hmm := hps.2.1
        have HM := Lib.hid hps
        clear hC hps
        replace c0 := stays_below HW.out _ _ _ c0
        have hf8i : (f : Int) < 8 := by omega
        by_cases hm6 : m = 6
        · subst hm6
          go_wp2
          go_loopg [24] 6 (fun gk i wr => ∃ k : Nat, gk + k = 6 ∧ k ≤ 6 ∧ i = .int .i64 (k : Int) ∧ Hid (goodL [] (pre ts f k) = true) ∧ Hid (SeenAt wr (w.heap.size + 1) (pre ts f k)) ∧ Hid (Below (w.heap.size + 1) W wr))
          case atStart => exact ⟨0, by omega, by omega, rfl, HG, HS, HB⟩
          case round =>
            obtain ⟨k, hgk, hk, rfl, HG2, HS2, HB2⟩ := hrel
            have HW2 := Lib.hid (HB0.out.trans (HB2.out.mono (by omega)))
            by_cases hk6 : k = 6
            · have HP1 := Lib.hid (pre_row ts f k (by rw [HL.out]; omega) (by rw [HM.out.1]; exact hk6))
              rw [HP1.out] at HG2 HS2
              go_wp2
              go_round
              case rel =>
                have HR2 : Hid (∀ j, j < f + 1 → (rowAt ts j).length = 6) := Lib.hid (fun j hj => by
                  by_cases e : j = f
                  · rw [e, HM.out.1]
                  · exact HR.out j (by omega))
                first | exact ⟨f + 1, by omega, by simp, HG2, HR2, HS2, HB2⟩ | ((repeat refine Exists.intro _ ?_); refine ⟨?_, rfl⟩; exact ⟨f + 1, by omega, by simp, HG2, HR2, HS2, HB2⟩)
              case measure => simp [intOf]; omega
            · obtain ⟨b', o', rfl, hC'⟩ := (HM.out.keep HW2.out).2.2 (by omega)
              have d0 := hC' k (by omega)
              clear hC'
              obtain ⟨a, HA⟩ : ∃ a, Hid (atAt (rowAt ts f) k = a) := ⟨_, rfl⟩
              rw [HA.out] at d0
              by_cases hin : -1 ≤ a ∧ a ≤ 47
              · have hinB := inB_t hin.1 hin.2
                by_cases ha0 : 0 ≤ a
                · obtain ⟨q, rfl⟩ : ∃ q : Nat, a = (q : Int) := ⟨a.toNat, by omega⟩
                  have hq : q < 48 := by omega
                  have s0 : wr.cell? ⟨w.heap.size + 1, q, none⟩ = some (.bool ((pre ts f k).contains (q : Int))) := HS2.out.2.1 q hq
                  have f0 := HS2.out.2.2 q
                  cases hcon : (pre ts f k).contains (q : Int)
                  · rw [hcon] at s0
                    have HG3 := Lib.hid (ok_up ts f k (by rw [HM.out.1]; omega) HG2.out (by rw [HA.out, okN_pos _ _ hin ha0, hcon]; rfl))
                    have HS3 := Lib.hid (SeenAt.step HS2.out hq)
                    rw [← HA.out, ← pre_step ts f k (by rw [HM.out.1]; omega)] at HS3
                    clear hcon
                    go_wp2_with (go_at_call 41; refine (pageNumber_any _ _).mono ?_; rintro e w' ⟨rfl, rfl⟩)
                    go_roundg (gk - 1)
                    case rel => exact ⟨k + 1, by omega, by omega, by simp, HG3, HS3, (HB2.out.setCell (p := ⟨w.heap.size + 1, q, none⟩) (Nat.le_refl _) _ : Below _ _ _)⟩
                    case measure => omega
                  · rw [hcon] at s0
                    have HF := Lib.hid (tv_bad ts f k (by rw [HL.out]; omega) (by rw [HM.out.1]; omega) (by rw [HA.out, okN_pos _ _ hin ha0, hcon]; rfl))
                    clear hcon
                    go_wp2_with (go_at_call 41; refine (pageNumber_any _ _).mono ?_; rintro e w' ⟨rfl, rfl⟩)
                    go_ret
                    exact ⟨by rw [HF.out]; rfl, HW2.out⟩
                · have HG3 := Lib.hid (ok_up ts f k (by rw [HM.out.1]; omega) HG2.out (by rw [HA.out]; exact okN_neg _ _ hin ha0))
                  have HS3 := Lib.hid (SeenAt.neg HS2.out (a := a) ha0)
                  rw [← HA.out, ← pre_step ts f k (by rw [HM.out.1]; omega)] at HS3
                  go_wp2_with (go_at_call 41; refine (pageNumber_any _ _).mono ?_; rintro e w' ⟨rfl, rfl⟩)
                  go_roundg (gk - 1)
                  case rel => exact ⟨k + 1, by omega, by omega, by simp, HG3, HS3, HB2⟩
                  case measure => omega
              · have hinB : inB a (-1) 47 = false := by simp only [inB, Bool.and_eq_false_iff, decide_eq_false_iff_not]; omega
                have HF := Lib.hid (tv_bad ts f k (by rw [HL.out]; omega) (by rw [HM.out.1]; omega) (by rw [HA.out]; exact okN_out _ _ hin))
                go_wp2_with (go_at_call 41; refine (pageNumber_any _ _).mono ?_; rintro e w' ⟨rfl, rfl⟩)
                go_ret
                exact ⟨by rw [HF.out]; rfl, HW2.out⟩
        · have hq : ¬ (m : Int) = 6 := by omega
          have hq2 : ((m : Int) != 6) = true := by simp; omega
          have HF := Lib.hid (tv_row ts f (by rw [HL.out]; omega) (by rw [HM.out.1]; exact hm6))
          go_wp2
          go_ret
          exact ⟨by rw [HF.out]; rfl, HW.out⟩
  · have hq : ¬ (n : Int) = 8 := by omega
    have hq2 : ((n : Int) != 8) = true := by simp; omega
    have HF := Lib.hid (tv_len ts n HL.out h8)
    go_enter Try.func25, Try.ntmps25
    go_wp2
    go_ret
    exact ⟨by rw [HF.out]; rfl, bel_1 _ _⟩

set_option maxHeartbeats 4000000 in
theorem sTableValid (A : Option Addr) (n c : Nat) (ts : List (List Int)) (w : World) (h : TabAt w A n ts) :
    Calls Try.prog 23 #[.agg #[.slice A n c]] w fun e w' => e = .returned (.bool (tableValidF ts)) ∧ Below w.heap.size w w' := by
  have HP := Lib.hid h
  have hm := h.2.1
  have HL := Lib.hid h.1
  clear h
  have hmk : ∀ w, (Instr.makeSlice 60 (.int .i64 48) (.int .i64 48)).run Try.prog w = .ok (.slice (some ⟨w.heap.size, 0, none⟩) 48 48) (w.alloc (.cells (madeCells #[.bool false] 48) 4)) := run_make_row' (P := Try.prog) 60 4 (.bool false) 1 Try.underlying60 (by kernel_rfl) rfl .i64 .i64 48 (by omega) (by omega)
  go_enter Try.func23, Try.ntmps23
  go_wp2
  clear hmk
  have HB0 := Lib.hid (bel_2 w (.cells #[.slice A n c] 46) (.cells (madeCells #[.bool false] 48) 4))
  have HS0 := Lib.hid (seen_made (w.alloc (.cells #[.slice A n c] 46)) 4)
  rw [World.size_alloc] at HS0
  rw [← pre_zero ts] at HS0
  have HG0 : Hid (goodL [] (pre ts 0 0) = true) := Lib.hid (by rw [pre_zero]; exact good_nil)
  have B0 : Hid (((w.alloc (.cells #[.slice A n c] 46)).alloc (.cells (madeCells #[.bool false] 48) 4)).cell? ⟨w.heap.size, 0, none⟩ = some (.slice A n c)) := Lib.hid (by simp [go_sem])
  generalize ((w.alloc (.cells #[.slice A n c] 46)).alloc (.cells (madeCells #[.bool false] 48) 4)) = W at *
  go_loopw [4] (fun i wr => ∃ f : Nat, f ≤ n ∧ i = .int .i64 (f : Int) ∧ Hid (goodL [] (pre ts f 0) = true) ∧ Hid (∀ j, j < f → (rowAt ts j).length = 6) ∧ Hid (SeenAt wr (w.heap.size + 1) (pre ts f 0)) ∧ Hid (Below (w.heap.size + 1) W wr)) (fun i _ => n - (intOf i).toNat)
  case atStart => exact ⟨0, by omega, rfl, HG0, (fun j hj => absurd hj (by omega)), HS0, Below.refl _ _⟩
  case round =>
    obtain ⟨f, hf, rfl, HG, HR, HS, HB⟩ := hrel
    have HW := Lib.hid (HB0.out.trans (HB.out.mono (by omega)))
    have b0 := (HB.out.cell (p := ⟨w.heap.size, 0, none⟩) (by simp)).trans B0.out
    by_cases hfn : f = n
    · by_cases h8 : n = 8
      · have HF := Lib.hid (tv_ok ts n HL.out h8 (hfn ▸ HR.out) (hfn ▸ HG.out))
        subst hfn
        subst h8
        go_wp2
        go_ret
        exact ⟨by rw [HF.out]; rfl, HW.out⟩
      · have HF := Lib.hid (tv_len ts n HL.out h8)
        have hq : ((n : Int) == 8) = false := by simp; omega
        subst hfn
        go_wp2
        go_ret
        exact ⟨by rw [HF.out]; first | rfl | simp [hq], HW.out⟩
    · obtain ⟨b, o, rfl, hC⟩ := HP.out.2.2 (by omega)
      obtain ⟨A', m, c', c0, hps⟩ := hC f (by omega)
      have hmm := hps.2.1
      have HM := Lib.hid hps
      have C0 := Lib.hid c0
      clear hC hps c0
      have hfni : (f : Int) < (n : Int) := by omega
      go_wp2
      go_loopg [5] m (fun gk i wr => ∃ k : Nat, gk + k = m ∧ k ≤ m ∧ i = .int .i64 (k : Int) ∧ Hid (goodL [] (pre ts f k) = true) ∧ Hid (SeenAt wr (w.heap.size + 1) (pre ts f k)) ∧ Hid (Below (w.heap.size + 1) W wr))
      case atStart => exact ⟨0, by omega, by omega, rfl, HG, HS, HB⟩
      case round =>
        obtain ⟨k, hgk, hk, rfl, HG2, HS2, HB2⟩ := hrel
        have HW2 := Lib.hid (HB0.out.trans (HB2.out.mono (by omega)))
        have b0 := (HB2.out.cell (p := ⟨w.heap.size, 0, none⟩) (by simp)).trans B0.out
        have c0 := stays_below HW2.out _ _ _ C0.out
        by_cases hk6 : k = m
        · have HP1 := Lib.hid (pre_row ts f k (by rw [HL.out]; omega) (by rw [HM.out.1]; exact hk6))
          rw [HP1.out] at HG2 HS2
          by_cases hm6 : m = 6
          · subst hm6
            go_wp2
            go_round
            case rel =>
              have HR2 : Hid (∀ j, j < f + 1 → (rowAt ts j).length = 6) := Lib.hid (fun j hj => by
                by_cases e : j = f
                · rw [e, HM.out.1]
                · exact HR.out j (by omega))
              first | exact ⟨f + 1, by omega, by simp, HG2, HR2, HS2, HB2⟩ | ((repeat refine Exists.intro _ ?_); refine ⟨?_, rfl⟩; exact ⟨f + 1, by omega, by simp, HG2, HR2, HS2, HB2⟩)
            case measure => simp [intOf]; omega
          · have hq : ¬ (m : Int) = 6 := by omega
            have hq2 : ((m : Int) != 6) = true := by simp; omega
            have HF := Lib.hid (tv_row ts f (by rw [HL.out]; omega) (by rw [HM.out.1]; exact hm6))
            go_wp2
            go_ret
            exact ⟨by rw [HF.out]; rfl, HW2.out⟩
        · obtain ⟨b', o', rfl, hC'⟩ := (HM.out.keep HW2.out).2.2 (by omega)
          have d0 := hC' k (by omega)
          clear hC'
          obtain ⟨a, HA⟩ : ∃ a, Hid (atAt (rowAt ts f) k = a) := ⟨_, rfl⟩
          rw [HA.out] at d0
          by_cases hin : -1 ≤ a ∧ a ≤ 47
          · have hinB := inB_t hin.1 hin.2
            by_cases ha0 : 0 ≤ a
            · obtain ⟨q, rfl⟩ : ∃ q : Nat, a = (q : Int) := ⟨a.toNat, by omega⟩
              have hq : q < 48 := by omega
              have s0 : wr.cell? ⟨w.heap.size + 1, q, none⟩ = some (.bool ((pre ts f k).contains (q : Int))) := HS2.out.2.1 q hq
              have f0 := HS2.out.2.2 q
              cases hcon : (pre ts f k).contains (q : Int)
              · rw [hcon] at s0
                have HG3 := Lib.hid (ok_up ts f k (by rw [HM.out.1]; omega) HG2.out (by rw [HA.out, okN_pos _ _ hin ha0, hcon]; rfl))
                have HS3 := Lib.hid (SeenAt.step HS2.out hq)
                rw [← HA.out, ← pre_step ts f k (by rw [HM.out.1]; omega)] at HS3
                clear hcon
                go_wp2_with (go_at_call 29; refine (l1In_any _ _ _ _).mono ?_; rintro e w' ⟨rfl, rfl⟩)
                go_roundg (gk - 1)
                case rel => exact ⟨k + 1, by omega, by omega, by simp, HG3, HS3, (HB2.out.setCell (p := ⟨w.heap.size + 1, q, none⟩) (Nat.le_refl _) _ : Below _ _ _)⟩
                case measure => omega
              · rw [hcon] at s0
                have HF := Lib.hid (tv_bad ts f k (by rw [HL.out]; omega) (by rw [HM.out.1]; omega) (by rw [HA.out, okN_pos _ _ hin ha0, hcon]; rfl))
                clear hcon
                go_wp2_with (go_at_call 29; refine (l1In_any _ _ _ _).mono ?_; rintro e w' ⟨rfl, rfl⟩)
                go_ret
                exact ⟨by rw [HF.out]; rfl, HW2.out⟩
            · have HG3 := Lib.hid (ok_up ts f k (by rw [HM.out.1]; omega) HG2.out (by rw [HA.out]; exact okN_neg _ _ hin ha0))
              have HS3 := Lib.hid (SeenAt.neg HS2.out (a := a) ha0)
              rw [← HA.out, ← pre_step ts f k (by rw [HM.out.1]; omega)] at HS3
              go_wp2_with (go_at_call 29; refine (l1In_any _ _ _ _).mono ?_; rintro e w' ⟨rfl, rfl⟩)
              go_roundg (gk - 1)
              case rel => exact ⟨k + 1, by omega, by omega, by simp, HG3, HS3, HB2⟩
              case measure => omega
          · have hinB : inB a (-1) 47 = false := by simp only [inB, Bool.and_eq_false_iff, decide_eq_false_iff_not]; omega
            have HF := Lib.hid (tv_bad ts f k (by rw [HL.out]; omega) (by rw [HM.out.1]; omega) (by rw [HA.out]; exact okN_out _ _ hin))
            go_wp2_with (go_at_call 29; refine (l1In_any _ _ _ _).mono ?_; rintro e w' ⟨rfl, rfl⟩)
            go_ret
            exact ⟨by rw [HF.out]; rfl, HW2.out⟩

set_option maxHeartbeats 1000000 in
theorem iTableGet (A : Option Addr) (n c : Nat) (ts : List (List Int)) (x y : Int) (w : World) (h : TabAt w A n ts) :
    Calls Try.prog 28 #[.agg #[.slice A n c], .int .i64 x, .int .i64 y] w fun e w' => e = .returned (.int .i64 (tableGetF ts x y)) ∧ Below w.heap.size w w' := by
  have HP := Lib.hid h
  have hm := h.2.1
  have HL := Lib.hid h.1
  clear h
  go_enter Try.func28, Try.ntmps28
  go_wp2_with fail
  refine (iTableValid _ _ _ ts _ (HP.out.keep (bel_1 _ _))).mono ?_
  rintro e w1 ⟨rfl, hb1⟩
  have HB1 := Lib.hid (bel_t (bel_1 _ _) hb1)
  have b0 : w1.cell? ⟨w.heap.size, 0, none⟩ = some (.slice A n c) := stays_below hb1 _ _ _ (by simp [go_sem])
  clear hb1
  cases hv : tableValidF ts
  · have HF := Lib.hid (tg_1 ts x y hv)
    clear hv
    go_wp2
    go_ret
    exact ⟨by rw [HF.out]; rfl, HB1.out⟩
  · by_cases hxy : (0 ≤ x ∧ x ≤ 7) ∧ 0 ≤ y ∧ y ≤ 5
    · obtain ⟨f, rfl⟩ : ∃ f : Nat, x = (f : Int) := ⟨x.toNat, by omega⟩
      obtain ⟨k, rfl⟩ : ∃ k : Nat, y = (k : Int) := ⟨y.toNat, by omega⟩
      have HF := Lib.hid (tg_3 ts f k hv (by omega) (by omega))
      obtain ⟨h8, h6⟩ := tv_six ts hv
      obtain rfl : n = 8 := HL.out.symm.trans h8
      have hf : f < 8 := by omega
      have hk : k < 6 := by omega
      obtain ⟨b, o, rfl, hC⟩ := (HP.out.keep HB1.out).2.2 (by omega)
      obtain ⟨A', m, c', c0, hps⟩ := hC f hf
      obtain rfl : m = 6 := hps.1.symm.trans (h6 f hf)
      obtain ⟨b', o', rfl, hD⟩ := hps.2.2 (by omega)
      have d0 := hD k hk
      have hi1 := inB_t hxy.1.1 hxy.1.2
      have hi2 := inB_t hxy.2.1 hxy.2.2
      clear hC hps hD hv h6 h8 hxy
      go_wp2
      go_ret
      exact ⟨by rw [HF.out]; rfl, HB1.out⟩
    · have HF := Lib.hid (tg_2 ts x y hxy)
      clear hv
      by_cases h1 : x < 0
      · go_wp2
        go_ret
        exact ⟨by rw [HF.out]; rfl, HB1.out⟩
      · by_cases h2 : 8 ≤ x
        · go_wp2
          go_ret
          exact ⟨by rw [HF.out]; rfl, HB1.out⟩
        · by_cases h3 : y < 0
          · clear hxy
            go_wp2
            go_ret
            exact ⟨by rw [HF.out]; rfl, HB1.out⟩
          · have h4 : 5 < y := by omega
            clear hxy
            go_wp2
            go_ret
            exact ⟨by rw [HF.out]; rfl, HB1.out⟩

set_option maxHeartbeats 1000000 in
theorem sTableGet (A : Option Addr) (n c : Nat) (ts : List (List Int)) (x y : Int) (w : World) (h : TabAt w A n ts) :
    Calls Try.prog 27 #[.agg #[.slice A n c], .int .i64 x, .int .i64 y] w fun e w' => e = .returned (.int .i64 (tableGetF ts x y)) ∧ Below w.heap.size w w' := by
  have HP := Lib.hid h
  have hm := h.2.1
  have HL := Lib.hid h.1
  clear h
  go_enter Try.func27, Try.ntmps27
  go_wp2_with fail
  refine (sTableValid _ _ _ ts _ (HP.out.keep (bel_1 _ _))).mono ?_
  rintro e w1 ⟨rfl, hb1⟩
  have HB1 := Lib.hid (bel_t (bel_1 _ _) hb1)
  have b0 : w1.cell? ⟨w.heap.size, 0, none⟩ = some (.slice A n c) := stays_below hb1 _ _ _ (by simp [go_sem])
  clear hb1
  cases hv : tableValidF ts
  · have HF := Lib.hid (tg_1 ts x y hv)
    clear hv
    go_wp2
    go_ret
    exact ⟨by rw [HF.out]; rfl, HB1.out⟩
  · by_cases hxy : (0 ≤ x ∧ x ≤ 7) ∧ 0 ≤ y ∧ y ≤ 5
    · obtain ⟨f, rfl⟩ : ∃ f : Nat, x = (f : Int) := ⟨x.toNat, by omega⟩
      obtain ⟨k, rfl⟩ : ∃ k : Nat, y = (k : Int) := ⟨y.toNat, by omega⟩
      have HF := Lib.hid (tg_3 ts f k hv (by omega) (by omega))
      obtain ⟨h8, h6⟩ := tv_six ts hv
      obtain rfl : n = 8 := HL.out.symm.trans h8
      have hf : f < 8 := by omega
      have hk : k < 6 := by omega
      obtain ⟨b, o, rfl, hC⟩ := (HP.out.keep HB1.out).2.2 (by omega)
      obtain ⟨A', m, c', c0, hps⟩ := hC f hf
      obtain rfl : m = 6 := hps.1.symm.trans (h6 f hf)
      obtain ⟨b', o', rfl, hD⟩ := hps.2.2 (by omega)
      have d0 := hD k hk
      have hi1 := inB_t hxy.1.1 hxy.1.2
      have hi2 := inB_t hxy.2.1 hxy.2.2
      clear hC hps hD hv h6 h8 hxy
      go_wp2_with (go_at_call 29; refine (l1In_any _ _ _ _).mono ?_; rintro e w' ⟨rfl, rfl⟩)
      go_ret
      exact ⟨by rw [HF.out]; rfl, HB1.out⟩
    · have HF := Lib.hid (tg_2 ts x y hxy)
      clear hv
      cases h1 : inB x 0 7
      · clear hxy
        go_wp2_with (go_at_call 29; refine (l1In_any _ _ _ _).mono ?_; rintro e w' ⟨rfl, rfl⟩)
        go_ret
        exact ⟨by rw [HF.out]; rfl, HB1.out⟩
      · have h2 : inB y 0 5 = false := by
          simp only [inB, Bool.and_eq_true, decide_eq_true_eq] at h1
          simp only [inB, Bool.and_eq_false_iff, decide_eq_false_iff_not]
          omega
        clear hxy
        go_wp2_with (go_at_call 29; refine (l1In_any _ _ _ _).mono ?_; rintro e w' ⟨rfl, rfl⟩)
        go_ret
        exact ⟨by rw [HF.out]; rfl, HB1.out⟩

end Go.Proofs.Ytcmmamgbckglnaa
