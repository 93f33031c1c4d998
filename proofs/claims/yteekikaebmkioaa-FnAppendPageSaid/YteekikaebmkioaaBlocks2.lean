/-auto What the program's and the reference's BlockNext return. -/
import Derived.Test.YteekikaebmkioaaBlocks
namespace Go.Proofs.Yteekikaebmkioaa
open Go.RowKit
set_option linter.unusedVariables false

set_option maxHeartbeats 4000000 in
theorem iBlockNext (x : Int) (A : Option Addr) (n c : Nat) (ps : List Pg) (w : World) (h : PgsAt w A n ps) :
    Calls Try.prog 20 #[.agg #[.int .i64 x, .slice A n c]] w fun e w' => e = .returned (.int .i64 (blockNextF ⟨x, ps⟩)) ∧ Below w.heap.size w w' := by
  have HP := Lib.hid h
  clear h
  go_enter Try.func20, Try.ntmps20
  go_wp2_with fail
  have HB0 := Lib.hid (bel_1 w (.cells #[.int .i64 x, .slice A n c] 25))
  have B1 : Hid ((w.alloc (.cells #[.int .i64 x, .slice A n c] 25)).cell? ⟨w.heap.size, 1, none⟩ = some (.slice A n c)) := Lib.hid (by simp [go_sem])
  have hsW : w.heap.size < (w.alloc (.cells #[.int .i64 x, .slice A n c] 25)).heap.size := by simp
  generalize w.alloc (.cells #[.int .i64 x, .slice A n c] 25) = W at *
  refine (iBlockValid _ _ _ _ ps _ (HP.out.keep HB0.out)).mono ?_
  rintro e w1 ⟨rfl, hb1⟩
  have HB1 := Lib.hid (bel_t HB0.out hb1)
  have b1 := stays_below hb1 _ _ _ B1.out
  clear hb1
  cases hv : blockValidF ⟨x, ps⟩
  · have HF := Lib.hid (bn_1 _ hv)
    go_wp2
    go_ret
    exact ⟨by rw [HF.out]; rfl, HB1.out⟩
  · obtain ⟨hl, hn, hc⟩ := HP.out.keep HB1.out
    have HF := Lib.hid (bn_2 ⟨x, ps⟩ n hl hv)
    simp only [] at HF
    have HC := Lib.hid hc
    clear hl hc HP hv
    go_wp2
    go_loopw [11] (fun i wr => ∃ k : Nat, k ≤ n ∧ i = .int .i64 (k : Int) ∧ Hid (freeFrom ps n 0 = freeFrom ps (n - k) k) ∧ Hid (Below w1.heap.size w1 wr)) (fun i _ => n - (intOf i).toNat)
    case atStart => exact ⟨0, by omega, rfl, (by show _ = _; rw [Nat.sub_zero]), Below.refl _ _⟩
    case round =>
      obtain ⟨k, hk, rfl, HO, HB⟩ := hrel
      have HW := Lib.hid (bel_t HB1.out HB.out)
      have b1 := stays_below HB.out _ _ _ b1
      by_cases hkn : k = n
      · have HG := Lib.hid (ff_3 ps n k hkn)
        subst hkn
        go_wp2
        go_ret
        exact ⟨by rw [HF.out, HO.out, HG.out]; rfl, HW.out⟩
      · obtain ⟨b, o, rfl, hC⟩ := HC.out (by omega)
        obtain ⟨c0, c1, c2, c3, c4⟩ := (hC k (by omega)).keep (stays_below HB.out)
        clear hC
        rcases hp : pgAt ps k with ⟨f, fi, pl, va, st⟩
        rw [hp] at c0 c1 c2 c3 c4
        simp only [] at c0 c1 c2 c3 c4
        cases f
        · have HG := Lib.hid (ff_2 ps n k (by omega) (by rw [hp]))
          clear hp
          go_wp2
          go_ret
          exact ⟨by rw [HF.out, HO.out, HG.out]; rfl, bel_t HW.out (bel_1 _ _)⟩
        · have HG := Lib.hid (ff_1 ps n k (by omega) (by rw [hp]))
          clear hp
          go_wp2
          go_round
          case rel => exact ⟨k + 1, by omega, by simp, (HO.out.trans HG.out : _ = _), (bel_t HB.out (bel_1 _ _) : Below _ _ _)⟩
          case measure => simp [intOf]; omega

set_option maxHeartbeats 4000000 in
theorem sBlockNext (x : Int) (A : Option Addr) (n c : Nat) (ps : List Pg) (w : World) (h : PgsAt w A n ps) :
    Calls Try.prog 21 #[.agg #[.int .i64 x, .slice A n c]] w fun e w' => e = .returned (.int .i64 (blockNextF ⟨x, ps⟩)) ∧ Below w.heap.size w w' := by
  have HP := Lib.hid h
  obtain ⟨hl, hn, hc⟩ := h
  have HL := Lib.hid hl
  clear hl hc
  go_enter Try.func21, Try.ntmps21
  go_wp2
  have HB0 := Lib.hid (bel_1 w (.cells #[.int .i64 x, .slice A n c] 25))
  have B0 : Hid ((w.alloc (.cells #[.int .i64 x, .slice A n c] 25)).cell? ⟨w.heap.size, 0, none⟩ = some (.int .i64 x)) := Lib.hid (by simp [go_sem])
  have B1 : Hid ((w.alloc (.cells #[.int .i64 x, .slice A n c] 25)).cell? ⟨w.heap.size, 1, none⟩ = some (.slice A n c)) := Lib.hid (by simp [go_sem])
  have hsW : w.heap.size < (w.alloc (.cells #[.int .i64 x, .slice A n c] 25)).heap.size := by simp
  generalize w.alloc (.cells #[.int .i64 x, .slice A n c] 25) = W at *
  go_loopw [3] (fun i wr => ∃ k : Nat, k ≤ n ∧ i = .int .i64 (k : Int) ∧ Hid (k = 0 ∨ (blockValidF ⟨x, ps⟩ = true ∧ freeFrom ps n 0 = freeFrom ps (n - k) k)) ∧ Hid (Below W.heap.size W wr)) (fun i _ => n - (intOf i).toNat)
  case atStart => exact ⟨0, by omega, rfl, Or.inl rfl, Below.refl _ _⟩
  case round =>
    obtain ⟨k, hk, rfl, HO, HB⟩ := hrel
    have HW := Lib.hid (bel_t HB0.out HB.out)
    have b0 := stays_below HB.out _ _ _ B0.out
    have b1 := stays_below HB.out _ _ _ B1.out
    by_cases hkn : k = n
    · have HF : Hid (blockNextF ⟨x, ps⟩ = -1) := Lib.hid (by
        rcases HO.out with h0 | ⟨h1, h2⟩
        · exact bn_3 ⟨x, ps⟩ n HL.out (by omega)
        · rw [bn_2 ⟨x, ps⟩ n HL.out h1, h2, ff_3 ps n k hkn])
      subst hkn
      go_wp2
      go_ret
      exact ⟨by rw [HF.out]; rfl, HW.out⟩
    · go_wp2_with fail
      refine (sBlockValid _ _ _ _ ps _ (HP.out.keep HW.out)).mono ?_
      rintro e w1 ⟨rfl, hb1⟩
      have HV1 := Lib.hid hb1
      have HW1 := Lib.hid (bel_t HW.out hb1)
      have HB1 := Lib.hid (bel_t HB.out hb1)
      clear hb1
      replace b1 := stays_below HV1.out _ _ _ b1
      cases hv : blockValidF ⟨x, ps⟩
      · have HF := Lib.hid (bn_1 _ hv)
        go_wp2
        go_ret
        exact ⟨by rw [HF.out]; rfl, HW1.out⟩
      · have HG : Hid (freeFrom ps n 0 = freeFrom ps (n - k) k) := Lib.hid (by
          rcases HO.out with h0 | ⟨h1, h2⟩
          · rw [h0, Nat.sub_zero]
          · exact h2)
        have HN := Lib.hid (bn_2 ⟨x, ps⟩ n HL.out hv)
        have HT := Lib.hid hv
        obtain ⟨b, o, rfl, hC⟩ := HP.out.2.2 (by omega)
        have c0 := stays_below HW1.out _ _ _ (hC k (by omega)).1
        clear hC hv
        cases hf : (pgAt ps k).full
        · have HE := Lib.hid (ff_2 ps n k (by omega) hf)
          rw [hf] at c0
          clear hf
          go_wp2
          go_ret
          exact ⟨by rw [HN.out, HG.out, HE.out]; rfl, HW1.out⟩
        · have HE := Lib.hid (ff_1 ps n k (by omega) hf)
          rw [hf] at c0
          clear hf
          go_wp2
          go_round
          case rel => exact ⟨k + 1, by omega, by simp, Or.inr ⟨HT.out, HG.out.trans HE.out⟩, HB1⟩
          case measure => simp [intOf]; omega

end Go.Proofs.Yteekikaebmkioaa
