/-auto What the program's and the reference's BlockNext return. -/
import Derived.Test.YtjklpdidieakkaaBlocks
namespace Go.Proofs.Ytjklpdidieakkaa
open Go.RowKit
set_option linter.unusedVariables false

set_option maxHeartbeats 4000000 in
theorem iBlockNext (x : Int) (A : Option Addr) (n c : Nat) (ps : List Pg) (w : World) (h : PgsAt w A n ps) :
    Calls Try.prog 10 #[.agg #[.int .i64 x, .slice A n c]] w fun e w' => e = .returned (.int .i64 (blockNextF ⟨x, ps⟩)) ∧ Below w.heap.size w w' := by
  have HP := Lib.hid h
  clear h
  go_enter Try.func10, Try.ntmps10
  go_wp2_with fail
  have HB0 := Lib.hid (bel_1 w (.cells #[.int .i64 x, .slice A n c] 26))
  have B1 : Hid ((w.alloc (.cells #[.int .i64 x, .slice A n c] 26)).cell? ⟨w.heap.size, 1, none⟩ = some (.slice A n c)) := Lib.hid (by simp [go_sem])
  have hsW : w.heap.size < (w.alloc (.cells #[.int .i64 x, .slice A n c] 26)).heap.size := by simp
  generalize w.alloc (.cells #[.int .i64 x, .slice A n c] 26) = W at *
  refine (iBlockValid _ _ _ _ ps _ (HP.out.keep HB0.out)).mono ?_
  rintro e w1 ⟨rfl, hb1⟩
  have HB1 := Lib.hid (bel_t HB0.out hb1)
  have b1 := stays_below hb1 _ _ _ B1.out
  clear hb1
  cases hv : blockValidF ⟨x, ps⟩
  · have HF := Lib.hid (bn_1 _ hv)
    go_wp2
    go_ret
    exact ⟨by rw [HF.out]; rfl, HB1.out⟩
  · obtain ⟨hl, hn, hc⟩ := HP.out.keep HB1.out
    have HF := Lib.hid (bn_2 ⟨x, ps⟩ n hl hv)
    simp only [] at HF
    have HC := Lib.hid hc
    clear hl hc HP hv
    go_wp2
    go_loopw [11] (fun i wr => ∃ k : Nat, k ≤ n ∧ i = .int .i64 (k : Int) ∧ Hid (freeFrom ps n 0 = freeFrom ps (n - k) k) ∧ Hid (Below w1.heap.size w1 wr)) (fun i _ => n - (intOf i).toNat)
    case atStart => exact ⟨0, by omega, rfl, (by show _ = _; rw [Nat.sub_zero]), Below.refl _ _⟩
    case round =>
      obtain ⟨k, hk, rfl, HO, HB⟩ := hrel
      have HW := Lib.hid (bel_t HB1.out HB.out)
      have b1 := stays_below HB.out _ _ _ b1
      by_cases hkn : k = n
      · have HG := Lib.hid (ff_3 ps n k hkn)
        subst hkn
        go_wp2
        go_ret
        exact ⟨by rw [HF.out, HO.out, HG.out]; rfl, HW.out⟩
      · obtain ⟨b, o, rfl, hC⟩ := HC.out (by omega)
        obtain ⟨c0, c1, c2, c3, c4⟩ := (hC k (by omega)).keep (stays_below HB.out)
        clear hC
        rcases hp : pgAt ps k with ⟨f, fi, pl, va, st⟩
        rw [hp] at c0 c1 c2 c3 c4
        simp only [] at c0 c1 c2 c3 c4
        cases f
        · have HG := Lib.hid (ff_2 ps n k (by omega) (by rw [hp]))
          clear hp
          go_wp2
          go_ret
          exact ⟨by rw [HF.out, HO.out, HG.out]; rfl, bel_t HW.out (bel_1 _ _)⟩
        · have HG := Lib.hid (ff_1 ps n k (by omega) (by rw [hp]))
          clear hp
          go_wp2
          go_round
          case rel => exact ⟨k + 1, by omega, by simp, (HO.out.trans HG.out : _ = _), (bel_t HB.out (bel_1 _ _) : Below _ _ _)⟩
          case measure => simp [intOf]; omega

end Go.Proofs.Ytjklpdidieakkaa
