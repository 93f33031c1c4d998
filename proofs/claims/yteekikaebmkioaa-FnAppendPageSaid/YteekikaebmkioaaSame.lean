/-auto What the laws' own comparisons of pages and blocks return. -/
import Derived.Test.YteekikaebmkioaaPageEq
import Derived.Test.YteekikaebmkioaaMem4
import Derived.Deep.QuietTactic
import Derived.BigQuiet
namespace Go.Proofs.Yteekikaebmkioaa
open Go.RowKit
set_option linter.unusedVariables false

theorem bel_dN {B : Nat} {a w : World} (h : Below B a w) (n : Nat) : Below B a (w.drewN n) := ⟨h.os, h.tape, h.output, h.size, h.block⟩

set_option maxHeartbeats 1000000 in
theorem samePages_any (A : Option Addr) (n c : Nat) (A' : Option Addr) (n' c' : Nat) (ps qs : List Pg) (w : World) (h : PgsAt w A n ps) (h' : PgsAt w A' n' qs) :
    Calls Try.prog 26 #[.slice A n c, .slice A' n' c'] w fun e w' => ∃ r, e = .returned (.bool r) ∧ (ps = qs → r = true) ∧ Below w.heap.size w w' := by
  have HP := Lib.hid h
  have HP' := Lib.hid h'
  have hm := h.2.1
  have hm' := h'.2.1
  clear h h'
  by_cases hnn : n = n'
  · subst hnn
    go_enter Try.func26, Try.ntmps26
    go_wp2
    go_loopw [5] (fun i wr => ∃ k : Nat, k ≤ n ∧ i = .int .i64 (k : Int) ∧ Hid (Below w.heap.size w wr)) (fun i _ => n - (intOf i).toNat)
    case atStart => exact ⟨0, by omega, rfl, Below.refl _ _⟩
    case round =>
      obtain ⟨k, hk, rfl, HB⟩ := hrel
      by_cases hkn : k = n
      · subst hkn
        go_wp2
        go_ret
        exact ⟨true, rfl, fun _ => rfl, HB.out⟩
      · obtain ⟨b, o, rfl, hC⟩ := HP.out.2.2 (by omega)
        obtain ⟨b', o', rfl, hC'⟩ := HP'.out.2.2 (by omega)
        obtain ⟨c0, c1, c2, c3, c4⟩ := (hC k (by omega)).keep (stays_below HB.out)
        obtain ⟨d0, d1, d2, d3, d4⟩ := (hC' k (by omega)).keep (stays_below HB.out)
        rcases hp : pgAt ps k with ⟨f, fi, pl, va, st⟩
        rcases hq : pgAt qs k with ⟨f', fi', pl', va', st'⟩
        rw [hp] at c0 c1 c2 c3 c4
        rw [hq] at d0 d1 d2 d3 d4
        simp only [] at c0 c1 c2 c3 c4 d0 d1 d2 d3 d4
        have HPP := Lib.hid hp
        have HQQ := Lib.hid hq
        have hne := neq_page f fi pl va st f' fi' pl' va' st'
        clear hC hC' hp hq
        cases he : pgEq ⟨f, fi, pl, va, st⟩ ⟨f', fi', pl', va', st'⟩
        · rw [he] at hne
          have HE := Lib.hid he
          clear he
          go_wp2
          go_quiet (fail)
          go_wp2
          go_ret
          refine ⟨false, rfl, fun e => ?_, bel_dN HB.out _⟩
          subst e
          have e2 := HPP.out.symm.trans HQQ.out
          rw [e2] at HE
          exact absurd HE.out (by rw [pgEq_refl]; simp)
        · rw [he] at hne
          clear he
          go_wp2
          go_quiet (fail)
          go_wp2
          go_round
          case rel => exact ⟨k + 1, by omega, by simp, (bel_dN HB.out _ : Below _ _ _)⟩
          case measure => simp [intOf]; omega
  · have hq : ((n : Int) != (n' : Int)) = true := by simp; omega
    have hq2 : ¬ (n : Int) = (n' : Int) := by omega
    go_enter Try.func26, Try.ntmps26
    go_wp2
    go_ret
    exact ⟨false, rfl, fun e => absurd (HP.out.1.symm.trans ((congrArg List.length e).trans HP'.out.1)) hnn, Below.refl _ _⟩

set_option maxHeartbeats 1000000 in
theorem sameBlock_any (z : Int) (A : Option Addr) (n c : Nat) (z' : Int) (A' : Option Addr) (n' c' : Nat) (ps qs : List Pg) (w : World) (h : PgsAt w A n ps) (h' : PgsAt w A' n' qs) :
    Calls Try.prog 25 #[.agg #[.int .i64 z, .slice A n c], .agg #[.int .i64 z', .slice A' n' c']] w fun e w' => ∃ r, e = .returned (.bool r) ∧ (z = z' → ps = qs → r = true) ∧ Below w.heap.size w w' := by
  have HP := Lib.hid h
  have HP' := Lib.hid h'
  clear h h'
  by_cases hz : z = z'
  · subst hz
    go_enter Try.func25, Try.ntmps25
    go_wp2_with fail
    refine (samePages_any _ _ _ _ _ _ ps qs _ (HP.out.keep (bel_2 _ _ _)) (HP'.out.keep (bel_2 _ _ _))).mono ?_
    rintro e w1 ⟨r, rfl, hr, hb1⟩
    go_wp2
    go_ret
    exact ⟨r, rfl, fun _ => hr, bel_t (bel_2 _ _ _) hb1⟩
  · have hq : (z == z') = false := by simpa using hz
    go_enter Try.func25, Try.ntmps25
    go_wp2
    go_ret
    exact ⟨false, rfl, fun e => absurd e hz, bel_2 _ _ _⟩

theorem bv_new (x : Int) (h : 0 ≤ x ∧ x ≤ 100) : blockValidF ⟨x, [Pg.zero, Pg.zero, Pg.zero, Pg.zero]⟩ = true := by
  rw [blockValidF, inB_t h.1 h.2]
  simp only [List.length_cons, List.length_nil]
  rw [okTo_succ, okTo_succ, okTo_succ, okTo_succ, okTo_zero]
  have e : ∀ i, pgAt [Pg.zero, Pg.zero, Pg.zero, Pg.zero] i = Pg.zero := by
    intro i
    match i with
    | 0 => rfl
    | 1 => rfl
    | 2 => rfl
    | 3 => rfl
    | _ + 4 => rfl
  have hz : pageValidF Pg.zero = true := pv_zero
  have hf : Pg.zero.full = false := rfl
  simp [okAt, e, hz, hf]
theorem bn_new (x : Int) (h : 0 ≤ x ∧ x ≤ 100) : blockNextF ⟨x, [Pg.zero, Pg.zero, Pg.zero, Pg.zero]⟩ = 0 := by
  rw [blockNextF, bv_new x h]
  simp only [List.length_cons, List.length_nil]
  rw [freeFrom_succ]
  rfl

end Go.Proofs.Yteekikaebmkioaa
