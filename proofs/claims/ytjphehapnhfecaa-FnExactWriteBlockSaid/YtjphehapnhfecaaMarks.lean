/-auto What the laws' own marks on pages and blocks do, and what they find held. -/
import Derived.Test.YtjphehapnhfecaaMem4
import Derived.Test.YtjphehapnhfecaaCopies
import Derived.LoopN
namespace Go.Proofs.Ytjphehapnhfecaa
open Go.RowKit
set_option linter.unusedVariables false

/-- the page that is marked with numbers from y on -/
def mkPg (y : Int) : Pg := ⟨y % 3 == 0, y + 1, y + 1 + 1, y + 1 + 1 + 1, y + 1 + 1 + 1 + 1⟩
def markF (y : Int) (n : Nat) : List Pg := (List.range n).map fun (i : Nat) => mkPg (y + 5 * (i : Int))
theorem markF_len (y : Int) (n : Nat) : (markF y n).length = n := by simp [markF]
theorem markF_at (y : Int) (n i : Nat) (hi : i < n) : pgAt (markF y n) i = mkPg (y + 5 * (i : Int)) := by simp [pgAt, markF, List.getD, hi]
/-- only block q was written -/
def Chg (q : Nat) (w w' : World) : Prop := w'.heap.size = w.heap.size ∧ (∀ b o, b ≠ q → w'.cell? ⟨b, o, none⟩ = w.cell? ⟨b, o, none⟩) ∧ (∀ a, w'.frozen? a = w.frozen? a) ∧ (∀ B a, Below B a w → B ≤ q → Below B a w')
theorem Chg.refl (q : Nat) (w : World) : Chg q w w := ⟨rfl, fun _ _ _ => rfl, fun _ => rfl, fun _ _ h _ => h⟩
theorem Chg.s5 {q o : Nat} {w w' : World} (h : Chg q w w') (p : Pg) : Chg q w (s5 w' q o p) :=
  ⟨size_s5.trans h.1, fun b r hb => (cell_s5_other (Or.inl hb)).trans (h.2.1 b r hb), fun a => (frozen_s5 a).trans (h.2.2.1 a), fun B a hB hq => bel_5 (h.2.2.2 B a hB hq) hq p⟩
theorem PgRow.chg {g n q : Nat} {ps : List Pg} {w w' : World} (h : PgRow w g n ps) (hq : g ≠ q) (hc : Chg q w w') : PgRow w' g n ps :=
  ⟨h.1, by rw [hc.1]; exact h.2.1, fun i hi => by
    obtain ⟨h0, h1, h2, h3, h4⟩ := h.2.2.1 i hi
    exact ⟨(hc.2.1 g _ hq).trans h0, (hc.2.1 g _ hq).trans h1, (hc.2.1 g _ hq).trans h2, (hc.2.1 g _ hq).trans h3, (hc.2.1 g _ hq).trans h4⟩, fun j => (hc.2.2.1 _).trans (h.2.2.2 j)⟩
theorem Sl.chg {A : Option Addr} {m g q : Nat} {ps : List Pg} {w w' : World} (h : Sl w A m g ps) (hq : g ≠ q) (hc : Chg q w w') : Sl w' A m g ps := by
  rcases h with h | ⟨h1, h2⟩
  · exact Or.inl h
  · exact Or.inr ⟨h1, h2.chg hq hc⟩

set_option maxHeartbeats 1000000 in
theorem markPageS_any (A : Option Addr) (n c q : Nat) (ps : List Pg) (y : Int) (w : World) (h : Sl w A n q ps) (hn : n ≤ 1048576) (hy0 : 0 ≤ y) (hy1 : y ≤ 1000000000000000) :
    Calls Try.prog 33 #[.slice A n c, .int .i64 y] w fun e w' => e = .returned (.int .i64 (y + 5 * (n : Int))) ∧ Sl w' A n q (markF y n) ∧ Chg q w w' := by
  rcases h with ⟨rfl, rfl⟩ | ⟨rfl, hR⟩
  · go_enter Try.func33, Try.ntmps33
    go_wp2
    refine wp_loop_rounds 1 ?_
    rw [rounds_succ]
    go_wp2
    go_ret
    exact ⟨by simp, Or.inl ⟨rfl, rfl⟩, Chg.refl _ _⟩
  · have HR := Lib.hid hR
    clear hR
    go_enter Try.func33, Try.ntmps33
    go_wp2
    go_loopw [1, 5] (fun v i wr => ∃ (k : Nat) (x : Int) (qs : List Pg), k ≤ n ∧ v = .int .i64 x ∧ x = y + 5 * (k : Int) ∧ i = .int .i64 (k : Int) ∧ Hid (PgRow wr q n qs ∧ ∀ i, i < k → pgAt qs i = mkPg (y + 5 * (i : Int))) ∧ Hid (Chg q w wr)) (fun _ i _ => n - (intOf i).toNat)
    case atStart => exact ⟨0, y, ps, by omega, rfl, by simp, rfl, ⟨HR.out, fun i hi => absurd hi (by omega)⟩, Chg.refl _ _⟩
    case round =>
      obtain ⟨k, x, qs, hk, rfl, hx, rfl, HQ, HC⟩ := hrel
      have hx0 : 0 ≤ x := by omega
      have hx1 : x ≤ 2000000000000000 := by omega
      have HX := Lib.hid hx
      clear hx
      by_cases hkn : k = n
      · subst hkn
        go_wp2
        go_ret
        refine ⟨by rw [HX.out]; rfl, Or.inr ⟨rfl, ?_⟩, HC.out⟩
        have e : qs = markF y k := pgs_ext (HQ.out.1.1.trans (markF_len y k).symm) (fun i hi => by
          rw [HQ.out.1.1] at hi
          rw [HQ.out.2 i hi, markF_at y k i hi])
        rw [← e]
        exact HQ.out.1
      · obtain ⟨e0, e1, e2, e3, e4⟩ := HQ.out.1.2.2.1 k (by omega)
        have u0 := HQ.out.1.2.2.2 (k * 5)
        have u1 := HQ.out.1.2.2.2 (k * 5 + 1)
        have u2 := HQ.out.1.2.2.2 (k * 5 + 2)
        have u3 := HQ.out.1.2.2.2 (k * 5 + 3)
        have u4 := HQ.out.1.2.2.2 (k * 5 + 4)
        go_wp2
        go_round
        case rel =>
          rw [s5_eq]
          refine ⟨k + 1, x + 1 + 1 + 1 + 1 + 1, qs.set k (mkPg x), by omega, rfl, by have := HX.out; omega, by simp, ⟨HQ.out.1.set (by omega) (mkPg x), fun i hi => ?_⟩, HC.out.s5 (mkPg x)⟩
          rw [pgAt_set qs k i _ (by rw [HQ.out.1.1]; omega)]
          by_cases e : i = k
          · rw [if_pos e, e, HX.out]
          · rw [if_neg e]; exact HQ.out.2 i (by omega)
        case measure => simp [intOf]; omega

set_option maxHeartbeats 1000000 in
theorem heldPageS_any (A : Option Addr) (n c : Nat) (y : Int) (w : World) (h : PgsAt w A n (markF y n)) (hn : n ≤ 1048576) (hy0 : 0 ≤ y) (hy1 : y ≤ 1000000000000000) :
    Calls Try.prog 34 #[.slice A n c, .int .i64 y] w fun e w' => e = .returned (.int .i64 (y + 5 * (n : Int))) ∧ Below w.heap.size w w' := by
  have HP := Lib.hid h
  clear h
  go_enter Try.func34, Try.ntmps34
  go_wp2
  go_loopw [1, 5] (fun v i wr => ∃ (k : Nat) (x : Int), k ≤ n ∧ v = .int .i64 x ∧ x = y + 5 * (k : Int) ∧ i = .int .i64 (k : Int) ∧ Hid (Below w.heap.size w wr)) (fun _ i _ => n - (intOf i).toNat)
  case atStart => exact ⟨0, y, by omega, rfl, by simp, rfl, Below.refl _ _⟩
  case round =>
    obtain ⟨k, x, hk, rfl, hx, rfl, HB⟩ := hrel
    have hx0 : 0 ≤ x := by omega
    have hx1 : x ≤ 2000000000000000 := by omega
    have HX := Lib.hid hx
    clear hx
    by_cases hkn : k = n
    · subst hkn
      go_wp2
      go_ret
      exact ⟨by rw [HX.out]; rfl, HB.out⟩
    · obtain ⟨b, o, rfl, hC⟩ := HP.out.2.2 (by omega)
      obtain ⟨c0, c1, c2, c3, c4⟩ := (hC k (by omega)).keep (stays_below HB.out)
      rw [markF_at y n k (by omega), ← HX.out] at c0 c1 c2 c3 c4
      simp only [mkPg] at c0 c1 c2 c3 c4
      clear hC
      go_wp2
      go_round
      case rel => exact ⟨k + 1, x + 1 + 1 + 1 + 1 + 1, by omega, rfl, by have := HX.out; omega, by simp, HB⟩
      case measure => simp [intOf]; omega

set_option maxHeartbeats 400000 in
theorem markBlock_any (z : Int) (A : Option Addr) (n c q : Nat) (ps : List Pg) (y : Int) (w : World) (h : Sl w A n q ps) (hq : q < w.heap.size ∨ n = 0) (hn : n ≤ 1048576) (hy0 : 0 ≤ y) (hy1 : y ≤ 1000000000000000) :
    Calls Try.prog 11 #[.agg #[.int .i64 z, .slice A n c], .int .i64 y] w fun e w' => e = .returned (.int .i64 (y + 5 * (n : Int))) ∧ Sl w' A n q (markF y n) ∧ ∃ w1, Below w.heap.size w w1 ∧ Chg q w1 w' := by
  have HS := Lib.hid h
  have HQ := Lib.hid hq
  clear h hq
  go_enter Try.func11, Try.ntmps11
  go_wp2_with fail
  refine (markPageS_any _ _ _ q ps _ _ ?_ hn hy0 hy1).mono ?_
  · rcases HQ.out with h1 | h1
    · exact HS.out.keepB (bel_1 _ _) h1
    · rcases HS.out with h2 | ⟨h2, h3⟩
      · exact Or.inl h2
      · exact Or.inr ⟨h2, h3.keep (bel_1 _ _)⟩
  rintro e w1 ⟨rfl, hS, hC⟩
  go_wp2
  go_ret
  exact ⟨rfl, hS, _, bel_1 _ _, hC⟩

set_option maxHeartbeats 400000 in
theorem heldBlock_any (z : Int) (A : Option Addr) (n c : Nat) (y : Int) (w : World) (h : PgsAt w A n (markF y n)) (hn : n ≤ 1048576) (hy0 : 0 ≤ y) (hy1 : y ≤ 1000000000000000) :
    Calls Try.prog 12 #[.agg #[.int .i64 z, .slice A n c], .int .i64 y] w fun e w' => e = .returned (.int .i64 (y + 5 * (n : Int))) ∧ Below w.heap.size w w' := by
  have HP := Lib.hid h
  clear h
  have hr : ¬ (y + 5 * (n : Int) < 0) := by omega
  go_enter Try.func12, Try.ntmps12
  go_wp2_with fail
  refine (heldPageS_any _ _ _ _ _ (HP.out.keep (bel_1 _ _)) hn hy0 hy1).mono ?_
  rintro e w1 ⟨rfl, hb1⟩
  go_wp2
  go_ret
  exact ⟨rfl, bel_t (bel_1 _ _) hb1⟩

end Go.Proofs.Ytjphehapnhfecaa
