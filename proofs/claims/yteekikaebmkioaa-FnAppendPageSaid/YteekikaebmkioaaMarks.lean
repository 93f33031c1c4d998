/-auto What the laws' own marks on pages and blocks do, and what they find held. -/
import Derived.Test.YteekikaebmkioaaMem4
import Derived.Test.YteekikaebmkioaaCopies
import Derived.LoopN
namespace Go.Proofs.Yteekikaebmkioaa
open Go.RowKit
set_option linter.unusedVariables false

/-- the page that is marked with numbers from y on -/
def mkPg (y : Int) : Pg := ⟨y % 3 == 0, y + 1, y + 1 + 1, y + 1 + 1 + 1, y + 1 + 1 + 1 + 1⟩
def markF (y : Int) (n : Nat) : List Pg := (List.range n).map fun (i : Nat) => mkPg (y + 5 * (i : Int))
theorem markF_len (y : Int) (n : Nat) : (markF y n).length = n := by simp [markF]
theorem markF_at (y : Int) (n i : Nat) (hi : i < n) : pgAt (markF y n) i = mkPg (y + 5 * (i : Int)) := by simp [pgAt, markF, List.getD, hi]
/-- only block q was written -/
def Chg (q : Nat) (w w' : World) : Prop := w'.heap.size = w.heap.size ∧ (∀ b o, b ≠ q → w'.cell? ⟨b, o, none⟩ = w.cell? ⟨b, o, none⟩) ∧ (∀ a, w'.frozen? a = w.frozen? a) ∧ (∀ B a, Below B a w → B ≤ q → Below B a w')
theorem Chg.refl (q : Nat) (w : World) : Chg q w w := ⟨rfl, fun _ _ _ => rfl, fun _ => rfl, fun _ _ h _ => h⟩
theorem Chg.s5 {q o : Nat} {w w' : World} (h : Chg q w w') (p : Pg) : Chg q w (s5 w' q o p) :=
  ⟨size_s5.trans h.1, fun b r hb => (cell_s5_other (Or.inl hb)).trans (h.2.1 b r hb), fun a => (frozen_s5 a).trans (h.2.2.1 a), fun B a hB hq => bel_5 (h.2.2.2 B a hB hq) hq p⟩
theorem PgRow.chg {g n q : Nat} {ps : List Pg} {w w' : World} (h : PgRow w g n ps) (hq : g ≠ q) (hc : Chg q w w') : PgRow w' g n ps :=
  ⟨h.1, by rw [hc.1]; exact h.2.1, fun i hi => by
    obtain ⟨h0, h1, h2, h3, h4⟩ := h.2.2.1 i hi
    exact ⟨(hc.2.1 g _ hq).trans h0, (hc.2.1 g _ hq).trans h1, (hc.2.1 g _ hq).trans h2, (hc.2.1 g _ hq).trans h3, (hc.2.1 g _ hq).trans h4⟩, fun j => (hc.2.2.1 _).trans (h.2.2.2 j)⟩
theorem Sl.chg {A : Option Addr} {m g q : Nat} {ps : List Pg} {w w' : World} (h : Sl w A m g ps) (hq : g ≠ q) (hc : Chg q w w') : Sl w' A m g ps := by
  rcases h with h | ⟨h1, h2⟩
  · exact Or.inl h
  · exact Or.inr ⟨h1, h2.chg hq hc⟩

end Go.Proofs.Yteekikaebmkioaa
