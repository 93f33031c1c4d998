/-auto What the laws' own marks on devices do, and what they find held. -/
import Derived.Test.YteekikaebmkioaaMarks
import Derived.Test.YteekikaebmkioaaMem3
import Derived.Deep.LoopGhost
namespace Go.Proofs.Yteekikaebmkioaa
open Go.RowKit
set_option linter.unusedVariables false

/-- the number at which block i's marks begin -/
def yAt (ds : List Bl) (y : Int) : Nat → Int
  | 0 => y
  | i + 1 => yAt ds y i + 1 + 5 * ((blAt ds i).pages.length : Int)
theorem yAt_zero (ds : List Bl) (y : Int) : yAt ds y 0 = y := rfl
theorem yAt_succ (ds : List Bl) (y : Int) (i : Nat) : yAt ds y (i + 1) = yAt ds y i + 1 + 5 * ((blAt ds i).pages.length : Int) := rfl
theorem yAt_b (ds : List Bl) (y : Int) (n k : Nat) (hp : ∀ i, i < n → (blAt ds i).pages.length ≤ 1048576) (hk : k ≤ n) : y ≤ yAt ds y k ∧ yAt ds y k ≤ y + (k : Int) * 5242881 := by
  induction k with
  | zero => rw [yAt_zero]; omega
  | succ k ih =>
    have h1 := ih (by omega)
    have h2 := hp k (by omega)
    rw [yAt_succ]
    omega
def mkBl (ds : List Bl) (y : Int) (i : Nat) : Bl := ⟨yAt ds y i, markF (yAt ds y i + 1) (blAt ds i).pages.length⟩
def markD (ds : List Bl) (y : Int) (n : Nat) : List Bl := (List.range n).map fun (i : Nat) => mkBl ds y i
theorem markD_len (ds : List Bl) (y : Int) (n : Nat) : (markD ds y n).length = n := by simp [markD]
theorem markD_at (ds : List Bl) (y : Int) (n i : Nat) (hi : i < n) : blAt (markD ds y n) i = mkBl ds y i := by simp [blAt, markD, List.getD, hi]
attribute [irreducible] yAt
/-- only blocks from lo up to hi were written -/
def ChgI (lo hi : Nat) (w w' : World) : Prop := w'.heap.size = w.heap.size ∧ (∀ b o, b < lo ∨ hi ≤ b → w'.cell? ⟨b, o, none⟩ = w.cell? ⟨b, o, none⟩) ∧ (∀ a, w'.frozen? a = w.frozen? a) ∧ (∀ B a, Below B a w → B ≤ lo → Below B a w')
theorem ChgI.refl (lo hi : Nat) (w : World) : ChgI lo hi w w := ⟨rfl, fun _ _ _ => rfl, fun _ => rfl, fun _ _ h _ => h⟩
theorem ChgI.step {lo hi q : Nat} {w w1 w2 : World} (h : ChgI lo hi w w1) (hc : Chg q w1 w2) (h1 : lo ≤ q) (h2 : q < hi) : ChgI lo hi w w2 :=
  ⟨hc.1.trans h.1, fun b o hb => (hc.2.1 b o (by omega)).trans (h.2.1 b o hb), fun a => (hc.2.2.1 a).trans (h.2.2.1 a), fun B a hB hl => hc.2.2.2 B a (h.2.2.2 B a hB hl) (by omega)⟩
theorem chg_set (w : World) (g o : Nat) (v : Value) : Chg g w (w.setCell ⟨g, o, none⟩ v) :=
  ⟨by simp [World.size_setCell], fun b r hb => World.cell?_setCell_other _ _ _ _ (by simp <;> omega), fun a => World.frozen?_setCell _ _ _ _, fun B a hB hq => hB.setCell (p := ⟨g, o, none⟩) hq v⟩
theorem PgRow.chgI {g n lo hi : Nat} {ps : List Pg} {w w' : World} (h : PgRow w g n ps) (hq : g < lo ∨ hi ≤ g) (hc : ChgI lo hi w w') : PgRow w' g n ps :=
  ⟨h.1, by rw [hc.1]; exact h.2.1, fun i hi => by
    obtain ⟨h0, h1, h2, h3, h4⟩ := h.2.2.1 i hi
    exact ⟨(hc.2.1 g _ hq).trans h0, (hc.2.1 g _ hq).trans h1, (hc.2.1 g _ hq).trans h2, (hc.2.1 g _ hq).trans h3, (hc.2.1 g _ hq).trans h4⟩, fun j => (hc.2.2.1 _).trans (h.2.2.2 j)⟩
theorem DvRow.chgI {lo' g n k lo hi : Nat} {G : Nat → Nat} {ds : List Bl} {w w' : World} (h : DvRow w lo' g n k G ds) (hg : g < lo ∨ hi ≤ g) (hG : ∀ i, i < k → G i < lo ∨ hi ≤ G i) (hc : ChgI lo hi w w') : DvRow w' lo' g n k G ds := by
  obtain ⟨h1, h2, h3, h4, h5, h6⟩ := h
  refine ⟨h1, h2, by rw [hc.1]; exact h3, fun j => (hc.2.2.1 _).trans (h4 j), fun i hi => ?_, fun i hi => ?_⟩
  · obtain ⟨v0, v1, a0, a1⟩ := h5 i hi
    exact ⟨v0, v1, (hc.2.1 g _ hg).trans a0, (hc.2.1 g _ hg).trans a1⟩
  · obtain ⟨b1, b2, b3, b4, A, m, c, b5, b6, b7, b8⟩ := h6 i hi
    refine ⟨b1, by rw [hc.1]; exact b2, b3, b4, A, m, c, b5, (hc.2.1 g _ hg).trans b6, (hc.2.1 g _ hg).trans b7, ?_⟩
    rcases b8 with b8 | ⟨b8, b9⟩
    · exact Or.inl b8
    · exact Or.inr ⟨b8, b9.chgI (hG i hi) hc⟩
/-- block k's wear and pages written anew -/
theorem DvRow.mark {lo g n k m c : Nat} {G : Nat → Nat} {ds : List Bl} {w w2 : World} {A : Option Addr} {ps : List Pg} (h : DvRow w lo g n n G ds) (hk : k < n) (y : Int)
    (hcell : w.cell? ⟨g, k * 2 + 1, none⟩ = some (.slice A m c)) (hm : m ≤ 9223372036854775807) (hC : Chg (G k) (w.setCell ⟨g, k * 2, none⟩ (.int .i64 y)) w2) (hS : Sl w2 A m (G k) ps) : DvRow w2 lo g n n G (ds.set k ⟨y, ps⟩) := by
  obtain ⟨h1, h2, h3, h4, h5, h6⟩ := h
  obtain ⟨k1, k2, k3, k4, _⟩ := h6 k hk
  obtain ⟨u0, u1, hu0, hu1⟩ := h5 k hk
  have hsz : w2.heap.size = w.heap.size := by rw [hC.1, World.size_setCell]
  have hcg : ∀ o, w2.cell? ⟨g, o, none⟩ = (w.setCell ⟨g, k * 2, none⟩ (.int .i64 y)).cell? ⟨g, o, none⟩ := fun o => hC.2.1 g o (fun e => k3 e.symm)
  refine ⟨by simpa using h1, h2, by omega, fun j => (hC.2.2.1 _).trans ((World.frozen?_setCell _ _ _ _).trans (h4 j)), fun i hi => ?_, fun i hi => ?_⟩
  · obtain ⟨v0, v1, a0, a1⟩ := h5 i hi
    obtain ⟨v0', a0'⟩ := cell?_setCell_some (p := ⟨g, k * 2, none⟩) (x := .int .i64 y) a0
    obtain ⟨v1', a1'⟩ := cell?_setCell_some (p := ⟨g, k * 2, none⟩) (x := .int .i64 y) a1
    exact ⟨v0', v1', (hcg _).trans a0', (hcg _).trans a1'⟩
  · obtain ⟨b1, b2, b3, b4, A', m', c', b5, b6, b7, b8⟩ := h6 i hi
    rw [hsz, blAt_set ds k i _ (by rw [h1]; exact hk)]
    by_cases e : i = k
    · subst e
      rw [if_pos rfl]
      refine ⟨b1, b2, b3, b4, A, m, c, hm, ?_, ?_, hS⟩
      · rw [hcg, World.cell?_setCell_same _ _ _ hu0]
      · rw [hcg, World.cell?_setCell_other _ _ _ _ (by simp)]; exact hcell
    · rw [if_neg e]
      refine ⟨b1, b2, b3, b4, A', m', c', b5, ?_, ?_, ?_⟩
      · rw [hcg, World.cell?_setCell_other _ _ _ _ (by simp <;> omega)]; exact b6
      · rw [hcg, World.cell?_setCell_other _ _ _ _ (by simp <;> omega)]; exact b7
      · exact (b8.setOther (a := ⟨g, k * 2, none⟩) (fun e2 => b3 e2.symm) _).chg (b4 k hk (fun e2 => e e2.symm)).symm hC

end Go.Proofs.Yteekikaebmkioaa
