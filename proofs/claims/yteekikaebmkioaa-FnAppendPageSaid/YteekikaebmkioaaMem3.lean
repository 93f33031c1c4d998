/- Memory: devices that a call made and may write. No program in sight. -/
import Derived.Test.YteekikaebmkioaaMem2
namespace Go.Proofs.Yteekikaebmkioaa
open Go.RowKit
set_option linter.unusedVariables false

theorem blAt_set (ds : List Bl) (i j : Nat) (x : Bl) (hi : i < ds.length) : blAt (ds.set i x) j = if j = i then x else blAt ds j := by
  simp only [blAt, List.getD]
  by_cases e : j = i
  · subst e; simp [hi]
  · rw [List.getElem?_set_ne (by omega), if_neg e]
theorem bls_ext {ds es : List Bl} (h : ds.length = es.length) (hx : ∀ i, i < ds.length → blAt ds i = blAt es i) : ds = es := by
  refine List.ext_getElem h fun i h1 h2 => ?_
  have := hx i h1
  simpa [blAt, List.getD, h1, h2] using this
/-- a slice of pages of a block's own: none, or a row from its head on, in block q -/
def Sl (w : World) (A : Option Addr) (m q : Nat) (ps : List Pg) : Prop := (m = 0 ∧ ps = []) ∨ (A = some ⟨q, 0, none⟩ ∧ PgRow w q m ps)
/-- block g is a row of n blocks that may be written; the first k of them read as those of ds; block i's pages lie in block G i; all of them lie in blocks from lo on, and apart -/
def DvRow (w : World) (lo g n k : Nat) (G : Nat → Nat) (ds : List Bl) : Prop :=
  ds.length = n ∧ lo ≤ g ∧ g < w.heap.size ∧ (∀ j, w.frozen? ⟨g, j, none⟩ = false) ∧ (∀ i, i < n → ∃ v0 v1, w.cell? ⟨g, i * 2, none⟩ = some v0 ∧ w.cell? ⟨g, i * 2 + 1, none⟩ = some v1) ∧
  (∀ i, i < k → lo ≤ G i ∧ G i < w.heap.size ∧ G i ≠ g ∧ (∀ j, j < k → j ≠ i → G j ≠ G i) ∧
    ∃ A m c, m ≤ 9223372036854775807 ∧ w.cell? ⟨g, i * 2, none⟩ = some (.int .i64 (blAt ds i).wear) ∧ w.cell? ⟨g, i * 2 + 1, none⟩ = some (.slice A m c) ∧ Sl w A m (G i) (blAt ds i).pages)

section
variable {w w' : World}
theorem Sl.keepB {A : Option Addr} {m q B : Nat} {ps : List Pg} (h : Sl w A m q ps) (hb : Below B w w') (hq : q < B) : Sl w' A m q ps := by
  rcases h with h | ⟨h1, h2⟩
  · exact Or.inl h
  · exact Or.inr ⟨h1, h2.keepB hb hq⟩
theorem Sl.at {A : Option Addr} {m q : Nat} {ps : List Pg} (h : Sl w A m q ps) (hm : m ≤ 9223372036854775807) : PgsAt w A m ps := by
  rcases h with ⟨rfl, rfl⟩ | ⟨rfl, h2⟩
  · exact PgsAt.nil _
  · exact h2.at hm
theorem Sl.setOther {A : Option Addr} {m q : Nat} {ps : List Pg} (h : Sl w A m q ps) {a : Addr} (ha : a.block ≠ q) (v : Value) : Sl (w.setCell a v) A m q ps := by
  rcases h with h | ⟨h1, h2⟩
  · exact Or.inl h
  · exact Or.inr ⟨h1, h2.setOther ha v⟩
theorem DvRow.at {lo g n : Nat} {G : Nat → Nat} {ds : List Bl} (h : DvRow w lo g n n G ds) (hn : n ≤ 9223372036854775807) : DevAt w (some ⟨g, 0, none⟩) n ds :=
  ⟨h.1, hn, fun _ => ⟨g, 0, rfl, fun i hi => by
    obtain ⟨_, _, _, _, A, m, c, hm, h1, h2, h3⟩ := h.2.2.2.2.2 i hi
    exact ⟨A, m, c, by rw [Nat.zero_add]; exact h1, by rw [Nat.zero_add]; exact h2, h3.at hm⟩⟩⟩
theorem DvRow.keepB {lo g n k B : Nat} {G : Nat → Nat} {ds : List Bl} (h : DvRow w lo g n k G ds) (hb : Below B w w') (hg : g < B) (hG : ∀ i, i < k → G i < B) : DvRow w' lo g n k G ds :=
  ⟨h.1, h.2.1, Nat.lt_of_lt_of_le h.2.2.1 hb.size, fun j => (hb.frozen (p := ⟨g, j, none⟩) hg).trans (h.2.2.2.1 j), fun i hi => by
    obtain ⟨v0, v1, h1, h2⟩ := h.2.2.2.2.1 i hi
    exact ⟨v0, v1, (hb.cell (p := ⟨g, _, none⟩) hg).trans h1, (hb.cell (p := ⟨g, _, none⟩) hg).trans h2⟩, fun i hi => by
    obtain ⟨h1, h2, h3, h4, A, m, c, hm, h5, h6, h7⟩ := h.2.2.2.2.2 i hi
    exact ⟨h1, Nat.lt_of_lt_of_le h2 hb.size, h3, h4, A, m, c, hm, (hb.cell (p := ⟨g, _, none⟩) hg).trans h5, (hb.cell (p := ⟨g, _, none⟩) hg).trans h6, h7.keepB hb (hG i hi)⟩⟩
theorem DvRow.keep {lo g n k : Nat} {G : Nat → Nat} {ds : List Bl} (h : DvRow w lo g n k G ds) (hb : Below w.heap.size w w') : DvRow w' lo g n k G ds :=
  h.keepB hb h.2.2.1 fun i hi => (h.2.2.2.2.2 i hi).2.1
theorem DvRow.lower {lo lo' g n k : Nat} {G : Nat → Nat} {ds : List Bl} (h : DvRow w lo g n k G ds) (hl : lo' ≤ lo) : DvRow w lo' g n k G ds :=
  ⟨h.1, Nat.le_trans hl h.2.1, h.2.2.1, h.2.2.2.1, h.2.2.2.2.1, fun i hi => by
    obtain ⟨h1, h2⟩ := h.2.2.2.2.2 i hi
    exact ⟨Nat.le_trans hl h1, h2⟩⟩
/-- a block stored at place k: its two cells -/
def s2 (w : World) (g o : Nat) (x : Int) (A : Option Addr) (m c : Nat) : World := (w.setCell ⟨g, o, none⟩ (.int .i64 x)).setCell ⟨g, o + 1, none⟩ (.slice A m c)
theorem s2_eq (w : World) (g o : Nat) (x : Int) (A : Option Addr) (m c : Nat) : (w.setCell ⟨g, o, none⟩ (.int .i64 x)).setCell ⟨g, o + 1, none⟩ (.slice A m c) = s2 w g o x A m c := rfl
theorem DvRow.set {lo g n k k' p q m c : Nat} {G : Nat → Nat} {ds : List Bl} {A : Option Addr} (h : DvRow w lo g n k G ds) (hp : p < n) (hk : ∀ i, i < k' → i < k ∨ i = p) (x : Bl) (hm : m ≤ 9223372036854775807) (hq : Sl w A m q x.pages) (hlo : lo ≤ q) (hqs : q < w.heap.size) (hqg : q ≠ g) (hqG : ∀ j, j < k → j ≠ p → G j ≠ q) :
    DvRow (s2 w g (p * 2) x.wear A m c) lo g n k' (fun j => if j = p then q else G j) (ds.set p x) := by
  unfold s2
  obtain ⟨u0, u1, hu0, hu1⟩ := h.2.2.2.2.1 p hp
  refine ⟨by simpa using h.1, h.2.1, by rw [World.size_setCell, World.size_setCell]; exact h.2.2.1, fun j => by rw [World.frozen?_setCell, World.frozen?_setCell]; exact h.2.2.2.1 j, fun i hi => ?_, fun i hi => ?_⟩
  · obtain ⟨v0, v1, h1, h2⟩ := h.2.2.2.2.1 i hi
    obtain ⟨v0', h1'⟩ := cell?_setCell_some (p := ⟨g, p * 2, none⟩) (x := .int .i64 x.wear) h1
    obtain ⟨v1', h2'⟩ := cell?_setCell_some (p := ⟨g, p * 2, none⟩) (x := .int .i64 x.wear) h2
    obtain ⟨v0'', h1''⟩ := cell?_setCell_some (p := ⟨g, p * 2 + 1, none⟩) (x := .slice A m c) h1'
    obtain ⟨v1'', h2''⟩ := cell?_setCell_some (p := ⟨g, p * 2 + 1, none⟩) (x := .slice A m c) h2'
    exact ⟨v0'', v1'', h1'', h2''⟩
  rw [World.size_setCell, World.size_setCell, blAt_set ds p i x (by rw [h.1]; exact hp)]
  dsimp only
  by_cases e : i = p
  · subst e
    simp only [↓reduceIte]
    refine ⟨hlo, hqs, hqg, fun j hj hji => by rw [if_neg hji]; exact hqG j ((hk j hj).resolve_right hji) hji, A, m, c, hm, ?_, ?_, ?_⟩
    · rw [World.cell?_setCell_other _ _ _ _ (by simp), World.cell?_setCell_same _ _ _ hu0]
    · rw [World.cell?_setCell_same _ _ _ ((World.cell?_setCell_other _ _ _ _ (by simp)).trans hu1)]
    · exact (hq.setOther (by simpa using fun e => hqg e.symm) _).setOther (by simpa using fun e => hqg e.symm) _
  · rw [if_neg e, if_neg e]
    have hik := (hk i hi).resolve_right e
    obtain ⟨h1, h2, h3, h4, A', m', c', hm', h5, h6, h7⟩ := h.2.2.2.2.2 i hik
    refine ⟨h1, h2, h3, fun j hj hji => ?_, A', m', c', hm', ?_, ?_, ?_⟩
    · by_cases ej : j = p
      · rw [if_pos ej]; exact fun e2 => hqG i hik e e2.symm
      · rw [if_neg ej]; exact h4 j ((hk j hj).resolve_right ej) hji
    · rw [World.cell?_setCell_other _ _ _ _ (by simp <;> omega), World.cell?_setCell_other _ _ _ _ (by simp <;> omega)]; exact h5
    · rw [World.cell?_setCell_other _ _ _ _ (by simp <;> omega), World.cell?_setCell_other _ _ _ _ (by simp <;> omega)]; exact h6
    · exact (h7.setOther (by simpa using fun e => h3 e.symm) _).setOther (by simpa using fun e => h3 e.symm) _
theorem bls_set_self (ds : List Bl) (k : Nat) (hk : k < ds.length) : ds.set k (blAt ds k) = ds := by
  refine bls_ext (by simp) fun i hi => ?_
  rw [blAt_set ds k i _ hk]
  split
  · rename_i e; rw [e]
  · rfl
theorem bel_2s {B g o : Nat} {a : World} (h : Below B a w) (hg : B ≤ g) (x : Int) (A : Option Addr) (m c : Nat) : Below B a (s2 w g o x A m c) :=
  (h.setCell (p := ⟨g, o, none⟩) hg _).setCell (p := ⟨g, o + 1, none⟩) hg _
theorem size_s2 {g o : Nat} {x : Int} {A : Option Addr} {m c : Nat} : (s2 w g o x A m c).heap.size = w.heap.size := by
  unfold s2; simp [World.size_setCell]
end
attribute [irreducible] s2
theorem made2 (n j : Nat) (hj : j < n * 2) : ∃ v, (madeCells #[.int .i64 0, .slice none 0 0] (n * 2))[j]? = some v := by
  simp only [madeCells, Array.getElem?_map]
  rw [Array.getElem?_range, if_pos hj]
  exact ⟨_, rfl⟩
theorem dvrow_made (w : World) (n : Nat) (t : TypeId) (ds : List Bl) (hl : ds.length = n) (G : Nat → Nat) : DvRow (w.alloc (.cells (madeCells #[.int .i64 0, .slice none 0 0] (n * 2)) t)) w.heap.size w.heap.size n 0 G ds := by
  have hc : ∀ j, (w.alloc (.cells (madeCells #[.int .i64 0, .slice none 0 0] (n * 2)) t)).cell? ⟨w.heap.size, j, none⟩ = (madeCells #[.int .i64 0, .slice none 0 0] (n * 2))[j]? := fun j => by simp [go_sem]
  refine ⟨hl, Nat.le_refl _, by simp, frozen_new w _ t, fun i hi => ?_, fun i hi => absurd hi (by omega)⟩
  obtain ⟨v0, h0⟩ := made2 n (i * 2) (by omega)
  obtain ⟨v1, h1⟩ := made2 n (i * 2 + 1) (by omega)
  exact ⟨v0, v1, (hc _).trans h0, (hc _).trans h1⟩
end Go.Proofs.Yteekikaebmkioaa
