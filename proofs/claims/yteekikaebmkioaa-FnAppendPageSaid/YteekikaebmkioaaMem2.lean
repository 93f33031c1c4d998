/- Memory: rows of pages that a call made and may write. No program in sight. -/
import Derived.Test.YteekikaebmkioaaMem
import Derived.Deep.OwnRows
import Derived.Laws.Rows
namespace Go.Proofs.Yteekikaebmkioaa
open Go.RowKit
set_option linter.unusedVariables false

theorem make_row {P : Program} {t e : TypeId} {size bytes : Nat} {z : Value} (ht : P.underlying t = some (.slice e)) (hinfo : (P.info? e).map (fun i => (i.zero, i.size, i.bytes)) = some (some z, size, bytes))
    (n : Nat) (hbytes : bytes * n ≤ 281474976710656) (h63 : n ≤ 9223372036854775807) (w : World) :
    (Instr.makeSlice t (.int .i64 (n : Int)) (.int .i64 (n : Int))).run P w = .ok (.slice (some ⟨w.heap.size, 0, none⟩) n n) (w.alloc (.cells (madeCells z.cells (n * size)) e)) := by
  obtain ⟨i, hi, hzz⟩ := Option.map_eq_some_iff.1 hinfo
  simp only [Prod.mk.injEq] at hzz
  obtain ⟨hz, hs, hb⟩ := hzz
  have hb' : (i.bytes : Int) * (n : Int) ≤ 281474976710656 := by
    have h : ((i.bytes * n : Nat) : Int) ≤ 281474976710656 := by rw [hb]; omega
    rwa [Int.natCast_mul] at h
  have hr := run_make (P := P) w t e i z ht hi hz .i64 .i64 n n (by omega) (Int.le_refl _) hb' (by omega)
  simp only [Int.toNat_natCast, hs] at hr
  exact hr

/-- block g is a row of pages that may be written -/
def PgRow (w : World) (g n : Nat) (ps : List Pg) : Prop :=
  ps.length = n ∧ g < w.heap.size ∧ (∀ i, i < n → C5 w g (i * 5) (pgAt ps i)) ∧ ∀ j, w.frozen? ⟨g, j, none⟩ = false
/-- a page stored at cell o of block g -/
def s5 (w : World) (g o : Nat) (p : Pg) : World :=
  ((((w.setCell ⟨g, o, none⟩ (.bool p.full)).setCell ⟨g, o + 1, none⟩ (.int .i64 p.file)).setCell ⟨g, o + 2, none⟩ (.int .i64 p.place)).setCell ⟨g, o + 3, none⟩ (.int .i64 p.value)).setCell ⟨g, o + 4, none⟩ (.int .i64 p.stamp)

theorem s5_eq (w : World) (g o : Nat) (f : Bool) (fi pl va st : Int) : ((((w.setCell ⟨g, o, none⟩ (.bool f)).setCell ⟨g, o + 1, none⟩ (.int .i64 fi)).setCell ⟨g, o + 2, none⟩ (.int .i64 pl)).setCell ⟨g, o + 3, none⟩ (.int .i64 va)).setCell ⟨g, o + 4, none⟩ (.int .i64 st) = s5 w g o ⟨f, fi, pl, va, st⟩ := rfl

theorem pgAt_set (ps : List Pg) (i j : Nat) (p : Pg) (hi : i < ps.length) : pgAt (ps.set i p) j = if j = i then p else pgAt ps j := by
  simp only [pgAt, List.getD]
  by_cases e : j = i
  · subst e; simp [hi]
  · rw [List.getElem?_set_ne (by omega), if_neg e]
theorem pgs_ext {ps qs : List Pg} (h : ps.length = qs.length) (hx : ∀ i, i < ps.length → pgAt ps i = pgAt qs i) : ps = qs := by
  refine List.ext_getElem h fun i h1 h2 => ?_
  have := hx i h1
  simpa [pgAt, List.getD, h1, h2] using this

section
variable {w w' : World}
theorem PgRow.keep {g n : Nat} {ps : List Pg} (h : PgRow w g n ps) (hb : Below w.heap.size w w') : PgRow w' g n ps :=
  ⟨h.1, Nat.lt_of_lt_of_le h.2.1 hb.size, fun i hi => (h.2.2.1 i hi).keep (stays_below hb), fun j => (hb.frozen (p := ⟨g, j, none⟩) h.2.1).trans (h.2.2.2 j)⟩
/-- .. through a change that leaves the row's own block alone -/
theorem PgRow.keepB {g n B : Nat} {ps : List Pg} (h : PgRow w g n ps) (hb : Below B w w') (hg : g < B) : PgRow w' g n ps :=
  ⟨h.1, Nat.lt_of_lt_of_le h.2.1 hb.size, fun i hi => by
    obtain ⟨h0, h1, h2, h3, h4⟩ := h.2.2.1 i hi
    exact ⟨(hb.cell (p := ⟨g, _, none⟩) hg).trans h0, (hb.cell (p := ⟨g, _, none⟩) hg).trans h1, (hb.cell (p := ⟨g, _, none⟩) hg).trans h2, (hb.cell (p := ⟨g, _, none⟩) hg).trans h3, (hb.cell (p := ⟨g, _, none⟩) hg).trans h4⟩,
    fun j => (hb.frozen (p := ⟨g, j, none⟩) hg).trans (h.2.2.2 j)⟩
theorem PgRow.at {g n : Nat} {ps : List Pg} (h : PgRow w g n ps) (hn : n ≤ 9223372036854775807) : PgsAt w (some ⟨g, 0, none⟩) n ps :=
  ⟨h.1, hn, fun _ => ⟨g, 0, rfl, fun i hi => by rw [Nat.zero_add]; exact h.2.2.1 i hi⟩⟩
theorem cell_s5_other {g o : Nat} {p : Pg} {b q : Nat} (hq : b ≠ g ∨ q < o ∨ o + 5 ≤ q) : (s5 w g o p).cell? ⟨b, q, none⟩ = w.cell? ⟨b, q, none⟩ := by
  unfold s5
  rw [World.cell?_setCell_other _ _ _ _ (by simp; omega), World.cell?_setCell_other _ _ _ _ (by simp; omega), World.cell?_setCell_other _ _ _ _ (by simp; omega), World.cell?_setCell_other _ _ _ _ (by simp; omega), World.cell?_setCell_other _ _ _ _ (by simp; omega)]
theorem C5.s5_same {g o : Nat} {p q : Pg} (h : C5 w g o q) : C5 (s5 w g o p) g o p := by
  obtain ⟨h0, h1, h2, h3, h4⟩ := h
  unfold s5
  refine ⟨?_, ?_, ?_, ?_, ?_⟩
  · rw [World.cell?_setCell_other _ _ _ _ (by simp), World.cell?_setCell_other _ _ _ _ (by simp), World.cell?_setCell_other _ _ _ _ (by simp), World.cell?_setCell_other _ _ _ _ (by simp), World.cell?_setCell_same _ _ _ h0]
  · rw [World.cell?_setCell_other _ _ _ _ (by simp), World.cell?_setCell_other _ _ _ _ (by simp), World.cell?_setCell_other _ _ _ _ (by simp), World.cell?_setCell_same _ _ _ ((World.cell?_setCell_other _ _ _ _ (by simp)).trans h1)]
  · rw [World.cell?_setCell_other _ _ _ _ (by simp), World.cell?_setCell_other _ _ _ _ (by simp), World.cell?_setCell_same _ _ _ ((World.cell?_setCell_other _ _ _ _ (by simp)).trans ((World.cell?_setCell_other _ _ _ _ (by simp)).trans h2))]
  · rw [World.cell?_setCell_other _ _ _ _ (by simp), World.cell?_setCell_same _ _ _ ((World.cell?_setCell_other _ _ _ _ (by simp)).trans ((World.cell?_setCell_other _ _ _ _ (by simp)).trans ((World.cell?_setCell_other _ _ _ _ (by simp)).trans h3)))]
  · rw [World.cell?_setCell_same _ _ _ ((World.cell?_setCell_other _ _ _ _ (by simp)).trans ((World.cell?_setCell_other _ _ _ _ (by simp)).trans ((World.cell?_setCell_other _ _ _ _ (by simp)).trans ((World.cell?_setCell_other _ _ _ _ (by simp)).trans h4))))]
theorem frozen_s5 {g o : Nat} {p : Pg} (a : Addr) : (s5 w g o p).frozen? a = w.frozen? a := by
  unfold s5
  rw [World.frozen?_setCell, World.frozen?_setCell, World.frozen?_setCell, World.frozen?_setCell, World.frozen?_setCell]
theorem size_s5 {g o : Nat} {p : Pg} : (s5 w g o p).heap.size = w.heap.size := by
  unfold s5
  simp [World.size_setCell]
theorem PgRow.set {g n k : Nat} {ps : List Pg} (h : PgRow w g n ps) (hk : k < n) (p : Pg) : PgRow (s5 w g (k * 5) p) g n (ps.set k p) := by
  refine ⟨by simpa using h.1, by rw [size_s5]; exact h.2.1, fun i hi => ?_, fun j => (frozen_s5 _).trans (h.2.2.2 j)⟩
  rw [pgAt_set ps k i p (by rw [h.1]; exact hk)]
  by_cases e : i = k
  · subst e
    rw [if_pos rfl]
    exact (h.2.2.1 i hi).s5_same
  · rw [if_neg e]
    obtain ⟨h0, h1, h2, h3, h4⟩ := h.2.2.1 i hi
    have hd : i * 5 + 5 ≤ k * 5 ∨ k * 5 + 5 ≤ i * 5 := by omega
    exact ⟨(cell_s5_other (by omega)).trans h0, (cell_s5_other (by omega)).trans h1, (cell_s5_other (by omega)).trans h2, (cell_s5_other (by omega)).trans h3, (cell_s5_other (by omega)).trans h4⟩
theorem PgRow.setOther {g n : Nat} {ps : List Pg} (h : PgRow w g n ps) {a : Addr} (ha : a.block ≠ g) (v : Value) : PgRow (w.setCell a v) g n ps := by
  refine ⟨h.1, by rw [World.size_setCell]; exact h.2.1, fun i hi => ?_, fun j => (World.frozen?_setCell _ _ _ _).trans (h.2.2.2 j)⟩
  obtain ⟨h0, h1, h2, h3, h4⟩ := h.2.2.1 i hi
  have e : ∀ q, a ≠ (⟨g, q, none⟩ : Addr) := fun q e => ha (by rw [e])
  exact ⟨(World.cell?_setCell_other _ _ _ _ (e _)).trans h0, (World.cell?_setCell_other _ _ _ _ (e _)).trans h1, (World.cell?_setCell_other _ _ _ _ (e _)).trans h2, (World.cell?_setCell_other _ _ _ _ (e _)).trans h3, (World.cell?_setCell_other _ _ _ _ (e _)).trans h4⟩
theorem bel_5 {B g o : Nat} {a : World} (h : Below B a w) (hg : B ≤ g) (p : Pg) : Below B a (s5 w g o p) :=
  ((((h.setCell (p := ⟨g, o, none⟩) hg _).setCell (p := ⟨g, o + 1, none⟩) hg _).setCell (p := ⟨g, o + 2, none⟩) hg _).setCell (p := ⟨g, o + 3, none⟩) hg _).setCell (p := ⟨g, o + 4, none⟩) hg _
end
attribute [irreducible] s5
theorem frozen_new (w : World) (cs : Array Value) (t : TypeId) (j : Nat) : (w.alloc (.cells cs t)).frozen? ⟨w.heap.size, j, none⟩ = false := by simp [go_sem]
theorem pgrow_made (w : World) (n : Nat) (t : TypeId) : PgRow (w.alloc (.cells (madeCells #[.bool false, .int .i64 0, .int .i64 0, .int .i64 0, .int .i64 0] (n * 5)) t)) w.heap.size n (List.replicate n Pg.zero) := by
  refine ⟨by simp, by simp, fun i hi => ?_, frozen_new w _ t⟩
  have e : pgAt (List.replicate n Pg.zero) i = Pg.zero := by simp [pgAt, List.getD, hi]
  have hc : ∀ j, (w.alloc (.cells (madeCells #[.bool false, .int .i64 0, .int .i64 0, .int .i64 0, .int .i64 0] (n * 5)) t)).cell? ⟨w.heap.size, j, none⟩ = (madeCells #[.bool false, .int .i64 0, .int .i64 0, .int .i64 0, .int .i64 0] (n * 5))[j]? := fun j => by simp [go_sem]
  rw [e]
  refine ⟨?_, ?_, ?_, ?_, ?_⟩ <;> rw [hc] <;> simp only [madeCells, Array.getElem?_map]
  · rw [Array.getElem?_range, if_pos (by omega)]; simp [Pg.zero, Nat.mul_mod_left]
  · rw [Array.getElem?_range, if_pos (by omega)]; simp [Pg.zero, Nat.add_mod, Nat.mul_mod_left]
  · rw [Array.getElem?_range, if_pos (by omega)]; simp [Pg.zero, Nat.add_mod, Nat.mul_mod_left]
  · rw [Array.getElem?_range, if_pos (by omega)]; simp [Pg.zero, Nat.add_mod, Nat.mul_mod_left]
  · rw [Array.getElem?_range, if_pos (by omega)]; simp [Pg.zero, Nat.add_mod, Nat.mul_mod_left]
end Go.Proofs.Yteekikaebmkioaa
