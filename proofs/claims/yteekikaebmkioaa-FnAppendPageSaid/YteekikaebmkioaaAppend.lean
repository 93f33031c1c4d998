/-auto What the program's and the reference's AppendPage return. -/
import Derived.Test.YteekikaebmkioaaAppPlain
import Derived.Test.YteekikaebmkioaaHeads2
import Derived.Deep.DeepCutAuto
namespace Go.Proofs.Yteekikaebmkioaa
open Go.RowKit
set_option linter.unusedVariables false

theorem DvRow.setLow {w : World} {lo g n k : Nat} {G : Nat → Nat} {ds : List Bl} (h : DvRow w lo g n k G ds) {a : Addr} (ha : a.block < lo) (v : Value) : DvRow (w.setCell a v) lo g n k G ds := by
  obtain ⟨h1, h2, h3, h4, h5, h6⟩ := h
  have ne : ∀ b o, lo ≤ b → a ≠ (⟨b, o, none⟩ : Addr) := fun b o hb e => by rw [e] at ha; simp only [] at ha; omega
  refine ⟨h1, h2, by rw [World.size_setCell]; exact h3, fun j => by rw [World.frozen?_setCell]; exact h4 j, fun i hi => ?_, fun i hi => ?_⟩
  · obtain ⟨v0, v1, e0, e1⟩ := h5 i hi
    exact ⟨v0, v1, (World.cell?_setCell_other _ _ _ _ (ne _ _ h2)).trans e0, (World.cell?_setCell_other _ _ _ _ (ne _ _ h2)).trans e1⟩
  · obtain ⟨q1, q2, q3, q4, A, m, c, hm, q5, q6, q7⟩ := h6 i hi
    refine ⟨q1, by rw [World.size_setCell]; exact q2, q3, q4, A, m, c, hm, (World.cell?_setCell_other _ _ _ _ (ne _ _ h2)).trans q5, (World.cell?_setCell_other _ _ _ _ (ne _ _ h2)).trans q6, q7.setOther (by omega) _⟩
theorem DevOut.setLow {w w' : World} {ds : List Bl} {v : Value} (h : DevOut w w' ds v) {a : Addr} (ha : a.block < w.heap.size) (x : Value) : DevOut w (w'.setCell a x) ds v := by
  obtain ⟨A, n, c, e, h⟩ := h
  refine ⟨A, n, c, e, ?_⟩
  rcases h with h | ⟨g, G, e2, hn, hD⟩
  · exact Or.inl h
  · exact Or.inr ⟨g, G, e2, hn, hD.setLow ha x⟩
theorem DevOut.lower {w0 w w' : World} {ds : List Bl} {v : Value} (h : DevOut w w' ds v) (hs : w0.heap.size ≤ w.heap.size) : DevOut w0 w' ds v := by
  obtain ⟨A, n, c, e, h⟩ := h
  refine ⟨A, n, c, e, ?_⟩
  rcases h with h | ⟨g, G, e2, hn, hD⟩
  · exact Or.inl h
  · exact Or.inr ⟨g, G, e2, hn, hD.lower hs⟩
theorem DevOut.keepD {w w' w2 : World} {ds : List Bl} {v : Value} (h : DevOut w w' ds v) (hb : Below w'.heap.size w' w2) : DevOut w w2 ds v := by
  obtain ⟨A, n, c, e, h⟩ := h
  refine ⟨A, n, c, e, ?_⟩
  rcases h with h | ⟨g, G, e2, hn, hD⟩
  · exact Or.inl h
  · exact Or.inr ⟨g, G, e2, hn, hD.keep hb⟩
theorem devout_nil (w w' : World) (A : Option Addr) (c : Nat) : DevOut w w' [] (.slice A 0 c) := ⟨A, 0, c, rfl, Or.inl ⟨rfl, rfl⟩⟩
theorem devout_row {w w' : World} {g n c : Nat} {G : Nat → Nat} {ds : List Bl} (h : DvRow w' w.heap.size g n n G ds) (hn : n ≤ 1048576) : DevOut w w' ds (.slice (some ⟨g, 0, none⟩) n c) := ⟨_, n, c, rfl, Or.inr ⟨g, G, rfl, hn, h⟩⟩
/-- three cells stored -/
def t3 (w : World) (b : Nat) (x y z : Int) : World := ((w.setCell ⟨b, 0, none⟩ (.int .i64 x)).setCell ⟨b, 1, none⟩ (.int .i64 y)).setCell ⟨b, 2, none⟩ (.int .i64 z)
theorem bel_t3 {B b : Nat} {a w : World} (h : Below B a w) (hb : B ≤ b) (x y z : Int) : Below B a (t3 w b x y z) :=
  ((h.setCell (p := ⟨b, 0, none⟩) hb _).setCell (p := ⟨b, 1, none⟩) hb _).setCell (p := ⟨b, 2, none⟩) hb _
theorem out_t3 {w w' : World} {ds : List Bl} {v : Value} (h : DevOut w w' ds v) {b : Nat} (hb : b < w.heap.size) (x y z : Int) : DevOut w (t3 w' b x y z) ds v :=
  ((h.setLow (a := ⟨b, 0, none⟩) hb _).setLow (a := ⟨b, 1, none⟩) hb _).setLow (a := ⟨b, 2, none⟩) hb _
theorem set_0 (m g h k : Int) : setG 0 m g = m ∧ setH 0 m h = h ∧ setK 0 m k = k := by rw [setG, setH, setK]; simp
theorem set_1 (m g h k : Int) : setG 1 m g = g ∧ setH 1 m h = m ∧ setK 1 m k = k := by rw [setG, setH, setK]; simp
theorem set_2 (t m g h k : Int) (h0 : ¬ t = 0) (h1 : ¬ t = 1) : setG t m g = g ∧ setH t m h = h ∧ setK t m k = m := by rw [setG, setH, setK]; simp [h0, h1]

/-- what stands at the join: heads and page in their boxes, the answer's box still empty -/
def AtCut (w wx : World) (g h k fi pl va st : Int) : Prop :=
  Below w.heap.size w wx ∧ w.heap.size + 3 ≤ wx.heap.size ∧ wx.cell? ⟨w.heap.size, 0, none⟩ = some (.int .i64 g) ∧ wx.cell? ⟨w.heap.size, 1, none⟩ = some (.int .i64 h) ∧ wx.cell? ⟨w.heap.size, 2, none⟩ = some (.int .i64 k) ∧
  wx.cell? ⟨w.heap.size + 1, 0, none⟩ = some (.bool true) ∧ wx.cell? ⟨w.heap.size + 1, 1, none⟩ = some (.int .i64 fi) ∧ wx.cell? ⟨w.heap.size + 1, 2, none⟩ = some (.int .i64 pl) ∧ wx.cell? ⟨w.heap.size + 1, 3, none⟩ = some (.int .i64 va) ∧ wx.cell? ⟨w.heap.size + 1, 4, none⟩ = some (.int .i64 st) ∧
  wx.cell? ⟨w.heap.size + 2, 0, none⟩ = some (.int .i64 0) ∧ wx.cell? ⟨w.heap.size + 2, 1, none⟩ = some (.int .i64 0) ∧ wx.cell? ⟨w.heap.size + 2, 2, none⟩ = some (.int .i64 0) ∧
  wx.frozen? ⟨w.heap.size + 2, 0, none⟩ = false ∧ wx.frozen? ⟨w.heap.size + 2, 1, none⟩ = false ∧ wx.frozen? ⟨w.heap.size + 2, 2, none⟩ = false
theorem AtCut.set {w wx : World} {g h k fi pl va st : Int} (H : AtCut w wx g h k fi pl va st) (j : Nat) (x : Int) :
    AtCut w (wx.setCell ⟨w.heap.size, j, none⟩ (.int .i64 x)) (if j = 0 then x else g) (if j = 1 then x else h) (if j = 2 then x else k) fi pl va st := by
  obtain ⟨hb, hs, a0, a1, a2, b0, b1, b2, b3, b4, d0, d1, d2, e0, e1, e2⟩ := H
  have ne : ∀ (b o : Nat), (b ≠ w.heap.size ∨ o ≠ j) → (⟨w.heap.size, j, none⟩ : Addr) ≠ ⟨b, o, none⟩ := fun b o hbo e => by injection e with e1 e2; omega
  have cc : ∀ (o : Nat) (y : Int), wx.cell? ⟨w.heap.size, o, none⟩ = some (.int .i64 y) → (wx.setCell ⟨w.heap.size, j, none⟩ (.int .i64 x)).cell? ⟨w.heap.size, o, none⟩ = some (.int .i64 (if j = o then x else y)) := fun o y hy => by
    by_cases e : j = o
    · subst e; rw [if_pos rfl, World.cell?_setCell_same _ _ _ hy]
    · rw [if_neg e, World.cell?_setCell_other _ _ _ _ (ne _ _ (by omega)), hy]
  have oo : ∀ (b o : Nat) (v : Value), b ≠ w.heap.size → wx.cell? ⟨b, o, none⟩ = some v → (wx.setCell ⟨w.heap.size, j, none⟩ (.int .i64 x)).cell? ⟨b, o, none⟩ = some v := fun b o v hn hv => by
    rw [World.cell?_setCell_other _ _ _ _ (ne _ _ (Or.inl hn)), hv]
  exact ⟨hb.setCell (p := ⟨w.heap.size, j, none⟩) (Nat.le_refl _) _, by rw [World.size_setCell]; exact hs, cc 0 g a0, cc 1 h a1, cc 2 k a2, oo _ _ _ (by omega) b0, oo _ _ _ (by omega) b1, oo _ _ _ (by omega) b2, oo _ _ _ (by omega) b3, oo _ _ _ (by omega) b4,
    oo _ _ _ (by omega) d0, oo _ _ _ (by omega) d1, oo _ _ _ (by omega) d2, by rw [World.frozen?_setCell]; exact e0, by rw [World.frozen?_setCell]; exact e1, by rw [World.frozen?_setCell]; exact e2⟩
section
variable {w wx : World} {g h k fi pl va st : Int} (hb : Below w.heap.size w wx) (a0 : wx.cell? ⟨w.heap.size, 0, none⟩ = some (.int .i64 g)) (a1 : wx.cell? ⟨w.heap.size, 1, none⟩ = some (.int .i64 h)) (a2 : wx.cell? ⟨w.heap.size, 2, none⟩ = some (.int .i64 k))
  (b0 : wx.cell? ⟨w.heap.size + 1, 0, none⟩ = some (.bool true)) (b1 : wx.cell? ⟨w.heap.size + 1, 1, none⟩ = some (.int .i64 fi)) (b2 : wx.cell? ⟨w.heap.size + 1, 2, none⟩ = some (.int .i64 pl)) (b3 : wx.cell? ⟨w.heap.size + 1, 3, none⟩ = some (.int .i64 va)) (b4 : wx.cell? ⟨w.heap.size + 1, 4, none⟩ = some (.int .i64 st))
  (d0 : wx.cell? ⟨w.heap.size + 2, 0, none⟩ = some (.int .i64 0)) (d1 : wx.cell? ⟨w.heap.size + 2, 1, none⟩ = some (.int .i64 0)) (d2 : wx.cell? ⟨w.heap.size + 2, 2, none⟩ = some (.int .i64 0))
  (e0 : wx.frozen? ⟨w.heap.size + 2, 0, none⟩ = false) (e1 : wx.frozen? ⟨w.heap.size + 2, 1, none⟩ = false) (e2 : wx.frozen? ⟨w.heap.size + 2, 2, none⟩ = false) (hs : w.heap.size + 3 ≤ wx.heap.size)
include hb a0 a1 a2 b0 b1 b2 b3 b4 d0 d1 d2 e0 e1 e2 hs
theorem atCutN : AtCut w wx g h k fi pl va st := ⟨hb, hs, a0, a1, a2, b0, b1, b2, b3, b4, d0, d1, d2, e0, e1, e2⟩
theorem atCut0 (x : Int) : AtCut w (wx.setCell ⟨w.heap.size, 0, none⟩ (.int .i64 x)) x h k fi pl va st := (atCutN hb a0 a1 a2 b0 b1 b2 b3 b4 d0 d1 d2 e0 e1 e2 hs).set 0 x
theorem atCut1 (x : Int) : AtCut w (wx.setCell ⟨w.heap.size, 1, none⟩ (.int .i64 x)) g x k fi pl va st := (atCutN hb a0 a1 a2 b0 b1 b2 b3 b4 d0 d1 d2 e0 e1 e2 hs).set 1 x
theorem atCut2 (x : Int) : AtCut w (wx.setCell ⟨w.heap.size, 2, none⟩ (.int .i64 x)) g h x fi pl va st := (atCutN hb a0 a1 a2 b0 b1 b2 b3 b4 d0 d1 d2 e0 e1 e2 hs).set 2 x
theorem atCut (x y z : Int) : AtCut w (t3 wx w.heap.size x y z) x y z fi pl va st := (((atCutN hb a0 a1 a2 b0 b1 b2 b3 b4 d0 d1 d2 e0 e1 e2 hs).set 0 x).set 1 y).set 2 z
end
theorem below_drew {w w' : World} (h : Below w.drew.heap.size w.drew w') : Below w.heap.size w w' := ⟨h.os, h.tape, h.output, h.size, h.block⟩

set_option maxHeartbeats 400000 in
theorem l6Set_any (g h k t m : Int) (w : World) :
    Calls Try.prog 73 #[.agg #[.int .i64 g, .int .i64 h, .int .i64 k], .int .i64 t, .int .i64 m] w fun e w' => e = .returned (.agg #[.int .i64 (setG t m g), .int .i64 (setH t m h), .int .i64 (setK t m k)]) ∧ Below w.heap.size w w' := by
  by_cases h0 : t = 0
  · subst h0
    obtain ⟨e0, e1, e2⟩ := set_0 m g h k
    rw [e0, e1, e2]
    clear e0 e1 e2
    go_enter Try.func73, Try.ntmps73
    go_wp2
    refine bodyPost_ret (v := .agg #[.int .i64 m, .int .i64 h, .int .i64 k]) (by simp [results, Try.results73, go_sem]) rfl ⟨rfl, ?_⟩
    exact bel_2 _ _ _
  · by_cases h1 : t = 1
    · subst h1
      obtain ⟨e0, e1, e2⟩ := set_1 m g h k
      rw [e0, e1, e2]
      clear e0 e1 e2 h0
      go_enter Try.func73, Try.ntmps73
      go_wp2
      refine bodyPost_ret (v := .agg #[.int .i64 g, .int .i64 m, .int .i64 k]) (by simp [results, Try.results73, go_sem]) rfl ⟨rfl, ?_⟩
      exact bel_2 _ _ _
    · obtain ⟨e0, e1, e2⟩ := set_2 t m g h k h0 h1
      rw [e0, e1, e2]
      clear e0 e1 e2
      have q0 : (t == 0) = false := by simpa using h0
      have q1 : (t == 1) = false := by simpa using h1
      go_enter Try.func73, Try.ntmps73
      go_wp2
      refine bodyPost_ret (v := .agg #[.int .i64 g, .int .i64 h, .int .i64 m]) (by simp [results, Try.results73, go_sem]) rfl ⟨rfl, ?_⟩
      exact bel_2 _ _ _

set_option maxRecDepth 100000 in
set_option maxHeartbeats 4000000 in
theorem iAppendPage (A : Option Addr) (n c : Nat) (ds : List Bl) (g h k t : Int) (f : Bool) (fi pl va st : Int) (w : World) (hd : DevAt w A n ds) :
    Calls Try.prog 53 #[.slice A n c, .agg #[.int .i64 g, .int .i64 h, .int .i64 k], .int .i64 t, .agg #[.bool f, .int .i64 fi, .int .i64 pl, .int .i64 va, .int .i64 st]] w fun e w' => ∃ v, e = .returned (.tuple #[v, .agg #[.int .i64 (appendF ds g h k t ⟨f, fi, pl, va, st⟩).g, .int .i64 (appendF ds g h k t ⟨f, fi, pl, va, st⟩).h, .int .i64 (appendF ds g h k t ⟨f, fi, pl, va, st⟩).k], .int .i64 (appendF ds g h k t ⟨f, fi, pl, va, st⟩).at_]) ∧ DevOut w w' (appendF ds g h k t ⟨f, fi, pl, va, st⟩).ds v ∧ Below w.heap.size w w' := by
  have HP := Lib.hid hd
  have hm := hd.2.1
  have HL := Lib.hid hd.1
  clear hd
  go_enter Try.func53, Try.ntmps53
  go_wp2_with fail
  have HB0 := Lib.hid (bel_3 w (.cells #[.int .i64 g, .int .i64 h, .int .i64 k] 54) (.cells #[.bool f, .int .i64 fi, .int .i64 pl, .int .i64 va, .int .i64 st] 32) (.cells #[.int .i64 0, .int .i64 0, .int .i64 0] 54))
  have h0 : (((w.alloc (.cells #[.int .i64 g, .int .i64 h, .int .i64 k] 54)).alloc (.cells #[.bool f, .int .i64 fi, .int .i64 pl, .int .i64 va, .int .i64 st] 32)).alloc (.cells #[.int .i64 0, .int .i64 0, .int .i64 0] 54)).cell? ⟨w.heap.size, 0, none⟩ = some (.int .i64 g) := by simp [go_sem]
  have h1 : (((w.alloc (.cells #[.int .i64 g, .int .i64 h, .int .i64 k] 54)).alloc (.cells #[.bool f, .int .i64 fi, .int .i64 pl, .int .i64 va, .int .i64 st] 32)).alloc (.cells #[.int .i64 0, .int .i64 0, .int .i64 0] 54)).cell? ⟨w.heap.size, 1, none⟩ = some (.int .i64 h) := by simp [go_sem]
  have h2 : (((w.alloc (.cells #[.int .i64 g, .int .i64 h, .int .i64 k] 54)).alloc (.cells #[.bool f, .int .i64 fi, .int .i64 pl, .int .i64 va, .int .i64 st] 32)).alloc (.cells #[.int .i64 0, .int .i64 0, .int .i64 0] 54)).cell? ⟨w.heap.size, 2, none⟩ = some (.int .i64 k) := by simp [go_sem]
  have u0 : (((w.alloc (.cells #[.int .i64 g, .int .i64 h, .int .i64 k] 54)).alloc (.cells #[.bool f, .int .i64 fi, .int .i64 pl, .int .i64 va, .int .i64 st] 32)).alloc (.cells #[.int .i64 0, .int .i64 0, .int .i64 0] 54)).frozen? ⟨w.heap.size, 0, none⟩ = false := by simp [go_sem]
  have u1 : (((w.alloc (.cells #[.int .i64 g, .int .i64 h, .int .i64 k] 54)).alloc (.cells #[.bool f, .int .i64 fi, .int .i64 pl, .int .i64 va, .int .i64 st] 32)).alloc (.cells #[.int .i64 0, .int .i64 0, .int .i64 0] 54)).frozen? ⟨w.heap.size, 1, none⟩ = false := by simp [go_sem]
  have u2 : (((w.alloc (.cells #[.int .i64 g, .int .i64 h, .int .i64 k] 54)).alloc (.cells #[.bool f, .int .i64 fi, .int .i64 pl, .int .i64 va, .int .i64 st] 32)).alloc (.cells #[.int .i64 0, .int .i64 0, .int .i64 0] 54)).frozen? ⟨w.heap.size, 2, none⟩ = false := by simp [go_sem]
  have p0 : (((w.alloc (.cells #[.int .i64 g, .int .i64 h, .int .i64 k] 54)).alloc (.cells #[.bool f, .int .i64 fi, .int .i64 pl, .int .i64 va, .int .i64 st] 32)).alloc (.cells #[.int .i64 0, .int .i64 0, .int .i64 0] 54)).cell? ⟨w.heap.size + 1, 0, none⟩ = some (.bool f) := by simp [go_sem]
  have p1 : (((w.alloc (.cells #[.int .i64 g, .int .i64 h, .int .i64 k] 54)).alloc (.cells #[.bool f, .int .i64 fi, .int .i64 pl, .int .i64 va, .int .i64 st] 32)).alloc (.cells #[.int .i64 0, .int .i64 0, .int .i64 0] 54)).cell? ⟨w.heap.size + 1, 1, none⟩ = some (.int .i64 fi) := by simp [go_sem]
  have p2 : (((w.alloc (.cells #[.int .i64 g, .int .i64 h, .int .i64 k] 54)).alloc (.cells #[.bool f, .int .i64 fi, .int .i64 pl, .int .i64 va, .int .i64 st] 32)).alloc (.cells #[.int .i64 0, .int .i64 0, .int .i64 0] 54)).cell? ⟨w.heap.size + 1, 2, none⟩ = some (.int .i64 pl) := by simp [go_sem]
  have p3 : (((w.alloc (.cells #[.int .i64 g, .int .i64 h, .int .i64 k] 54)).alloc (.cells #[.bool f, .int .i64 fi, .int .i64 pl, .int .i64 va, .int .i64 st] 32)).alloc (.cells #[.int .i64 0, .int .i64 0, .int .i64 0] 54)).cell? ⟨w.heap.size + 1, 3, none⟩ = some (.int .i64 va) := by simp [go_sem]
  have p4 : (((w.alloc (.cells #[.int .i64 g, .int .i64 h, .int .i64 k] 54)).alloc (.cells #[.bool f, .int .i64 fi, .int .i64 pl, .int .i64 va, .int .i64 st] 32)).alloc (.cells #[.int .i64 0, .int .i64 0, .int .i64 0] 54)).cell? ⟨w.heap.size + 1, 4, none⟩ = some (.int .i64 st) := by simp [go_sem]
  have r0 : (((w.alloc (.cells #[.int .i64 g, .int .i64 h, .int .i64 k] 54)).alloc (.cells #[.bool f, .int .i64 fi, .int .i64 pl, .int .i64 va, .int .i64 st] 32)).alloc (.cells #[.int .i64 0, .int .i64 0, .int .i64 0] 54)).cell? ⟨w.heap.size + 2, 0, none⟩ = some (.int .i64 0) := by simp [go_sem]
  have r1 : (((w.alloc (.cells #[.int .i64 g, .int .i64 h, .int .i64 k] 54)).alloc (.cells #[.bool f, .int .i64 fi, .int .i64 pl, .int .i64 va, .int .i64 st] 32)).alloc (.cells #[.int .i64 0, .int .i64 0, .int .i64 0] 54)).cell? ⟨w.heap.size + 2, 1, none⟩ = some (.int .i64 0) := by simp [go_sem]
  have r2 : (((w.alloc (.cells #[.int .i64 g, .int .i64 h, .int .i64 k] 54)).alloc (.cells #[.bool f, .int .i64 fi, .int .i64 pl, .int .i64 va, .int .i64 st] 32)).alloc (.cells #[.int .i64 0, .int .i64 0, .int .i64 0] 54)).cell? ⟨w.heap.size + 2, 2, none⟩ = some (.int .i64 0) := by simp [go_sem]
  have f0 : (((w.alloc (.cells #[.int .i64 g, .int .i64 h, .int .i64 k] 54)).alloc (.cells #[.bool f, .int .i64 fi, .int .i64 pl, .int .i64 va, .int .i64 st] 32)).alloc (.cells #[.int .i64 0, .int .i64 0, .int .i64 0] 54)).frozen? ⟨w.heap.size + 2, 0, none⟩ = false := by simp [go_sem]
  have f1 : (((w.alloc (.cells #[.int .i64 g, .int .i64 h, .int .i64 k] 54)).alloc (.cells #[.bool f, .int .i64 fi, .int .i64 pl, .int .i64 va, .int .i64 st] 32)).alloc (.cells #[.int .i64 0, .int .i64 0, .int .i64 0] 54)).frozen? ⟨w.heap.size + 2, 1, none⟩ = false := by simp [go_sem]
  have f2 : (((w.alloc (.cells #[.int .i64 g, .int .i64 h, .int .i64 k] 54)).alloc (.cells #[.bool f, .int .i64 fi, .int .i64 pl, .int .i64 va, .int .i64 st] 32)).alloc (.cells #[.int .i64 0, .int .i64 0, .int .i64 0] 54)).frozen? ⟨w.heap.size + 2, 2, none⟩ = false := by simp [go_sem]
  have hs0 : w.heap.size + 3 ≤ (((w.alloc (.cells #[.int .i64 g, .int .i64 h, .int .i64 k] 54)).alloc (.cells #[.bool f, .int .i64 fi, .int .i64 pl, .int .i64 va, .int .i64 st] 32)).alloc (.cells #[.int .i64 0, .int .i64 0, .int .i64 0] 54)).heap.size := by simp
  generalize (((w.alloc (.cells #[.int .i64 g, .int .i64 h, .int .i64 k] 54)).alloc (.cells #[.bool f, .int .i64 fi, .int .i64 pl, .int .i64 va, .int .i64 st] 32)).alloc (.cells #[.int .i64 0, .int .i64 0, .int .i64 0] 54)) = w0 at *
  refine (iHeadsValid _ _ _ ds _ _ _ _ (HP.out.keep HB0.out)).mono ?_
  rintro e w1 ⟨rfl, hb1⟩
  have HB1 := Lib.hid (bel_t HB0.out hb1)
  replace h0 := stays_below hb1 _ _ _ h0
  replace h1 := stays_below hb1 _ _ _ h1
  replace h2 := stays_below hb1 _ _ _ h2
  replace p0 := stays_below hb1 _ _ _ p0
  replace p1 := stays_below hb1 _ _ _ p1
  replace p2 := stays_below hb1 _ _ _ p2
  replace p3 := stays_below hb1 _ _ _ p3
  replace p4 := stays_below hb1 _ _ _ p4
  replace r0 := stays_below hb1 _ _ _ r0
  replace r1 := stays_below hb1 _ _ _ r1
  replace r2 := stays_below hb1 _ _ _ r2
  replace f0 := ((bcell hb1).2 _ _ (by omega)).trans f0
  replace f1 := ((bcell hb1).2 _ _ (by omega)).trans f1
  replace f2 := ((bcell hb1).2 _ _ (by omega)).trans f2
  replace u0 := ((bcell hb1).2 _ _ (by omega)).trans u0
  replace u1 := ((bcell hb1).2 _ _ (by omega)).trans u1
  replace u2 := ((bcell hb1).2 _ _ (by omega)).trans u2
  have hs1 : w.heap.size + 3 ≤ w1.heap.size := by have := (hb1).size; omega
  clear hb1
  have zr1 : w.heap.size + 2 < w1.heap.size := by omega
  have zx1 : ¬ w1.heap.size = w.heap.size + 2 := by omega
  cases hv : headsValidF ds g h k
  · skip
    have HF := Lib.hid (ap_1 ds g h k t ⟨f, fi, pl, va, st⟩ hv)
    clear HP
    go_wp2
    refine bodyPost_ret (v := .tuple #[.slice none 0 0, .agg #[.int .i64 0, .int .i64 0, .int .i64 0], .int .i64 (-1)]) (by simp [results, Try.results53, go_sem, r0, r1, r2]) rfl ⟨_, by rw [HF.out], ?_, ?_⟩
    · rw [HF.out]; exact devout_nil _ _ _ _
    · exact bel_t3 (b := w.heap.size + 2) HB1.out (by omega) 0 0 0
  · have HV := Lib.hid hv
    clear hv
    by_cases ht : 0 ≤ t ∧ t ≤ 2
    · have ht0 := ht.1
      have ht2 := ht.2
      have HT := Lib.hid ht
      clear ht
      go_wp2_with fail
      refine (iPageValid _ _ _ _ _ _).mono ?_
      rintro e w2 ⟨rfl, hb2⟩
      have HB2 := Lib.hid (bel_t HB1.out hb2)
      replace h0 := stays_below hb2 _ _ _ h0
      replace h1 := stays_below hb2 _ _ _ h1
      replace h2 := stays_below hb2 _ _ _ h2
      replace p0 := stays_below hb2 _ _ _ p0
      replace p1 := stays_below hb2 _ _ _ p1
      replace p2 := stays_below hb2 _ _ _ p2
      replace p3 := stays_below hb2 _ _ _ p3
      replace p4 := stays_below hb2 _ _ _ p4
      replace r0 := stays_below hb2 _ _ _ r0
      replace r1 := stays_below hb2 _ _ _ r1
      replace r2 := stays_below hb2 _ _ _ r2
      replace f0 := ((bcell hb2).2 _ _ (by omega)).trans f0
      replace f1 := ((bcell hb2).2 _ _ (by omega)).trans f1
      replace f2 := ((bcell hb2).2 _ _ (by omega)).trans f2
      replace u0 := ((bcell hb2).2 _ _ (by omega)).trans u0
      replace u1 := ((bcell hb2).2 _ _ (by omega)).trans u1
      replace u2 := ((bcell hb2).2 _ _ (by omega)).trans u2
      have hs2 : w.heap.size + 3 ≤ w2.heap.size := by have := (hb2).size; omega
      clear hb2
      have zr2 : w.heap.size + 2 < w2.heap.size := by omega
      have zx2 : ¬ w2.heap.size = w.heap.size + 2 := by omega
      cases hpv : pageValidF ⟨f, fi, pl, va, st⟩
      · skip
        have HF := Lib.hid (ap_3 ds g h k t ⟨f, fi, pl, va, st⟩ hpv)
        clear HP
        go_wp2
        refine bodyPost_ret (v := .tuple #[.slice none 0 0, .agg #[.int .i64 0, .int .i64 0, .int .i64 0], .int .i64 (-1)]) (by simp [results, Try.results53, go_sem, r0, r1, r2]) rfl ⟨_, by rw [HF.out], ?_, ?_⟩
        · rw [HF.out]; exact devout_nil _ _ _ _
        · exact bel_t3 (b := w.heap.size + 2) HB2.out (by omega) 0 0 0
      · have HPV := Lib.hid hpv
        clear hpv
        cases f
        · skip
          have HF := Lib.hid (ap_4 ds g h k t ⟨false, fi, pl, va, st⟩ rfl)
          clear HP
          go_wp2
          refine bodyPost_ret (v := .tuple #[.slice none 0 0, .agg #[.int .i64 0, .int .i64 0, .int .i64 0], .int .i64 (-1)]) (by simp [results, Try.results53, go_sem, r0, r1, r2]) rfl ⟨_, by rw [HF.out], ?_, ?_⟩
          · rw [HF.out]; exact devout_nil _ _ _ _
          · exact bel_t3 (b := w.heap.size + 2) HB2.out (by omega) 0 0 0
        · have hob := ho_b ds n g h k t HL.out HV.out
          have hn12 := dv_len ds n HL.out (hv_in ds n g h k HL.out HV.out).1
          go_wp2_with fail
          refine (iHeadOf _ _ _ ds _ _ _ _ _ (HP.out.keep HB2.out)).mono ?_
          rintro e w3 ⟨rfl, hb3⟩
          have HB3 := Lib.hid (bel_t HB2.out hb3)
          replace h0 := stays_below hb3 _ _ _ h0
          replace h1 := stays_below hb3 _ _ _ h1
          replace h2 := stays_below hb3 _ _ _ h2
          replace p0 := stays_below hb3 _ _ _ p0
          replace p1 := stays_below hb3 _ _ _ p1
          replace p2 := stays_below hb3 _ _ _ p2
          replace p3 := stays_below hb3 _ _ _ p3
          replace p4 := stays_below hb3 _ _ _ p4
          replace r0 := stays_below hb3 _ _ _ r0
          replace r1 := stays_below hb3 _ _ _ r1
          replace r2 := stays_below hb3 _ _ _ r2
          replace f0 := ((bcell hb3).2 _ _ (by omega)).trans f0
          replace f1 := ((bcell hb3).2 _ _ (by omega)).trans f1
          replace f2 := ((bcell hb3).2 _ _ (by omega)).trans f2
          replace u0 := ((bcell hb3).2 _ _ (by omega)).trans u0
          replace u1 := ((bcell hb3).2 _ _ (by omega)).trans u1
          replace u2 := ((bcell hb3).2 _ _ (by omega)).trans u2
          have hs3 : w.heap.size + 3 ≤ w3.heap.size := by have := (hb3).size; omega
          clear hb3
          obtain ⟨x, HX⟩ : ∃ x, Hid (headOfF ds g h k t = x) := ⟨_, rfl⟩
          rw [HX.out] at hob ⊢
          obtain ⟨hx1, hx2⟩ := hob
          go_upto_region 4 with fail
          go_cut [50] (fun x50 wx => ∃ c : Bool, x50 = .bool c ∧ Hid (c = true ↔ (x < 0 ∨ blockNextF (blAt ds x.toNat) < 0)) ∧ AtCut w wx g h k fi pl va st ∧ ∀ j, j < 3 → wx.frozen? ⟨w.heap.size, j, none⟩ = false)
          case first =>
            by_cases hx0 : x < 0
            · go_wp2_with fail
              go_meet
              exact ⟨_, rfl, Lib.hid (Iff.intro (fun _ => Or.inl hx0) (fun _ => rfl)), atCutN HB3.out h0 h1 h2 p0 p1 p2 p3 p4 r0 r1 r2 f0 f1 f2 hs3, fun j hj => by match j, hj with | 0, _ => exact u0 | 1, _ => exact u1 | 2, _ => exact u2⟩
            · obtain ⟨j, rfl⟩ : ∃ j : Nat, x = (j : Int) := ⟨x.toNat, by omega⟩
              have hj : j < n := by omega
              have hjI : (j : Int) < (n : Int) := by omega
              obtain ⟨b, o, rfl, hC⟩ := HP.out.2.2 (by omega)
              obtain ⟨A', m', c', c0, c1, hps⟩ := (hC j hj).keepS (stays_below HB3.out)
              have HQ := Lib.hid hps
              clear hC hps
              rcases hp : blAt ds j with ⟨z, ps⟩
              rw [hp] at c0 HQ
              simp only [] at c0 HQ
              have HE := Lib.hid hp
              clear hp
              go_wp2_with fail
              refine (iBlockNext _ _ _ _ ps _ HQ.out).mono ?_
              obtain ⟨nx, HNX⟩ : ∃ v, Hid (blockNextF ⟨z, ps⟩ = v) := ⟨_, rfl⟩
              rw [HNX.out]
              rintro e w4 ⟨rfl, hb4⟩
              have HB4 := Lib.hid (bel_t HB3.out hb4)
              replace h0 := stays_below hb4 _ _ _ h0
              replace h1 := stays_below hb4 _ _ _ h1
              replace h2 := stays_below hb4 _ _ _ h2
              replace p0 := stays_below hb4 _ _ _ p0
              replace p1 := stays_below hb4 _ _ _ p1
              replace p2 := stays_below hb4 _ _ _ p2
              replace p3 := stays_below hb4 _ _ _ p3
              replace p4 := stays_below hb4 _ _ _ p4
              replace r0 := stays_below hb4 _ _ _ r0
              replace r1 := stays_below hb4 _ _ _ r1
              replace r2 := stays_below hb4 _ _ _ r2
              replace f0 := ((bcell hb4).2 _ _ (by omega)).trans f0
              replace f1 := ((bcell hb4).2 _ _ (by omega)).trans f1
              replace f2 := ((bcell hb4).2 _ _ (by omega)).trans f2
              replace u0 := ((bcell hb4).2 _ _ (by omega)).trans u0
              replace u1 := ((bcell hb4).2 _ _ (by omega)).trans u1
              replace u2 := ((bcell hb4).2 _ _ (by omega)).trans u2
              have hs4 : w.heap.size + 3 ≤ w4.heap.size := by have := (hb4).size; omega
              clear hb4 c0 c1 HQ
              have HBX : Hid (blockNextF (blAt ds ((j : Int)).toNat) = nx) := Lib.hid (by rw [Int.toNat_natCast, HE.out]; exact HNX.out)
              go_wp2_with fail
              go_meet
              exact ⟨_, rfl, Lib.hid (Iff.intro (fun h => Or.inr (by rw [HBX.out]; simpa using h)) (fun h => by rw [HBX.out] at h; rcases h with h | h; exact absurd h (by omega); simpa using h)), atCutN HB4.out h0 h1 h2 p0 p1 p2 p3 p4 r0 r1 r2 f0 f1 f2 hs4, fun j hj => by match j, hj with | 0, _ => exact u0 | 1, _ => exact u1 | 2, _ => exact u2⟩
          case rest =>
            obtain ⟨c1, rfl, HCC, hcb, hu⟩ := hcut
            obtain ⟨w4, rfl⟩ : ∃ x, x = wc := ⟨_, rfl⟩
            clear h0 h1 h2 p0 p1 p2 p3 p4 r0 r1 r2 f0 f1 f2 u0 u1 u2
            obtain ⟨HB4, hs4, h0, h1, h2, p0, p1, p2, p3, p4, r0, r1, r2, f0, f1, f2⟩ := hcb
            replace HB4 := Lib.hid HB4
            have u0 := hu 0 (by omega)
            have u1 := hu 1 (by omega)
            have u2 := hu 2 (by omega)
            clear hu
            go_upto_if 50 with fail
            go_cut [11] (fun x11 wx => ∃ m g' h' k' : Int, x11 = .int .i64 m ∧ Hid (appendF ds g h k t ⟨true, fi, pl, va, st⟩ = appPut ds m g' h' k' ⟨true, fi, pl, va, st⟩) ∧ AtCut w wx g' h' k' fi pl va st)
            case first =>
              cases c1
              · have HF := Lib.hid (ap_7 ds g h k t ⟨true, fi, pl, va, st⟩ HV.out HT.out HPV.out rfl x HX.out (fun hc => absurd (HCC.out.2 hc) (by simp)))
                go_wp2_with fail
                go_meet
                exact ⟨_, _, _, _, rfl, HF, atCutN HB4.out h0 h1 h2 p0 p1 p2 p3 p4 r0 r1 r2 f0 f1 f2 hs4⟩
              · have HC : Hid (x < 0 ∨ blockNextF (blAt ds x.toNat) < 0) := Lib.hid (HCC.out.1 rfl)
                go_wp2_with fail
                refine (iFreshBlock _ _ _ ds _ _ _ _ (HP.out.keep HB4.out)).mono ?_
                obtain ⟨m, HM⟩ : ∃ m, Hid (freshBlockF ds g h k = m) := ⟨_, rfl⟩
                rw [HM.out]
                rintro e w5 ⟨rfl, hb5⟩
                have HB5 := Lib.hid (bel_t HB4.out hb5)
                replace h0 := stays_below hb5 _ _ _ h0
                replace h1 := stays_below hb5 _ _ _ h1
                replace h2 := stays_below hb5 _ _ _ h2
                replace p0 := stays_below hb5 _ _ _ p0
                replace p1 := stays_below hb5 _ _ _ p1
                replace p2 := stays_below hb5 _ _ _ p2
                replace p3 := stays_below hb5 _ _ _ p3
                replace p4 := stays_below hb5 _ _ _ p4
                replace r0 := stays_below hb5 _ _ _ r0
                replace r1 := stays_below hb5 _ _ _ r1
                replace r2 := stays_below hb5 _ _ _ r2
                replace f0 := ((bcell hb5).2 _ _ (by omega)).trans f0
                replace f1 := ((bcell hb5).2 _ _ (by omega)).trans f1
                replace f2 := ((bcell hb5).2 _ _ (by omega)).trans f2
                replace u0 := ((bcell hb5).2 _ _ (by omega)).trans u0
                replace u1 := ((bcell hb5).2 _ _ (by omega)).trans u1
                replace u2 := ((bcell hb5).2 _ _ (by omega)).trans u2
                have hs5 : w.heap.size + 3 ≤ w5.heap.size := by have := (hb5).size; omega
                clear hb5
                by_cases hm0 : m < 0
                · have HF := Lib.hid (ap_5 ds g h k t ⟨true, fi, pl, va, st⟩ HV.out HT.out HPV.out rfl x HX.out HC.out m HM.out hm0)
                  go_wp2_with fail
                  refine reg_beginB (B := w.heap.size + 2) (by kernel_rfl) (fun hHeld => ?_)
                  refine reg_take 0 56 (v := ?_) rfl rfl (by kernel_rfl) (by kernel_rfl) (by kernel_rfl) (fun _ _ _ h => h) (Or.inl ⟨by rfl, ?_⟩) hHeld ?_
                  rotate_left 1
                  · intro wS hSw; go_simp <;> with_reducible rfl
                  simp only [put_lit, List.set_cons_zero, List.set_cons_succ]
                  refine reg_take 2 58 (v := ?_) rfl rfl (by kernel_rfl) (by kernel_rfl) (by kernel_rfl) (fun _ _ _ h => h) (Or.inl ⟨by rfl, ?_⟩) hHeld ?_
                  rotate_left 1
                  · intro wS hSw; have hqS := bcellB hSw; go_simp <;> with_reducible rfl
                  simp only [put_lit, List.set_cons_zero, List.set_cons_succ]
                  refine wpAnyH_ready (rs := [1]) (by kernel_rfl) (by simp) ?_
                  refine AllReadyH.cons rfl (fun K hK => ?_) AllReadyH.nil
                  go_simp
                  refine (iCloneDev _ _ _ ds _ (HP.out.keep (HB5.out.trans (hHeld.mono (by omega)))) (hv_in ds n g h k HL.out HV.out).1).mono ?_
                  rintro e wc1 ⟨g5, G5, c5, rfl, hD5, hbc1⟩
                  have HD5 := Lib.hid hD5
                  clear hD5
                  have HBN := Lib.hid (bel_t HB5.out (below_drew hbc1))
                  replace r0 := stays_below (below_drew hbc1) _ _ _ r0
                  replace r1 := stays_below (below_drew hbc1) _ _ _ r1
                  replace r2 := stays_below (below_drew hbc1) _ _ _ r2
                  replace f0 := ((bcell (below_drew hbc1)).2 _ _ (by omega)).trans f0
                  replace f1 := ((bcell (below_drew hbc1)).2 _ _ (by omega)).trans f1
                  replace f2 := ((bcell (below_drew hbc1)).2 _ _ (by omega)).trans f2
                  go_wp2_with fail
                  refine hK.out _ _ ?_ (fun hHeld => ?_)
                  · exact reg_call hHeld hbc1 (by omega)
                  clear hK K
                  (try simp only [put_lit, List.set_cons_zero, List.set_cons_succ])
                  refine reg_take 3 8 (v := ?_) rfl rfl (by kernel_rfl) (by kernel_rfl) (by kernel_rfl) (fun _ _ _ h => h) (Or.inl ⟨by rfl, ?_⟩) hHeld ?_
                  rotate_left 1
                  · intro wS hSw; go_simp <;> with_reducible rfl
                  simp only [put_lit, List.set_cons_zero, List.set_cons_succ]
                  refine wpAnyH_ready (rs := [4]) (by kernel_rfl) (by simp) ?_
                  refine AllReadyH.cons rfl (fun K hK => ?_) AllReadyH.nil
                  go_simp
                  refine hK.out _ _ ?_ (fun hHeld => ?_)
                  · exact bel_t3 hHeld (Nat.le_refl _) g h k
                  clear hK K
                  (try simp only [put_lit, List.set_cons_zero, List.set_cons_succ])
                  refine reg_take 5 10 (v := ?_) rfl rfl (by kernel_rfl) (by kernel_rfl) (by kernel_rfl) (fun _ _ _ h => h) (Or.inl ⟨by rfl, ?_⟩) hHeld ?_
                  rotate_left 1
                  · intro wS hSw; go_simp <;> with_reducible rfl
                  simp only [put_lit, List.set_cons_zero, List.set_cons_succ]
                  refine wpAnyH_done (by kernel_rfl) ?_ _
                  go_wp2
                  refine bodyPost_ret (v := .tuple #[.slice (some ⟨g5, 0, none⟩) n c5, .agg #[.int .i64 g, .int .i64 h, .int .i64 k], .int .i64 (-1)]) (by simp [results, Try.results53, go_sem, r0, r1, r2]) rfl ⟨_, by rw [HF.out], ?_, ?_⟩
                  · rw [HF.out]; exact (out_t3 (devout_row (w := w5) HD5.out (by omega)) (b := w.heap.size + 2) (by omega) g h k).lower HB5.out.size
                  · first | exact bel_t3 (b := w.heap.size + 2) HBN.out (by omega) g h k | exact Below.drew (bel_t3 (b := w.heap.size + 2) HBN.out (by omega) g h k)
                · have HF := Lib.hid (ap_6 ds g h k t ⟨true, fi, pl, va, st⟩ HV.out HT.out HPV.out rfl x HX.out HC.out m HM.out hm0)
                  have h3 : t = 0 ∨ t = 1 ∨ (¬ t = 0 ∧ ¬ t = 1) := by omega
                  rcases h3 with rfl | rfl | ⟨ht3, ht4⟩
                  · skip
                    obtain ⟨e0, e1, e2⟩ := set_0 m g h k
                    have HF2 := HF.out
                    rw [e0, e1, e2] at HF2
                    clear e0 e1 e2
                    have HF3 := Lib.hid HF2
                    clear HF2
                    go_wp2_with fail
                    go_meet
                    exact ⟨m, _, _, _, rfl, HF3, atCut0 HB5.out h0 h1 h2 p0 p1 p2 p3 p4 r0 r1 r2 f0 f1 f2 hs5 _⟩
                  · skip
                    obtain ⟨e0, e1, e2⟩ := set_1 m g h k
                    have HF2 := HF.out
                    rw [e0, e1, e2] at HF2
                    clear e0 e1 e2
                    have HF3 := Lib.hid HF2
                    clear HF2
                    go_wp2_with fail
                    go_meet
                    exact ⟨m, _, _, _, rfl, HF3, atCut1 HB5.out h0 h1 h2 p0 p1 p2 p3 p4 r0 r1 r2 f0 f1 f2 hs5 _⟩
                  · skip
                    have q0 : (t == 0) = false := by simpa using ht3
                    have q1 : (t == 1) = false := by simpa using ht4
                    obtain ⟨e0, e1, e2⟩ := set_2 t m g h k ht3 ht4
                    have HF2 := HF.out
                    rw [e0, e1, e2] at HF2
                    clear e0 e1 e2
                    have HF3 := Lib.hid HF2
                    clear HF2
                    go_wp2_with fail
                    go_meet
                    exact ⟨m, _, _, _, rfl, HF3, atCut2 HB5.out h0 h1 h2 p0 p1 p2 p3 p4 r0 r1 r2 f0 f1 f2 hs5 _⟩
            case rest =>
              obtain ⟨m, g', h', k', rfl, HF, hcb⟩ := hcut
              obtain ⟨w5, rfl⟩ : ∃ x, x = wc := ⟨_, rfl⟩
              obtain ⟨HB5, hs5, a0, a1, a2, b0, b1, b2, b3, b4, d0, d1, d2, e0, e1, e2⟩ := hcb
              replace HB5 := Lib.hid HB5
              clear h0 h1 h2 p0 p1 p2 p3 p4 r0 r1 r2 f0 f1 f2 u0 u1 u2 HX HV HT HPV
              go_wp2_with fail
              refine (iProgram _ _ _ ds _ _ _ _ _ _ _ (HP.out.keep HB5.out)).mono ?_
              obtain ⟨rr, HRR⟩ : ∃ r, Hid (programF ds m ⟨true, fi, pl, va, st⟩ = r) := ⟨_, rfl⟩
              rw [HRR.out]
              rintro e w6 ⟨v6, rfl, hD6, hb6⟩
              have HAP : Hid (appendF ds g h k t ⟨true, fi, pl, va, st⟩ = ⟨rr.1, g', h', k', rr.2⟩) := Lib.hid (by rw [HF.out, appPut, HRR.out])
              have HD6 := Lib.hid hD6
              have HB6 := Lib.hid (bel_t HB5.out hb6)
              have hs6 : w.heap.size + 3 ≤ w6.heap.size := by have := hb6.size; omega
              replace a0 := stays_below hb6 _ _ _ a0
              replace a1 := stays_below hb6 _ _ _ a1
              replace a2 := stays_below hb6 _ _ _ a2
              replace d0 := stays_below hb6 _ _ _ d0
              replace d1 := stays_below hb6 _ _ _ d1
              replace d2 := stays_below hb6 _ _ _ d2
              replace e0 := ((bcell hb6).2 _ _ (by omega)).trans e0
              replace e1 := ((bcell hb6).2 _ _ (by omega)).trans e1
              replace e2 := ((bcell hb6).2 _ _ (by omega)).trans e2
              clear hb6 hD6 b0 b1 b2 b3 b4 HF HRR
              obtain ⟨rd, ra⟩ := rr
              simp only [] at *
              go_wp2_with fail
              refine reg_beginB (B := w.heap.size + 2) (by kernel_rfl) (fun hHeld => ?_)
              refine reg_take 0 77 (v := ?_) rfl rfl (by kernel_rfl) (by kernel_rfl) (by kernel_rfl) (fun _ _ _ h => h) (Or.inl ⟨by rfl, ?_⟩) hHeld ?_
              rotate_left 1
              · intro wS hSw; go_simp <;> with_reducible rfl
              simp only [put_lit, List.set_cons_zero, List.set_cons_succ]
              refine reg_take 1 78 (v := ?_) rfl rfl (by kernel_rfl) (by kernel_rfl) (by kernel_rfl) (fun _ _ _ h => h) (Or.inl ⟨by rfl, ?_⟩) hHeld ?_
              rotate_left 1
              · intro wS hSw; have hqS := bcellB hSw; go_simp <;> with_reducible rfl
              simp only [put_lit, List.set_cons_zero, List.set_cons_succ]
              refine reg_take 2 79 (v := ?_) rfl rfl (by kernel_rfl) (by kernel_rfl) (by kernel_rfl) (fun _ _ _ h => h) (Or.inl ⟨by rfl, ?_⟩) hHeld ?_
              rotate_left 1
              · intro wS hSw; go_simp <;> with_reducible rfl
              simp only [put_lit, List.set_cons_zero, List.set_cons_succ]
              refine reg_take 3 8 (v := ?_) rfl rfl (by kernel_rfl) (by kernel_rfl) (by kernel_rfl) (fun _ _ _ h => h) (Or.inl ⟨by rfl, ?_⟩) hHeld ?_
              rotate_left 1
              · intro wS hSw; go_simp <;> with_reducible rfl
              simp only [put_lit, List.set_cons_zero, List.set_cons_succ]
              refine wpAnyH_ready (rs := [4]) (by kernel_rfl) (by simp) ?_
              refine AllReadyH.cons rfl (fun K hK => ?_) AllReadyH.nil
              go_simp
              refine hK.out _ _ ?_ (fun hHeld => ?_)
              · exact bel_t3 hHeld (Nat.le_refl _) g' h' k'
              clear hK K
              (try simp only [put_lit, List.set_cons_zero, List.set_cons_succ])
              refine reg_take 5 10 (v := ?_) rfl rfl (by kernel_rfl) (by kernel_rfl) (by kernel_rfl) (fun _ _ _ h => h) (Or.inl ⟨by rfl, ?_⟩) hHeld ?_
              rotate_left 1
              · intro wS hSw; go_simp <;> with_reducible rfl
              simp only [put_lit, List.set_cons_zero, List.set_cons_succ]
              refine wpAnyH_done (by kernel_rfl) ?_ _
              go_wp2
              refine bodyPost_ret (v := .tuple #[v6, .agg #[.int .i64 g', .int .i64 h', .int .i64 k'], .int .i64 ra]) (by simp [results, Try.results53, go_sem, d0, d1, d2]) rfl ⟨_, by rw [HAP.out], ?_, ?_⟩
              · rw [HAP.out]; exact (out_t3 (b := w.heap.size + 2) HD6.out (by omega) g' h' k').lower HB5.out.size
              · exact Below.drew (bel_t3 (b := w.heap.size + 2) HB6.out (by omega) g' h' k')
    · have HF0 := Lib.hid (ap_2 ds g h k t ⟨f, fi, pl, va, st⟩ ht)
      by_cases h9 : t < 0
      all_goals
        try have h99 : 2 < t := by omega
        clear ht
        have HF := Lib.hid (HF0.out)
        clear HP
        go_wp2
        refine bodyPost_ret (v := .tuple #[.slice none 0 0, .agg #[.int .i64 0, .int .i64 0, .int .i64 0], .int .i64 (-1)]) (by simp [results, Try.results53, go_sem, r0, r1, r2]) rfl ⟨_, by rw [HF.out], ?_, ?_⟩
        · rw [HF.out]; exact devout_nil _ _ _ _
        · exact bel_t3 (b := w.heap.size + 2) HB1.out (by omega) 0 0 0

set_option maxRecDepth 100000 in
set_option maxHeartbeats 4000000 in
theorem sAppendPage (A : Option Addr) (n c : Nat) (ds : List Bl) (g h k t : Int) (f : Bool) (fi pl va st : Int) (w : World) (hd : DevAt w A n ds) :
    Calls Try.prog 54 #[.slice A n c, .agg #[.int .i64 g, .int .i64 h, .int .i64 k], .int .i64 t, .agg #[.bool f, .int .i64 fi, .int .i64 pl, .int .i64 va, .int .i64 st]] w fun e w' => ∃ v, e = .returned (.tuple #[v, .agg #[.int .i64 (appendF ds g h k t ⟨f, fi, pl, va, st⟩).g, .int .i64 (appendF ds g h k t ⟨f, fi, pl, va, st⟩).h, .int .i64 (appendF ds g h k t ⟨f, fi, pl, va, st⟩).k], .int .i64 (appendF ds g h k t ⟨f, fi, pl, va, st⟩).at_]) ∧ DevOut w w' (appendF ds g h k t ⟨f, fi, pl, va, st⟩).ds v ∧ Below w.heap.size w w' := by
  have HP := Lib.hid hd
  have hm := hd.2.1
  have HL := Lib.hid hd.1
  clear hd
  go_enter Try.func54, Try.ntmps54
  go_wp2_with fail
  have HB0 := Lib.hid (bel_3 w (.cells #[.int .i64 g, .int .i64 h, .int .i64 k] 54) (.cells #[.bool f, .int .i64 fi, .int .i64 pl, .int .i64 va, .int .i64 st] 32) (.cells #[.int .i64 0, .int .i64 0, .int .i64 0] 54))
  have h0 : (((w.alloc (.cells #[.int .i64 g, .int .i64 h, .int .i64 k] 54)).alloc (.cells #[.bool f, .int .i64 fi, .int .i64 pl, .int .i64 va, .int .i64 st] 32)).alloc (.cells #[.int .i64 0, .int .i64 0, .int .i64 0] 54)).cell? ⟨w.heap.size, 0, none⟩ = some (.int .i64 g) := by simp [go_sem]
  have h1 : (((w.alloc (.cells #[.int .i64 g, .int .i64 h, .int .i64 k] 54)).alloc (.cells #[.bool f, .int .i64 fi, .int .i64 pl, .int .i64 va, .int .i64 st] 32)).alloc (.cells #[.int .i64 0, .int .i64 0, .int .i64 0] 54)).cell? ⟨w.heap.size, 1, none⟩ = some (.int .i64 h) := by simp [go_sem]
  have h2 : (((w.alloc (.cells #[.int .i64 g, .int .i64 h, .int .i64 k] 54)).alloc (.cells #[.bool f, .int .i64 fi, .int .i64 pl, .int .i64 va, .int .i64 st] 32)).alloc (.cells #[.int .i64 0, .int .i64 0, .int .i64 0] 54)).cell? ⟨w.heap.size, 2, none⟩ = some (.int .i64 k) := by simp [go_sem]
  have u0 : (((w.alloc (.cells #[.int .i64 g, .int .i64 h, .int .i64 k] 54)).alloc (.cells #[.bool f, .int .i64 fi, .int .i64 pl, .int .i64 va, .int .i64 st] 32)).alloc (.cells #[.int .i64 0, .int .i64 0, .int .i64 0] 54)).frozen? ⟨w.heap.size, 0, none⟩ = false := by simp [go_sem]
  have u1 : (((w.alloc (.cells #[.int .i64 g, .int .i64 h, .int .i64 k] 54)).alloc (.cells #[.bool f, .int .i64 fi, .int .i64 pl, .int .i64 va, .int .i64 st] 32)).alloc (.cells #[.int .i64 0, .int .i64 0, .int .i64 0] 54)).frozen? ⟨w.heap.size, 1, none⟩ = false := by simp [go_sem]
  have u2 : (((w.alloc (.cells #[.int .i64 g, .int .i64 h, .int .i64 k] 54)).alloc (.cells #[.bool f, .int .i64 fi, .int .i64 pl, .int .i64 va, .int .i64 st] 32)).alloc (.cells #[.int .i64 0, .int .i64 0, .int .i64 0] 54)).frozen? ⟨w.heap.size, 2, none⟩ = false := by simp [go_sem]
  have p0 : (((w.alloc (.cells #[.int .i64 g, .int .i64 h, .int .i64 k] 54)).alloc (.cells #[.bool f, .int .i64 fi, .int .i64 pl, .int .i64 va, .int .i64 st] 32)).alloc (.cells #[.int .i64 0, .int .i64 0, .int .i64 0] 54)).cell? ⟨w.heap.size + 1, 0, none⟩ = some (.bool f) := by simp [go_sem]
  have p1 : (((w.alloc (.cells #[.int .i64 g, .int .i64 h, .int .i64 k] 54)).alloc (.cells #[.bool f, .int .i64 fi, .int .i64 pl, .int .i64 va, .int .i64 st] 32)).alloc (.cells #[.int .i64 0, .int .i64 0, .int .i64 0] 54)).cell? ⟨w.heap.size + 1, 1, none⟩ = some (.int .i64 fi) := by simp [go_sem]
  have p2 : (((w.alloc (.cells #[.int .i64 g, .int .i64 h, .int .i64 k] 54)).alloc (.cells #[.bool f, .int .i64 fi, .int .i64 pl, .int .i64 va, .int .i64 st] 32)).alloc (.cells #[.int .i64 0, .int .i64 0, .int .i64 0] 54)).cell? ⟨w.heap.size + 1, 2, none⟩ = some (.int .i64 pl) := by simp [go_sem]
  have p3 : (((w.alloc (.cells #[.int .i64 g, .int .i64 h, .int .i64 k] 54)).alloc (.cells #[.bool f, .int .i64 fi, .int .i64 pl, .int .i64 va, .int .i64 st] 32)).alloc (.cells #[.int .i64 0, .int .i64 0, .int .i64 0] 54)).cell? ⟨w.heap.size + 1, 3, none⟩ = some (.int .i64 va) := by simp [go_sem]
  have p4 : (((w.alloc (.cells #[.int .i64 g, .int .i64 h, .int .i64 k] 54)).alloc (.cells #[.bool f, .int .i64 fi, .int .i64 pl, .int .i64 va, .int .i64 st] 32)).alloc (.cells #[.int .i64 0, .int .i64 0, .int .i64 0] 54)).cell? ⟨w.heap.size + 1, 4, none⟩ = some (.int .i64 st) := by simp [go_sem]
  have r0 : (((w.alloc (.cells #[.int .i64 g, .int .i64 h, .int .i64 k] 54)).alloc (.cells #[.bool f, .int .i64 fi, .int .i64 pl, .int .i64 va, .int .i64 st] 32)).alloc (.cells #[.int .i64 0, .int .i64 0, .int .i64 0] 54)).cell? ⟨w.heap.size + 2, 0, none⟩ = some (.int .i64 0) := by simp [go_sem]
  have r1 : (((w.alloc (.cells #[.int .i64 g, .int .i64 h, .int .i64 k] 54)).alloc (.cells #[.bool f, .int .i64 fi, .int .i64 pl, .int .i64 va, .int .i64 st] 32)).alloc (.cells #[.int .i64 0, .int .i64 0, .int .i64 0] 54)).cell? ⟨w.heap.size + 2, 1, none⟩ = some (.int .i64 0) := by simp [go_sem]
  have r2 : (((w.alloc (.cells #[.int .i64 g, .int .i64 h, .int .i64 k] 54)).alloc (.cells #[.bool f, .int .i64 fi, .int .i64 pl, .int .i64 va, .int .i64 st] 32)).alloc (.cells #[.int .i64 0, .int .i64 0, .int .i64 0] 54)).cell? ⟨w.heap.size + 2, 2, none⟩ = some (.int .i64 0) := by simp [go_sem]
  have f0 : (((w.alloc (.cells #[.int .i64 g, .int .i64 h, .int .i64 k] 54)).alloc (.cells #[.bool f, .int .i64 fi, .int .i64 pl, .int .i64 va, .int .i64 st] 32)).alloc (.cells #[.int .i64 0, .int .i64 0, .int .i64 0] 54)).frozen? ⟨w.heap.size + 2, 0, none⟩ = false := by simp [go_sem]
  have f1 : (((w.alloc (.cells #[.int .i64 g, .int .i64 h, .int .i64 k] 54)).alloc (.cells #[.bool f, .int .i64 fi, .int .i64 pl, .int .i64 va, .int .i64 st] 32)).alloc (.cells #[.int .i64 0, .int .i64 0, .int .i64 0] 54)).frozen? ⟨w.heap.size + 2, 1, none⟩ = false := by simp [go_sem]
  have f2 : (((w.alloc (.cells #[.int .i64 g, .int .i64 h, .int .i64 k] 54)).alloc (.cells #[.bool f, .int .i64 fi, .int .i64 pl, .int .i64 va, .int .i64 st] 32)).alloc (.cells #[.int .i64 0, .int .i64 0, .int .i64 0] 54)).frozen? ⟨w.heap.size + 2, 2, none⟩ = false := by simp [go_sem]
  have hs0 : w.heap.size + 3 ≤ (((w.alloc (.cells #[.int .i64 g, .int .i64 h, .int .i64 k] 54)).alloc (.cells #[.bool f, .int .i64 fi, .int .i64 pl, .int .i64 va, .int .i64 st] 32)).alloc (.cells #[.int .i64 0, .int .i64 0, .int .i64 0] 54)).heap.size := by simp
  generalize (((w.alloc (.cells #[.int .i64 g, .int .i64 h, .int .i64 k] 54)).alloc (.cells #[.bool f, .int .i64 fi, .int .i64 pl, .int .i64 va, .int .i64 st] 32)).alloc (.cells #[.int .i64 0, .int .i64 0, .int .i64 0] 54)) = w0 at *
  refine (sHeadsValid _ _ _ ds _ _ _ _ (HP.out.keep HB0.out)).mono ?_
  rintro e w1 ⟨rfl, hb1⟩
  have HB1 := Lib.hid (bel_t HB0.out hb1)
  replace h0 := stays_below hb1 _ _ _ h0
  replace h1 := stays_below hb1 _ _ _ h1
  replace h2 := stays_below hb1 _ _ _ h2
  replace p0 := stays_below hb1 _ _ _ p0
  replace p1 := stays_below hb1 _ _ _ p1
  replace p2 := stays_below hb1 _ _ _ p2
  replace p3 := stays_below hb1 _ _ _ p3
  replace p4 := stays_below hb1 _ _ _ p4
  replace r0 := stays_below hb1 _ _ _ r0
  replace r1 := stays_below hb1 _ _ _ r1
  replace r2 := stays_below hb1 _ _ _ r2
  replace f0 := ((bcell hb1).2 _ _ (by omega)).trans f0
  replace f1 := ((bcell hb1).2 _ _ (by omega)).trans f1
  replace f2 := ((bcell hb1).2 _ _ (by omega)).trans f2
  replace u0 := ((bcell hb1).2 _ _ (by omega)).trans u0
  replace u1 := ((bcell hb1).2 _ _ (by omega)).trans u1
  replace u2 := ((bcell hb1).2 _ _ (by omega)).trans u2
  have hs1 : w.heap.size + 3 ≤ w1.heap.size := by have := (hb1).size; omega
  clear hb1
  have zr1 : w.heap.size + 2 < w1.heap.size := by omega
  have zx1 : ¬ w1.heap.size = w.heap.size + 2 := by omega
  cases hv : headsValidF ds g h k
  · skip
    have HF := Lib.hid (ap_1 ds g h k t ⟨f, fi, pl, va, st⟩ hv)
    clear HP
    go_wp2
    refine bodyPost_ret (v := .tuple #[.slice (some ⟨w1.heap.size, 0, none⟩) 0 0, .agg #[.int .i64 0, .int .i64 0, .int .i64 0], .int .i64 (-1)]) (by simp [results, Try.results54, go_sem, r0, r1, r2, World.cell?_alloc_past, zr1]) rfl ⟨_, by rw [HF.out], ?_, ?_⟩
    · rw [HF.out]; exact devout_nil _ _ _ _
    · exact bel_t (bel_t3 (b := w.heap.size + 2) HB1.out (by omega) 0 0 0) (bel_1 _ _)
  · have HV := Lib.hid hv
    clear hv
    by_cases ht : 0 ≤ t ∧ t ≤ 2
    · have ht0 := ht.1
      have ht2 := ht.2
      have HT := Lib.hid ht
      clear ht
      have hin : inB t 0 2 = true := inB_t ht0 ht2
      go_wp2_with fail
      refine (l1In_any _ _ _ _).mono ?_
      rw [hin]
      rintro e w' ⟨rfl, rfl⟩
      go_wp2_with fail
      refine (sPageValid _ _ _ _ _ _).mono ?_
      rintro e w2 ⟨rfl, hb2⟩
      have HB2 := Lib.hid (bel_t HB1.out hb2)
      replace h0 := stays_below hb2 _ _ _ h0
      replace h1 := stays_below hb2 _ _ _ h1
      replace h2 := stays_below hb2 _ _ _ h2
      replace p0 := stays_below hb2 _ _ _ p0
      replace p1 := stays_below hb2 _ _ _ p1
      replace p2 := stays_below hb2 _ _ _ p2
      replace p3 := stays_below hb2 _ _ _ p3
      replace p4 := stays_below hb2 _ _ _ p4
      replace r0 := stays_below hb2 _ _ _ r0
      replace r1 := stays_below hb2 _ _ _ r1
      replace r2 := stays_below hb2 _ _ _ r2
      replace f0 := ((bcell hb2).2 _ _ (by omega)).trans f0
      replace f1 := ((bcell hb2).2 _ _ (by omega)).trans f1
      replace f2 := ((bcell hb2).2 _ _ (by omega)).trans f2
      replace u0 := ((bcell hb2).2 _ _ (by omega)).trans u0
      replace u1 := ((bcell hb2).2 _ _ (by omega)).trans u1
      replace u2 := ((bcell hb2).2 _ _ (by omega)).trans u2
      have hs2 : w.heap.size + 3 ≤ w2.heap.size := by have := (hb2).size; omega
      clear hb2
      have zr2 : w.heap.size + 2 < w2.heap.size := by omega
      have zx2 : ¬ w2.heap.size = w.heap.size + 2 := by omega
      cases hpv : pageValidF ⟨f, fi, pl, va, st⟩
      · skip
        have HF := Lib.hid (ap_3 ds g h k t ⟨f, fi, pl, va, st⟩ hpv)
        clear HP
        go_wp2
        refine bodyPost_ret (v := .tuple #[.slice (some ⟨w2.heap.size, 0, none⟩) 0 0, .agg #[.int .i64 0, .int .i64 0, .int .i64 0], .int .i64 (-1)]) (by simp [results, Try.results54, go_sem, r0, r1, r2, World.cell?_alloc_past, zr2]) rfl ⟨_, by rw [HF.out], ?_, ?_⟩
        · rw [HF.out]; exact devout_nil _ _ _ _
        · exact bel_t (bel_t3 (b := w.heap.size + 2) HB2.out (by omega) 0 0 0) (bel_1 _ _)
      · have HPV := Lib.hid hpv
        clear hpv
        cases f
        · skip
          have HF := Lib.hid (ap_4 ds g h k t ⟨false, fi, pl, va, st⟩ rfl)
          clear HP
          go_wp2
          refine bodyPost_ret (v := .tuple #[.slice (some ⟨w2.heap.size, 0, none⟩) 0 0, .agg #[.int .i64 0, .int .i64 0, .int .i64 0], .int .i64 (-1)]) (by simp [results, Try.results54, go_sem, r0, r1, r2, World.cell?_alloc_past, zr2]) rfl ⟨_, by rw [HF.out], ?_, ?_⟩
          · rw [HF.out]; exact devout_nil _ _ _ _
          · exact bel_t (bel_t3 (b := w.heap.size + 2) HB2.out (by omega) 0 0 0) (bel_1 _ _)
        · have hob := ho_b ds n g h k t HL.out HV.out
          have hn12 := dv_len ds n HL.out (hv_in ds n g h k HL.out HV.out).1
          go_wp2_with fail
          refine (sHeadOf _ _ _ ds _ _ _ _ _ (HP.out.keep HB2.out)).mono ?_
          rintro e w3 ⟨rfl, hb3⟩
          have HB3 := Lib.hid (bel_t HB2.out hb3)
          replace h0 := stays_below hb3 _ _ _ h0
          replace h1 := stays_below hb3 _ _ _ h1
          replace h2 := stays_below hb3 _ _ _ h2
          replace p0 := stays_below hb3 _ _ _ p0
          replace p1 := stays_below hb3 _ _ _ p1
          replace p2 := stays_below hb3 _ _ _ p2
          replace p3 := stays_below hb3 _ _ _ p3
          replace p4 := stays_below hb3 _ _ _ p4
          replace r0 := stays_below hb3 _ _ _ r0
          replace r1 := stays_below hb3 _ _ _ r1
          replace r2 := stays_below hb3 _ _ _ r2
          replace f0 := ((bcell hb3).2 _ _ (by omega)).trans f0
          replace f1 := ((bcell hb3).2 _ _ (by omega)).trans f1
          replace f2 := ((bcell hb3).2 _ _ (by omega)).trans f2
          replace u0 := ((bcell hb3).2 _ _ (by omega)).trans u0
          replace u1 := ((bcell hb3).2 _ _ (by omega)).trans u1
          replace u2 := ((bcell hb3).2 _ _ (by omega)).trans u2
          have hs3 : w.heap.size + 3 ≤ w3.heap.size := by have := (hb3).size; omega
          clear hb3
          obtain ⟨x, HX⟩ : ∃ x, Hid (headOfF ds g h k t = x) := ⟨_, rfl⟩
          rw [HX.out] at hob ⊢
          obtain ⟨hx1, hx2⟩ := hob
          go_upto_region 4 with fail
          go_cut [48] (fun x50 wx => ∃ c : Bool, x50 = .bool c ∧ Hid (c = true ↔ (x < 0 ∨ blockNextF (blAt ds x.toNat) < 0)) ∧ AtCut w wx g h k fi pl va st ∧ ∀ j, j < 3 → wx.frozen? ⟨w.heap.size, j, none⟩ = false)
          case first =>
            by_cases hx0 : x < 0
            · go_wp2_with fail
              go_meet
              exact ⟨_, rfl, Lib.hid (Iff.intro (fun _ => Or.inl hx0) (fun _ => rfl)), atCutN HB3.out h0 h1 h2 p0 p1 p2 p3 p4 r0 r1 r2 f0 f1 f2 hs3, fun j hj => by match j, hj with | 0, _ => exact u0 | 1, _ => exact u1 | 2, _ => exact u2⟩
            · obtain ⟨j, rfl⟩ : ∃ j : Nat, x = (j : Int) := ⟨x.toNat, by omega⟩
              have hj : j < n := by omega
              have hjI : (j : Int) < (n : Int) := by omega
              obtain ⟨b, o, rfl, hC⟩ := HP.out.2.2 (by omega)
              obtain ⟨A', m', c', c0, c1, hps⟩ := (hC j hj).keepS (stays_below HB3.out)
              have HQ := Lib.hid hps
              clear hC hps
              rcases hp : blAt ds j with ⟨z, ps⟩
              rw [hp] at c0 HQ
              simp only [] at c0 HQ
              have HE := Lib.hid hp
              clear hp
              go_wp2_with fail
              refine (sBlockNext _ _ _ _ ps _ HQ.out).mono ?_
              obtain ⟨nx, HNX⟩ : ∃ v, Hid (blockNextF ⟨z, ps⟩ = v) := ⟨_, rfl⟩
              rw [HNX.out]
              rintro e w4 ⟨rfl, hb4⟩
              have HB4 := Lib.hid (bel_t HB3.out hb4)
              replace h0 := stays_below hb4 _ _ _ h0
              replace h1 := stays_below hb4 _ _ _ h1
              replace h2 := stays_below hb4 _ _ _ h2
              replace p0 := stays_below hb4 _ _ _ p0
              replace p1 := stays_below hb4 _ _ _ p1
              replace p2 := stays_below hb4 _ _ _ p2
              replace p3 := stays_below hb4 _ _ _ p3
              replace p4 := stays_below hb4 _ _ _ p4
              replace r0 := stays_below hb4 _ _ _ r0
              replace r1 := stays_below hb4 _ _ _ r1
              replace r2 := stays_below hb4 _ _ _ r2
              replace f0 := ((bcell hb4).2 _ _ (by omega)).trans f0
              replace f1 := ((bcell hb4).2 _ _ (by omega)).trans f1
              replace f2 := ((bcell hb4).2 _ _ (by omega)).trans f2
              replace u0 := ((bcell hb4).2 _ _ (by omega)).trans u0
              replace u1 := ((bcell hb4).2 _ _ (by omega)).trans u1
              replace u2 := ((bcell hb4).2 _ _ (by omega)).trans u2
              have hs4 : w.heap.size + 3 ≤ w4.heap.size := by have := (hb4).size; omega
              clear hb4 c0 c1 HQ
              have HBX : Hid (blockNextF (blAt ds ((j : Int)).toNat) = nx) := Lib.hid (by rw [Int.toNat_natCast, HE.out]; exact HNX.out)
              go_wp2_with fail
              go_meet
              exact ⟨_, rfl, Lib.hid (Iff.intro (fun h => Or.inr (by rw [HBX.out]; simpa using h)) (fun h => by rw [HBX.out] at h; rcases h with h | h; exact absurd h (by omega); simpa using h)), atCutN HB4.out h0 h1 h2 p0 p1 p2 p3 p4 r0 r1 r2 f0 f1 f2 hs4, fun j hj => by match j, hj with | 0, _ => exact u0 | 1, _ => exact u1 | 2, _ => exact u2⟩
          case rest =>
            obtain ⟨c1, rfl, HCC, hcb, hu⟩ := hcut
            obtain ⟨w4, rfl⟩ : ∃ x, x = wc := ⟨_, rfl⟩
            clear h0 h1 h2 p0 p1 p2 p3 p4 r0 r1 r2 f0 f1 f2 u0 u1 u2
            obtain ⟨HB4, hs4, h0, h1, h2, p0, p1, p2, p3, p4, r0, r1, r2, f0, f1, f2⟩ := hcb
            replace HB4 := Lib.hid HB4
            have u0 := hu 0 (by omega)
            have u1 := hu 1 (by omega)
            have u2 := hu 2 (by omega)
            clear hu
            go_upto_if 48 with fail
            go_cut [11] (fun x11 wx => ∃ m g' h' k' : Int, x11 = .int .i64 m ∧ Hid (appendF ds g h k t ⟨true, fi, pl, va, st⟩ = appPut ds m g' h' k' ⟨true, fi, pl, va, st⟩) ∧ AtCut w wx g' h' k' fi pl va st)
            case first =>
              cases c1
              · have HF := Lib.hid (ap_7 ds g h k t ⟨true, fi, pl, va, st⟩ HV.out HT.out HPV.out rfl x HX.out (fun hc => absurd (HCC.out.2 hc) (by simp)))
                go_wp2_with fail
                go_meet
                exact ⟨_, _, _, _, rfl, HF, atCutN HB4.out h0 h1 h2 p0 p1 p2 p3 p4 r0 r1 r2 f0 f1 f2 hs4⟩
              · have HC : Hid (x < 0 ∨ blockNextF (blAt ds x.toNat) < 0) := Lib.hid (HCC.out.1 rfl)
                go_wp2_with fail
                refine (sFreshBlock _ _ _ ds _ _ _ _ (HP.out.keep HB4.out)).mono ?_
                obtain ⟨m, HM⟩ : ∃ m, Hid (freshBlockF ds g h k = m) := ⟨_, rfl⟩
                rw [HM.out]
                rintro e w5 ⟨rfl, hb5⟩
                have HB5 := Lib.hid (bel_t HB4.out hb5)
                replace h0 := stays_below hb5 _ _ _ h0
                replace h1 := stays_below hb5 _ _ _ h1
                replace h2 := stays_below hb5 _ _ _ h2
                replace p0 := stays_below hb5 _ _ _ p0
                replace p1 := stays_below hb5 _ _ _ p1
                replace p2 := stays_below hb5 _ _ _ p2
                replace p3 := stays_below hb5 _ _ _ p3
                replace p4 := stays_below hb5 _ _ _ p4
                replace r0 := stays_below hb5 _ _ _ r0
                replace r1 := stays_below hb5 _ _ _ r1
                replace r2 := stays_below hb5 _ _ _ r2
                replace f0 := ((bcell hb5).2 _ _ (by omega)).trans f0
                replace f1 := ((bcell hb5).2 _ _ (by omega)).trans f1
                replace f2 := ((bcell hb5).2 _ _ (by omega)).trans f2
                replace u0 := ((bcell hb5).2 _ _ (by omega)).trans u0
                replace u1 := ((bcell hb5).2 _ _ (by omega)).trans u1
                replace u2 := ((bcell hb5).2 _ _ (by omega)).trans u2
                have hs5 : w.heap.size + 3 ≤ w5.heap.size := by have := (hb5).size; omega
                clear hb5
                by_cases hm0 : m < 0
                · have HF := Lib.hid (ap_5 ds g h k t ⟨true, fi, pl, va, st⟩ HV.out HT.out HPV.out rfl x HX.out HC.out m HM.out hm0)
                  go_wp2_with fail
                  refine reg_beginB (B := w.heap.size + 2) (by kernel_rfl) (fun hHeld => ?_)
                  refine reg_take 0 54 (v := ?_) rfl rfl (by kernel_rfl) (by kernel_rfl) (by kernel_rfl) (fun _ _ _ h => h) (Or.inl ⟨by rfl, ?_⟩) hHeld ?_
                  rotate_left 1
                  · intro wS hSw; go_simp <;> with_reducible rfl
                  simp only [put_lit, List.set_cons_zero, List.set_cons_succ]
                  refine reg_take 2 56 (v := ?_) rfl rfl (by kernel_rfl) (by kernel_rfl) (by kernel_rfl) (fun _ _ _ h => h) (Or.inl ⟨by rfl, ?_⟩) hHeld ?_
                  rotate_left 1
                  · intro wS hSw; have hqS := bcellB hSw; go_simp <;> with_reducible rfl
                  simp only [put_lit, List.set_cons_zero, List.set_cons_succ]
                  refine wpAnyH_ready (rs := [1]) (by kernel_rfl) (by simp) ?_
                  refine AllReadyH.cons rfl (fun K hK => ?_) AllReadyH.nil
                  go_simp
                  refine (sCopyDev _ _ _ ds _ (HP.out.keep (HB5.out.trans (hHeld.mono (by omega)))) (hv_in ds n g h k HL.out HV.out).1).mono ?_
                  rintro e wc1 ⟨g5, G5, c5, rfl, hD5, hbc1⟩
                  have HD5 := Lib.hid hD5
                  clear hD5
                  have HBN := Lib.hid (bel_t HB5.out (below_drew hbc1))
                  replace r0 := stays_below (below_drew hbc1) _ _ _ r0
                  replace r1 := stays_below (below_drew hbc1) _ _ _ r1
                  replace r2 := stays_below (below_drew hbc1) _ _ _ r2
                  replace f0 := ((bcell (below_drew hbc1)).2 _ _ (by omega)).trans f0
                  replace f1 := ((bcell (below_drew hbc1)).2 _ _ (by omega)).trans f1
                  replace f2 := ((bcell (below_drew hbc1)).2 _ _ (by omega)).trans f2
                  go_wp2_with fail
                  refine hK.out _ _ ?_ (fun hHeld => ?_)
                  · exact reg_call hHeld hbc1 (by omega)
                  clear hK K
                  (try simp only [put_lit, List.set_cons_zero, List.set_cons_succ])
                  refine reg_take 3 8 (v := ?_) rfl rfl (by kernel_rfl) (by kernel_rfl) (by kernel_rfl) (fun _ _ _ h => h) (Or.inl ⟨by rfl, ?_⟩) hHeld ?_
                  rotate_left 1
                  · intro wS hSw; go_simp <;> with_reducible rfl
                  simp only [put_lit, List.set_cons_zero, List.set_cons_succ]
                  refine wpAnyH_ready (rs := [4]) (by kernel_rfl) (by simp) ?_
                  refine AllReadyH.cons rfl (fun K hK => ?_) AllReadyH.nil
                  go_simp
                  refine hK.out _ _ ?_ (fun hHeld => ?_)
                  · exact bel_t3 hHeld (Nat.le_refl _) g h k
                  clear hK K
                  (try simp only [put_lit, List.set_cons_zero, List.set_cons_succ])
                  refine reg_take 5 10 (v := ?_) rfl rfl (by kernel_rfl) (by kernel_rfl) (by kernel_rfl) (fun _ _ _ h => h) (Or.inl ⟨by rfl, ?_⟩) hHeld ?_
                  rotate_left 1
                  · intro wS hSw; go_simp <;> with_reducible rfl
                  simp only [put_lit, List.set_cons_zero, List.set_cons_succ]
                  refine wpAnyH_done (by kernel_rfl) ?_ _
                  go_wp2
                  refine bodyPost_ret (v := .tuple #[.slice (some ⟨g5, 0, none⟩) n c5, .agg #[.int .i64 g, .int .i64 h, .int .i64 k], .int .i64 (-1)]) (by simp [results, Try.results54, go_sem, r0, r1, r2]) rfl ⟨_, by rw [HF.out], ?_, ?_⟩
                  · rw [HF.out]; exact (out_t3 (devout_row (w := w5) HD5.out (by omega)) (b := w.heap.size + 2) (by omega) g h k).lower HB5.out.size
                  · first | exact bel_t3 (b := w.heap.size + 2) HBN.out (by omega) g h k | exact Below.drew (bel_t3 (b := w.heap.size + 2) HBN.out (by omega) g h k)
                · have HF := Lib.hid (ap_6 ds g h k t ⟨true, fi, pl, va, st⟩ HV.out HT.out HPV.out rfl x HX.out HC.out m HM.out hm0)
                  go_wp2_with fail
                  refine (l6Set_any _ _ _ _ _ _).mono ?_
                  rintro e w6 ⟨rfl, hb6⟩
                  have HB6 := Lib.hid (bel_t HB5.out hb6)
                  replace h0 := stays_below hb6 _ _ _ h0
                  replace h1 := stays_below hb6 _ _ _ h1
                  replace h2 := stays_below hb6 _ _ _ h2
                  replace p0 := stays_below hb6 _ _ _ p0
                  replace p1 := stays_below hb6 _ _ _ p1
                  replace p2 := stays_below hb6 _ _ _ p2
                  replace p3 := stays_below hb6 _ _ _ p3
                  replace p4 := stays_below hb6 _ _ _ p4
                  replace r0 := stays_below hb6 _ _ _ r0
                  replace r1 := stays_below hb6 _ _ _ r1
                  replace r2 := stays_below hb6 _ _ _ r2
                  replace f0 := ((bcell hb6).2 _ _ (by omega)).trans f0
                  replace f1 := ((bcell hb6).2 _ _ (by omega)).trans f1
                  replace f2 := ((bcell hb6).2 _ _ (by omega)).trans f2
                  replace u0 := ((bcell hb6).2 _ _ (by omega)).trans u0
                  replace u1 := ((bcell hb6).2 _ _ (by omega)).trans u1
                  replace u2 := ((bcell hb6).2 _ _ (by omega)).trans u2
                  have hs6 : w.heap.size + 3 ≤ w6.heap.size := by have := (hb6).size; omega
                  clear hb6
                  go_wp2_with fail
                  go_meet
                  exact ⟨m, _, _, _, rfl, HF, atCut HB6.out h0 h1 h2 p0 p1 p2 p3 p4 r0 r1 r2 f0 f1 f2 hs6 _ _ _⟩
            case rest =>
              obtain ⟨m, g', h', k', rfl, HF, hcb⟩ := hcut
              obtain ⟨w5, rfl⟩ : ∃ x, x = wc := ⟨_, rfl⟩
              obtain ⟨HB5, hs5, a0, a1, a2, b0, b1, b2, b3, b4, d0, d1, d2, e0, e1, e2⟩ := hcb
              replace HB5 := Lib.hid HB5
              clear h0 h1 h2 p0 p1 p2 p3 p4 r0 r1 r2 f0 f1 f2 u0 u1 u2 HX HV HT HPV
              go_wp2_with fail
              refine (sProgram _ _ _ ds _ _ _ _ _ _ _ (HP.out.keep HB5.out)).mono ?_
              obtain ⟨rr, HRR⟩ : ∃ r, Hid (programF ds m ⟨true, fi, pl, va, st⟩ = r) := ⟨_, rfl⟩
              rw [HRR.out]
              rintro e w6 ⟨v6, rfl, hD6, hb6⟩
              have HAP : Hid (appendF ds g h k t ⟨true, fi, pl, va, st⟩ = ⟨rr.1, g', h', k', rr.2⟩) := Lib.hid (by rw [HF.out, appPut, HRR.out])
              have HD6 := Lib.hid hD6
              have HB6 := Lib.hid (bel_t HB5.out hb6)
              have hs6 : w.heap.size + 3 ≤ w6.heap.size := by have := hb6.size; omega
              replace a0 := stays_below hb6 _ _ _ a0
              replace a1 := stays_below hb6 _ _ _ a1
              replace a2 := stays_below hb6 _ _ _ a2
              replace d0 := stays_below hb6 _ _ _ d0
              replace d1 := stays_below hb6 _ _ _ d1
              replace d2 := stays_below hb6 _ _ _ d2
              replace e0 := ((bcell hb6).2 _ _ (by omega)).trans e0
              replace e1 := ((bcell hb6).2 _ _ (by omega)).trans e1
              replace e2 := ((bcell hb6).2 _ _ (by omega)).trans e2
              clear hb6 hD6 b0 b1 b2 b3 b4 HF HRR
              obtain ⟨rd, ra⟩ := rr
              simp only [] at *
              go_wp2_with fail
              refine reg_beginB (B := w.heap.size + 2) (by kernel_rfl) (fun hHeld => ?_)
              refine reg_take 0 68 (v := ?_) rfl rfl (by kernel_rfl) (by kernel_rfl) (by kernel_rfl) (fun _ _ _ h => h) (Or.inl ⟨by rfl, ?_⟩) hHeld ?_
              rotate_left 1
              · intro wS hSw; go_simp <;> with_reducible rfl
              simp only [put_lit, List.set_cons_zero, List.set_cons_succ]
              refine reg_take 1 69 (v := ?_) rfl rfl (by kernel_rfl) (by kernel_rfl) (by kernel_rfl) (fun _ _ _ h => h) (Or.inl ⟨by rfl, ?_⟩) hHeld ?_
              rotate_left 1
              · intro wS hSw; have hqS := bcellB hSw; go_simp <;> with_reducible rfl
              simp only [put_lit, List.set_cons_zero, List.set_cons_succ]
              refine reg_take 2 70 (v := ?_) rfl rfl (by kernel_rfl) (by kernel_rfl) (by kernel_rfl) (fun _ _ _ h => h) (Or.inl ⟨by rfl, ?_⟩) hHeld ?_
              rotate_left 1
              · intro wS hSw; go_simp <;> with_reducible rfl
              simp only [put_lit, List.set_cons_zero, List.set_cons_succ]
              refine reg_take 3 8 (v := ?_) rfl rfl (by kernel_rfl) (by kernel_rfl) (by kernel_rfl) (fun _ _ _ h => h) (Or.inl ⟨by rfl, ?_⟩) hHeld ?_
              rotate_left 1
              · intro wS hSw; go_simp <;> with_reducible rfl
              simp only [put_lit, List.set_cons_zero, List.set_cons_succ]
              refine wpAnyH_ready (rs := [4]) (by kernel_rfl) (by simp) ?_
              refine AllReadyH.cons rfl (fun K hK => ?_) AllReadyH.nil
              go_simp
              refine hK.out _ _ ?_ (fun hHeld => ?_)
              · exact bel_t3 hHeld (Nat.le_refl _) g' h' k'
              clear hK K
              (try simp only [put_lit, List.set_cons_zero, List.set_cons_succ])
              refine reg_take 5 10 (v := ?_) rfl rfl (by kernel_rfl) (by kernel_rfl) (by kernel_rfl) (fun _ _ _ h => h) (Or.inl ⟨by rfl, ?_⟩) hHeld ?_
              rotate_left 1
              · intro wS hSw; go_simp <;> with_reducible rfl
              simp only [put_lit, List.set_cons_zero, List.set_cons_succ]
              refine wpAnyH_done (by kernel_rfl) ?_ _
              go_wp2
              refine bodyPost_ret (v := .tuple #[v6, .agg #[.int .i64 g', .int .i64 h', .int .i64 k'], .int .i64 ra]) (by simp [results, Try.results54, go_sem, d0, d1, d2]) rfl ⟨_, by rw [HAP.out], ?_, ?_⟩
              · rw [HAP.out]; exact (out_t3 (b := w.heap.size + 2) HD6.out (by omega) g' h' k').lower HB5.out.size
              · exact Below.drew (bel_t3 (b := w.heap.size + 2) HB6.out (by omega) g' h' k')
    · have HF0 := Lib.hid (ap_2 ds g h k t ⟨f, fi, pl, va, st⟩ ht)
      have hin : inB t 0 2 = false := inB02_no ht
      clear ht
      go_wp2_with fail
      refine (l1In_any _ _ _ _).mono ?_
      rw [hin]
      rintro e w' ⟨rfl, rfl⟩
      have HF := Lib.hid (HF0.out)
      clear HP
      go_wp2
      refine bodyPost_ret (v := .tuple #[.slice (some ⟨w1.heap.size, 0, none⟩) 0 0, .agg #[.int .i64 0, .int .i64 0, .int .i64 0], .int .i64 (-1)]) (by simp [results, Try.results54, go_sem, r0, r1, r2, World.cell?_alloc_past, zr1]) rfl ⟨_, by rw [HF.out], ?_, ?_⟩
      · rw [HF.out]; exact devout_nil _ _ _ _
      · exact bel_t (bel_t3 (b := w.heap.size + 2) HB1.out (by omega) 0 0 0) (bel_1 _ _)

end Go.Proofs.Yteekikaebmkioaa
