/-auto What the drawing functions of the reference give: some number within bounds, and memory as before but for the reader's own block. -/
import Derived.Test.YteekikaebmkioaaPages2
import Derived.Deep.QuietTactic
import Derived.BigQuiet
import Derived.Laws.Pointers
namespace Go.Proofs.Yteekikaebmkioaa
open Go.RowKit
set_option linter.unusedVariables false

/-- block g is a reader over the code A, n, c, at position p -/
def RdB (w : World) (g : Nat) (A : Option Addr) (n c : Nat) (p : Int) : Prop := w.heap[g]? = some (.cells #[.slice A n c, .int .i64 p] 82 (0, 0))
/-- the code's bytes can be read, and they are not the reader's own block -/
def CodeAt (w : World) (A : Option Addr) (n g : Nat) : Prop :=
  n = 0 ∨ ∃ cb co, A = some ⟨cb, co, none⟩ ∧ cb ≠ g ∧ ∀ j, j < n → ∃ b : Int, 0 ≤ b ∧ b ≤ 255 ∧ w.cell? ⟨cb, co + j, none⟩ = some (.int .u8 b)
/-- a reader that has been asked at most M times -/
structure Rdr (w : World) (g : Nat) (A : Option Addr) (n c : Nat) (M : Nat) : Prop where
  ex : ∃ p : Int, 0 ≤ p ∧ p ≤ M ∧ RdB w g A n c p
  code : CodeAt w A n g
  n2000 : n ≤ 2000

theorem CodeAt.keep {w w' : World} {A : Option Addr} {n g : Nat} (h : CodeAt w A n g) (hk : ∀ k, k < w.heap.size → k ≠ g → w'.heap[k]? = w.heap[k]?) : CodeAt w' A n g := by
  rcases h with h | ⟨cb, co, e, hne, hc⟩
  · exact .inl h
  · refine .inr ⟨cb, co, e, hne, fun j hj => ?_⟩
    obtain ⟨b, h0, h1, hb⟩ := hc j hj
    refine ⟨b, h0, h1, ?_⟩
    have hlt : cb < w.heap.size := block_lt_of_cell hb
    rw [World.cell?_of_block (w := w) (hk cb hlt hne)]
    exact hb
/-- memory as before but for block g -/
def Kp (g : Nat) (w w' : World) : Prop := w.grownBy w' (some g)
theorem Kp.refl (g : Nat) (w : World) : Kp g w w := ⟨rfl, rfl, rfl, Nat.le_refl _, fun _ _ _ => rfl⟩
theorem Kp.trans {g : Nat} {a b c : World} (h : Kp g a b) (k : Kp g b c) : Kp g a c :=
  ⟨k.os.trans h.os, k.tape.trans h.tape, k.output.trans h.output, Nat.le_trans h.size k.size, fun i hi hne => (k.block i (Nat.lt_of_lt_of_le hi h.size) hne).trans (h.block i hi hne)⟩
theorem Kp.drewN {g : Nat} {a w : World} (h : Kp g a w) (n : Nat) : Kp g a (w.drewN n) := ⟨h.os, h.tape, h.output, h.size, h.block⟩
theorem Kp.alloc {g : Nat} {a w : World} (h : Kp g a w) (o : Obj) : Kp g a (w.alloc o) :=
  ⟨h.os, h.tape, h.output, Nat.le_trans h.size (by simp), fun i hi hne => (Below.heap_alloc w o i (Nat.lt_of_lt_of_le hi h.size)).trans (h.block i hi hne)⟩
theorem Kp.setCell {g : Nat} {a w : World} (h : Kp g a w) {p : Addr} (hp : p.block = g ∨ a.heap.size ≤ p.block) (u : Value) : Kp g a (w.setCell p u) :=
  ⟨h.os, h.tape, h.output, by simpa [World.setCell] using h.size, fun i hi hne => (Below.heap_setCell w p u i (by
    rintro rfl
    rcases hp with hp | hp
    · exact hne (by rw [hp])
    · omega)).trans (h.block i hi hne)⟩
theorem Kp.of_below {g : Nat} {a w : World} (h : Below a.heap.size a w) : Kp g a w := ⟨h.os, h.tape, h.output, h.size, fun i hi _ => h.block i hi⟩
theorem Kp.cell {g : Nat} {a w : World} (h : Kp g a w) {b o : Nat} (hb : b < a.heap.size) (hne : b ≠ g) : w.cell? ⟨b, o, none⟩ = a.cell? ⟨b, o, none⟩ :=
  World.cell?_of_block (w := a) (h.block b hb (fun e => hne (by injection e)))
theorem Kp.below {g N : Nat} {a w : World} (h : Kp g a w) (hN : N ≤ g) (hs : N ≤ a.heap.size) : Below N a w :=
  ⟨h.os, h.tape, h.output, h.size, fun k hk => h.block k (by omega) (fun e => by injection e; omega)⟩
theorem Rdr.lt {w : World} {g : Nat} {A : Option Addr} {n c M : Nat} (h : Rdr w g A n c M) : g < w.heap.size := by
  obtain ⟨p, _, _, hb⟩ := h.ex
  rcases Nat.lt_or_ge g w.heap.size with hlt | hge
  · exact hlt
  · unfold RdB at hb; rw [Array.getElem?_eq_none hge] at hb; cases hb
theorem Rdr.mono {w : World} {g : Nat} {A : Option Addr} {n c M M' : Nat} (h : Rdr w g A n c M) (hM : M ≤ M') : Rdr w g A n c M' := by
  obtain ⟨p, h0, h1, hb⟩ := h.ex
  exact ⟨⟨p, h0, by omega, hb⟩, h.code, h.n2000⟩
/-- a reader stays while other blocks are made or written -/
theorem Rdr.keep {w w' : World} {g : Nat} {A : Option Addr} {n c M : Nat} (h : Rdr w g A n c M) (hb : Below w.heap.size w w') : Rdr w' g A n c M := by
  have hlt := h.lt
  obtain ⟨p, h0, h1, hr⟩ := h.ex
  exact ⟨⟨p, h0, h1, by unfold RdB; rw [hb.block g hlt]; exact hr⟩, h.code.keep (fun k hk _ => hb.block k hk), h.n2000⟩

/-- what asking a reader for a number below N leaves -/
def Picked (N : Int) (g : Nat) (A : Option Addr) (n c M : Nat) (w : World) (e : Ending) (w' : World) : Prop :=
  ∃ r : Int, e = .returned (.int .i64 r) ∧ 0 ≤ r ∧ (1 ≤ N → r < N) ∧ Rdr w' g A n c (M + 1) ∧ Kp g w w'

theorem rdr_after {w : World} {g : Nat} {A : Option Addr} {n c M : Nat} {p : Int} (h : Rdr w g A n c M) (h0 : 0 ≤ p) (h1 : p ≤ M) (hb : RdB w g A n c p) (k : Nat) :
    Rdr ((w.setCell ⟨g, 1, none⟩ (.int .i64 (p + 1))).drewN k) g A n c (M + 1) ∧ Kp g w ((w.setCell ⟨g, 1, none⟩ (.int .i64 (p + 1))).drewN k) := by
  have hk : Kp g w ((w.setCell ⟨g, 1, none⟩ (.int .i64 (p + 1))).drewN k) := ((Kp.refl g w).setCell (.inl rfl) _).drewN k
  refine ⟨⟨⟨p + 1, by omega, by omega, ?_⟩, h.code.keep (fun j hj hne => hk.block j hj (fun e => hne (by injection e))), h.n2000⟩, hk⟩
  unfold RdB at hb ⊢
  show (w.setCell ⟨g, 1, none⟩ (.int .i64 (p + 1))).heap[g]? = _
  simp [World.setCell, Array.getElem?_modify, hb]

theorem xor_nonneg (a b : Int) (ha : 0 ≤ a) (ha2 : a < 2 ^ 63) (hb : 0 ≤ b) (hb2 : b < 2 ^ 63) : 0 ≤ bits .xor .i64 a b := by rw [xor_int a b ha ha2 hb hb2]; omega
end Go.Proofs.Yteekikaebmkioaa
