/- The invariant of a drawn region over two boxed pages. -/
import Derived.Test.YtejppibmjckckaaPages2
namespace Go.Proofs.Ytejppibmjckckaa
open Go.RowKit
theorem reg_drew {B : Nat} {W w' : World} (h : Below B W w') : Below B W w'.drew := h.drew
theorem reg_call {B : Nat} {W w' w1 : World} (h : Below B W w') (hb : Below w'.heap.size w' w1) (hB : B ≤ W.heap.size) : Below B W w1 := h.trans (hb.mono (Nat.le_trans hB h.size))
theorem reg_alloc {B : Nat} {W w' : World} (h : Below B W w') (hB : B ≤ W.heap.size) (o : Obj) : Below B W (w'.alloc o) := h.alloc (Nat.le_trans hB h.size) o
theorem reg_swap {B : Nat} {W w' : World} {o : Obj} (h : Below B W (w'.alloc o)) (hB : B ≤ w'.heap.size) (o' : Obj) : Below B W (w'.alloc o') :=
  ⟨h.os, h.tape, h.output, by have := h.size; simpa using this, fun k hk => by
    rw [Below.heap_alloc _ _ _ (by omega), ← Below.heap_alloc w' o k (by omega)]; exact h.block k hk⟩
theorem reg_size {B : Nat} {W w' w1 : World} (h : Below B W w') (hb : Below w'.heap.size w' w1) (hB : B ≤ W.heap.size) : B ≤ w1.heap.size := Nat.le_trans hB (Nat.le_trans h.size hb.size)
theorem ipMk (b0 : Bool) (f0 p0 v0 s0 : Int) (b1 : Bool) (f1 p1 v1 s1 : Int) (w w' : World) (h : Below (w.heap.size + 2) ((w.alloc (.cells #[.bool b0, .int .i64 f0, .int .i64 p0, .int .i64 v0, .int .i64 s0] 29)).alloc (.cells #[.bool b1, .int .i64 f1, .int .i64 p1, .int .i64 v1, .int .i64 s1] 29)) w') : w'.cell? ⟨w.heap.size, 0, none⟩ = some (.bool b0) ∧ w'.cell? ⟨w.heap.size, 1, none⟩ = some (.int .i64 f0) ∧ w'.cell? ⟨w.heap.size, 2, none⟩ = some (.int .i64 p0) ∧ w'.cell? ⟨w.heap.size, 3, none⟩ = some (.int .i64 v0) ∧ w'.cell? ⟨w.heap.size, 4, none⟩ = some (.int .i64 s0) ∧ w'.cell? ⟨w.heap.size + 1, 0, none⟩ = some (.bool b1) ∧ w'.cell? ⟨w.heap.size + 1, 1, none⟩ = some (.int .i64 f1) ∧ w'.cell? ⟨w.heap.size + 1, 2, none⟩ = some (.int .i64 p1) ∧ w'.cell? ⟨w.heap.size + 1, 3, none⟩ = some (.int .i64 v1) ∧ w'.cell? ⟨w.heap.size + 1, 4, none⟩ = some (.int .i64 s1) ∧ Below (w.heap.size + 2) ((w.alloc (.cells #[.bool b0, .int .i64 f0, .int .i64 p0, .int .i64 v0, .int .i64 s0] 29)).alloc (.cells #[.bool b1, .int .i64 f1, .int .i64 p1, .int .i64 v1, .int .i64 s1] 29)) w' :=
  ⟨(h.cell (p := ⟨w.heap.size, 0, none⟩) (by dsimp only; omega)).trans (by simp [go_sem]),
    (h.cell (p := ⟨w.heap.size, 1, none⟩) (by dsimp only; omega)).trans (by simp [go_sem]),
    (h.cell (p := ⟨w.heap.size, 2, none⟩) (by dsimp only; omega)).trans (by simp [go_sem]),
    (h.cell (p := ⟨w.heap.size, 3, none⟩) (by dsimp only; omega)).trans (by simp [go_sem]),
    (h.cell (p := ⟨w.heap.size, 4, none⟩) (by dsimp only; omega)).trans (by simp [go_sem]),
    (h.cell (p := ⟨w.heap.size + 1, 0, none⟩) (by dsimp only; omega)).trans (by simp [go_sem]),
    (h.cell (p := ⟨w.heap.size + 1, 1, none⟩) (by dsimp only; omega)).trans (by simp [go_sem]),
    (h.cell (p := ⟨w.heap.size + 1, 2, none⟩) (by dsimp only; omega)).trans (by simp [go_sem]),
    (h.cell (p := ⟨w.heap.size + 1, 3, none⟩) (by dsimp only; omega)).trans (by simp [go_sem]),
    (h.cell (p := ⟨w.heap.size + 1, 4, none⟩) (by dsimp only; omega)).trans (by simp [go_sem]),
    h⟩
end Go.Proofs.Ytejppibmjckckaa
