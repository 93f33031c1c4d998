/-auto What the program's and the reference's EraseAt return. -/
import Derived.Test.YteekikaebmkioaaDevCopy
namespace Go.Proofs.Yteekikaebmkioaa
open Go.RowKit
set_option linter.unusedVariables false

theorem ea_1 (ds : List Bl) (x : Int) (h : deviceValidF ds = false) : eraseAtF ds x = ([], false) := by rw [eraseAtF, h]; rfl
theorem ea_2 (ds : List Bl) (n : Nat) (x : Int) (hl : ds.length = n) (h : ¬ (0 ≤ x ∧ x < n)) : eraseAtF ds x = ([], false) := by
  rw [eraseAtF, hl, if_neg]
  simp only [Bool.and_eq_true, inB, decide_eq_true_eq]
  omega
theorem ea_3 (ds : List Bl) (n k : Nat) (hl : ds.length = n) (hv : deviceValidF ds = true) (hk : k < n) : eraseAtF ds (k : Int) = (ds.set k (eraseBlockF (blAt ds k)).1, (eraseBlockF (blAt ds k)).2) := by
  rw [eraseAtF, hv, hl, inB_t (by omega) (by omega)]; simp
theorem eb_four (b : Bl) (hv : blockValidF b = true) : (eraseBlockF b).1.pages.length = 4 := by
  obtain ⟨z, ps⟩ := b
  by_cases hz : z = 100
  · rw [eb_2 z ps hv hz]; exact bv_len _ hv
  · have hw : 0 ≤ z ∧ z ≤ 100 := bv_wear _ hv
    rw [eb_3 z ps hv hz, nb_1 (z + 1) (by omega)]; rfl
/-- what a call hands back as a device of its own -/
def DevOut (w w' : World) (ds : List Bl) (v : Value) : Prop := ∃ A n c, v = .slice A n c ∧ ((n = 0 ∧ ds = []) ∨ ∃ g G, A = some ⟨g, 0, none⟩ ∧ n ≤ 1048576 ∧ DvRow w' w.heap.size g n n G ds)

end Go.Proofs.Yteekikaebmkioaa
