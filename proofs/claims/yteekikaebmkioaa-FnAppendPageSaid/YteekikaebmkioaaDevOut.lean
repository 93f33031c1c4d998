/-auto Devices that calls hand back: kept, marked. -/
import Derived.Test.YteekikaebmkioaaMarks2
import Derived.Test.YteekikaebmkioaaEraseAt
import Derived.LoopN
namespace Go.Proofs.Yteekikaebmkioaa
open Go.RowKit
set_option linter.unusedVariables false

/-- a device of a call's own, in blocks from lo up to hi -/
def DvO (w : World) (lo hi : Nat) (A : Option Addr) (n : Nat) (ds : List Bl) : Prop := (n = 0 ∧ ds = []) ∨ ∃ g G, A = some ⟨g, 0, none⟩ ∧ g < hi ∧ (∀ i, i < n → G i < hi) ∧ DvRow w lo g n n G ds
theorem DvO.at {w : World} {lo hi n : Nat} {A : Option Addr} {ds : List Bl} (h : DvO w lo hi A n ds) (hn : n ≤ 9223372036854775807) : DevAt w A n ds := by
  rcases h with ⟨rfl, rfl⟩ | ⟨g, G, rfl, _, _, h⟩
  · exact DevAt.nil _
  · exact h.at hn
theorem DvO.keep {w w' : World} {lo hi n : Nat} {A : Option Addr} {ds : List Bl} (h : DvO w lo hi A n ds) (hb : Below w.heap.size w w') : DvO w' lo hi A n ds := by
  rcases h with h | ⟨g, G, h1, h2, h3, h⟩
  · exact Or.inl h
  · exact Or.inr ⟨g, G, h1, h2, h3, h.keep hb⟩
theorem DvO.chgI {w w' : World} {lo hi lo' hi' n : Nat} {A : Option Addr} {ds : List Bl} (h : DvO w lo hi A n ds) (hd : hi ≤ lo' ∨ hi' ≤ lo) (hc : ChgI lo' hi' w w') : DvO w' lo hi A n ds := by
  rcases h with h | ⟨g, G, h1, h2, h3, h⟩
  · exact Or.inl h
  · have hg := h.2.1
    exact Or.inr ⟨g, G, h1, h2, h3, h.chgI (by omega) (fun i hi => by have := h3 i hi; have := (h.2.2.2.2.2 i hi).1; omega) hc⟩
theorem devout {w w' : World} {ds : List Bl} {v : Value} (h : DevOut w w' ds v) : ∃ A c, v = .slice A ds.length c ∧ DvO w' w.heap.size w'.heap.size A ds.length ds := by
  obtain ⟨A, n, c, rfl, h⟩ := h
  rcases h with ⟨rfl, rfl⟩ | ⟨g, G, rfl, hn, h⟩
  · exact ⟨A, c, rfl, Or.inl ⟨rfl, rfl⟩⟩
  · obtain rfl : ds.length = n := h.1
    exact ⟨_, c, rfl, Or.inr ⟨g, G, rfl, h.2.2.1, fun i hi => (h.2.2.2.2.2 i hi).2.1, h⟩⟩
theorem dvrow_o {w w' : World} {g n : Nat} {G : Nat → Nat} {ds : List Bl} (h : DvRow w' w.heap.size g n n G ds) : DvO w' w.heap.size w'.heap.size (some ⟨g, 0, none⟩) n ds :=
  Or.inr ⟨g, G, rfl, h.2.2.1, fun i hi => (h.2.2.2.2.2 i hi).2.1, h⟩

end Go.Proofs.Yteekikaebmkioaa
