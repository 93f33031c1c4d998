/- Memory: pages, slices of pages, devices as they lie in a world. -/
import Derived.Test.YteekikaebmkioaaBlocksPlain
import Derived.Test.YteekikaebmkioaaPages2
namespace Go.Proofs.Yteekikaebmkioaa
open Go.RowKit
set_option linter.unusedVariables false

/-- the five cells of a page -/
def C5 (w : World) (b o : Nat) (p : Pg) : Prop :=
  w.cell? ⟨b, o, none⟩ = some (.bool p.full) ∧ w.cell? ⟨b, o + 1, none⟩ = some (.int .i64 p.file) ∧ w.cell? ⟨b, o + 2, none⟩ = some (.int .i64 p.place) ∧ w.cell? ⟨b, o + 3, none⟩ = some (.int .i64 p.value) ∧ w.cell? ⟨b, o + 4, none⟩ = some (.int .i64 p.stamp)
/-- a slice value that reads as a list of pages -/
def PgsAt (w : World) (A : Option Addr) (n : Nat) (ps : List Pg) : Prop :=
  ps.length = n ∧ n ≤ 9223372036854775807 ∧ (0 < n → ∃ b o, A = some ⟨b, o, none⟩ ∧ ∀ i, i < n → C5 w b (o + i * 5) (pgAt ps i))
/-- block i of a device: its two cells, and its pages -/
def BlkAt (w : World) (b o : Nat) (x : Bl) : Prop :=
  ∃ A n c, w.cell? ⟨b, o, none⟩ = some (.int .i64 x.wear) ∧ w.cell? ⟨b, o + 1, none⟩ = some (.slice A n c) ∧ PgsAt w A n x.pages
/-- a slice value that reads as a device -/
def DevAt (w : World) (A : Option Addr) (n : Nat) (ds : List Bl) : Prop :=
  ds.length = n ∧ n ≤ 9223372036854775807 ∧ (0 < n → ∃ b o, A = some ⟨b, o, none⟩ ∧ ∀ i, i < n → BlkAt w b (o + i * 2) (blAt ds i))

section
variable {w w' : World}
/-- what is there stays there -/
def Stays (w w' : World) : Prop := ∀ b o v, w.cell? ⟨b, o, none⟩ = some v → w'.cell? ⟨b, o, none⟩ = some v
theorem stays_below (hb : Below w.heap.size w w') : Stays w w' := fun b o v h => (hb.cell (p := ⟨b, o, none⟩) (block_lt_of_cell h)).trans h
theorem C5.keep {b o : Nat} {p : Pg} (h : C5 w b o p) (hs : Stays w w') : C5 w' b o p :=
  ⟨hs _ _ _ h.1, hs _ _ _ h.2.1, hs _ _ _ h.2.2.1, hs _ _ _ h.2.2.2.1, hs _ _ _ h.2.2.2.2⟩
theorem PgsAt.keepS {A : Option Addr} {n : Nat} {ps : List Pg} (h : PgsAt w A n ps) (hs : Stays w w') : PgsAt w' A n ps :=
  ⟨h.1, h.2.1, fun hn => by
    obtain ⟨b, o, e, hc⟩ := h.2.2 hn
    exact ⟨b, o, e, fun i hi => (hc i hi).keep hs⟩⟩
theorem PgsAt.keep {A : Option Addr} {n : Nat} {ps : List Pg} (h : PgsAt w A n ps) (hb : Below w.heap.size w w') : PgsAt w' A n ps := h.keepS (stays_below hb)
theorem BlkAt.keepS {b o : Nat} {x : Bl} (h : BlkAt w b o x) (hs : Stays w w') : BlkAt w' b o x := by
  obtain ⟨A, n, c, h1, h2, h3⟩ := h
  exact ⟨A, n, c, hs _ _ _ h1, hs _ _ _ h2, h3.keepS hs⟩
theorem DevAt.keepS {A : Option Addr} {n : Nat} {ds : List Bl} (h : DevAt w A n ds) (hs : Stays w w') : DevAt w' A n ds :=
  ⟨h.1, h.2.1, fun hn => by
    obtain ⟨b, o, e, hc⟩ := h.2.2 hn
    exact ⟨b, o, e, fun i hi => (hc i hi).keepS hs⟩⟩
theorem DevAt.keep {A : Option Addr} {n : Nat} {ds : List Bl} (h : DevAt w A n ds) (hb : Below w.heap.size w w') : DevAt w' A n ds := h.keepS (stays_below hb)
theorem PgsAt.nil (A : Option Addr) : PgsAt w A 0 [] := ⟨rfl, by omega, fun h => absurd h (by omega)⟩
theorem DevAt.nil (A : Option Addr) : DevAt w A 0 [] := ⟨rfl, by omega, fun h => absurd h (by omega)⟩
end
end Go.Proofs.Yteekikaebmkioaa
