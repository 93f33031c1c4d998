/-auto What the drawing functions of sets, words, pages and small numbers give, for every code. -/
import Derived.Test.YteekikaebmkioaaDraws2
import Derived.Deep.RegionHeld3
namespace Go.Proofs.Yteekikaebmkioaa
open Go.RowKit
set_option linter.unusedVariables false

/-- some number, the reader asked at most M times, all else as before -/
def DrawnI (g : Nat) (A : Option Addr) (n c M : Nat) (w : World) (e : Ending) (w' : World) : Prop :=
  ∃ s : Int, e = .returned (.int .i64 s) ∧ Rdr w' g A n c M ∧ Kp g w w'
theorem pick_c (g : Nat) (A : Option Addr) (n c M : Nat) (N : Int) (w : World) (h : Rdr w g A n c M) (hM : M ≤ 100000) (hN : 1 ≤ N) :
    Calls Try.prog 67 #[.pointer (some ⟨g, 0, none⟩), .int .i64 N] w fun e w' => ∃ r : Int, e = .returned (.int .i64 r) ∧ 0 ≤ r ∧ r < N ∧ Rdr w' g A n c (M + 1) ∧ Kp g w w' :=
  (pick_any g A n c M N w h hM).mono fun _ _ ⟨r, he, h0, h1, hR, hK⟩ => ⟨r, he, h0, h1 hN, hR, hK⟩
theorem kcell {g : Nat} {a w : World} (h : Kp g a w) {b : Nat} (hb : b < a.heap.size) (hne : b ≠ g) : ∀ o, w.cell? ⟨b, o, none⟩ = a.cell? ⟨b, o, none⟩ := fun _ => h.cell hb hne
theorem kfroz {g : Nat} {a w : World} (h : Kp g a w) {b : Nat} (hb : b < a.heap.size) (hne : b ≠ g) : ∀ o, w.frozen? ⟨b, o, none⟩ = a.frozen? ⟨b, o, none⟩ :=
  fun _ => World.frozen?_of_block (w := a) (h.block b hb (fun e => hne (by injection e)))

/-- numbers drawn off a code; old memory as before -/
def Got1 (w : World) (e : Ending) (w' : World) : Prop := ∃ s : Int, e = .returned (.int .i64 s) ∧ Below w.heap.size w w'
def Got2 (w : World) (e : Ending) (w' : World) : Prop := ∃ s t : Int, e = .returned (.tuple #[.int .i64 s, .int .i64 t]) ∧ Below w.heap.size w w'
def Got3 (w : World) (e : Ending) (w' : World) : Prop := ∃ (s t : Int) (b : Bool), e = .returned (.tuple #[.int .i64 s, .int .i64 t, .bool b]) ∧ Below w.heap.size w w'
theorem got {w w1 w2 : World} (hb : Below w.heap.size w w1) (hK : Kp w.heap.size w1 w2) : Below w.heap.size w w2 := hb.trans (hK.below (Nat.le_refl _) hb.size)




end Go.Proofs.Yteekikaebmkioaa
