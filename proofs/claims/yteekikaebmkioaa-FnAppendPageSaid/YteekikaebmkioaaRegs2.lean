/-auto The invariant of a drawn region: what old memory holds, kept by calls, new blocks and stores into new blocks. -/
import Derived.Test.YteekikaebmkioaaPages2
import Derived.Deep.RegionHeld3
import Derived.Deep.DeepCutAuto
namespace Go.Proofs.Yteekikaebmkioaa
open Go.RowKit
theorem reg_drew {B : Nat} {W w' : World} (h : Below B W w') : Below B W w'.drew := h.drew
theorem reg_call {B : Nat} {W w' w1 : World} (h : Below B W w') (hb : Below w'.heap.size w' w1) (hB : B ≤ W.heap.size) : Below B W w1 := h.trans (hb.mono (Nat.le_trans hB h.size))
theorem reg_alloc {B : Nat} {W w' : World} (h : Below B W w') (hB : B ≤ W.heap.size) (o : Obj) : Below B W (w'.alloc o) := h.alloc (Nat.le_trans hB h.size) o
theorem reg_swap {B : Nat} {W w' : World} {o : Obj} (h : Below B W (w'.alloc o)) (hB : B ≤ w'.heap.size) (o' : Obj) : Below B W (w'.alloc o') :=
  ⟨h.os, h.tape, h.output, by have := h.size; simpa using this, fun k hk => by
    rw [Below.heap_alloc _ _ _ (by omega), ← Below.heap_alloc w' o k (by omega)]; exact h.block k hk⟩
theorem reg_size {B : Nat} {W w' w1 : World} (h : Below B W w') (hb : Below w'.heap.size w' w1) (hB : B ≤ W.heap.size) : B ≤ w1.heap.size := Nat.le_trans hB (Nat.le_trans h.size hb.size)
section
variable {P : Program} {ops : Array Oper} {Q : Exit → Act → World → Prop} {md : Region.Mode} {S : World → Prop}
theorem reg_take (i d : Nat) {oi : Oper} {v : Value} {fuel : Nat} {listed : Array Bool} {a : Act} {w : World} (hi : ops[i]? = some oi) (hd : oi.dst = some d)
    (hs : Region.noSelect ops = true) (hf : Region.free md ops listed i = true) (hr : (Region.ready md ops listed).contains i = true)
    (hQ : ∀ c a w, Q (.panic c) (a.put (some d) v) w → Q (.panic c) a w) (hy : YieldsIf P ops S oi v a) (hS : S w)
    (h : wpAnyH P md ops Q S fuel (listed.setIfInBounds i true) (a.put (some d) v) w) : wpAnyH P md ops Q S (fuel + 1) listed a w :=
  wpAnyH_take hi hs hf hr (by rw [hd]; exact hQ) hy hS (by rw [hd]; exact h)
theorem reg_begin {id : Nat} {a : Act} {w : World} (hm : P.follows .mixedOrders = true)
    (h : Below w.heap.size w w.drew → wpAnyH P .any ops Q (fun w' => Below w.heap.size w w') ops.size (Array.replicate ops.size false) a w.drew) : (Code.region id ops true).wp P Q a w :=
  wp_region_held_drew hm (Below.refl _ _).drew h
theorem bcellB {B : Nat} {W w1 : World} (hb : Below B W w1) : ∀ b o, b < B → w1.cell? ⟨b, o, none⟩ = W.cell? ⟨b, o, none⟩ := fun b o h => hb.cell (p := ⟨b, o, none⟩) h
theorem put_lit (l : List Value) (ds : List Deferred) (d : Nat) (v : Value) : ({ tmps := l.toArray, defers := ds } : Act).put (some d) v = { tmps := (l.set d v).toArray, defers := ds } := by simp [Act.put]
end

end Go.Proofs.Yteekikaebmkioaa
