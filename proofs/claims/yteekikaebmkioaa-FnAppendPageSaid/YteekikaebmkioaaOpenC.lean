/- Opening a code: a slice of bytes that came in. -/
import Derived.Test.YteekikaebmkioaaLawKit
import Derived.Test.YteekikaebmkioaaDraws2
import Derived.ChangeSlices
namespace Go.Proofs.Yteekikaebmkioaa
open Go.RowKit Go.ChangeShapes Go.WideShapes

theorem spot_none {w : World} {a : Addr} {v : Value} (h : w.cell? a = some v) : a.spot = none := by
  unfold World.cell? at h
  split at h
  · split at h
    · cases h
    · rename_i hs; cases hq : a.spot
      · rfl
      · rw [hq] at hs; simp at hs
  · cases h

theorem addr_add {a : Addr} (hs : a.spot = none) (j : Nat) : a.add j = ⟨a.block, a.off + j, none⟩ := by
  obtain ⟨b, o, s⟩ := a
  simp only at hs
  subst hs
  exact Addr.add_lit b o j

theorem open_c {H : Type} {enc : TypeId × Value → H} {P : Program} {w : World} {base : Nat} {spare : Nat → Bool} {held : Bool} {r : Reach} {b0 : Nat} {t e : TypeId} {v : Value} {d : DataW H} {ps : List MemPlace}
    (ht : P.underlying t = some (.slice e)) (he : P.underlying e = some (.int .u8)) (hc : P.cellsOf e = 1)
    (hv : Value.okWide P w r b0 t v) (h : DataW.Trod enc P w base spare held t v d ps) : ∃ x : Cd, v = x.val ∧ CodeArg w x := by
  obtain ⟨a, len, cap, rfl⟩ := okWide_slice ht hv
  obtain ⟨fuel, hf⟩ := h
  rcases open_ints ht he hc hf with ⟨hcs, _⟩ | ⟨ad, len', cap', zs, hcs, _, hl, hm, hz, _, hcell, hwf⟩
  · simp only [Value.cells, List.cons.injEq, Value.slice.injEq, and_true] at hcs
    obtain ⟨rfl, rfl, rfl⟩ := hcs
    exact ⟨⟨none, 0, 0⟩, rfl, Nat.le_refl _, Nat.zero_le _, .inl rfl⟩
  · simp only [Value.cells, List.cons.injEq, Value.slice.injEq, and_true] at hcs
    obtain ⟨rfl, rfl, rfl⟩ := hcs
    refine ⟨⟨some ad, len, cap⟩, rfl, hl, hm, ?_⟩
    have hlz : len ≤ zs.length := by rw [hz]; split <;> omega
    rcases Nat.eq_zero_or_pos len with h0 | h0
    · exact .inl h0
    · have hs : ad.spot = none := by
        have := hcell 0 (by omega)
        rw [Addr.add_zero'] at this
        exact spot_none this
      refine .inr ⟨ad.block, ad.off, by obtain ⟨b, o, s⟩ := ad; simp only at hs; subst hs; rfl, fun j hj => ?_⟩
      have hx := hcell j (by simp only at hj; omega)
      rw [addr_add hs] at hx
      have hw := hwf (zs.getD j 0) (by
        have hj' : j < zs.length := by simp only at hj; omega
        rw [List.getD_eq_getElem?_getD, List.getElem?_eq_getElem hj']; simp)
      generalize zs.getD j 0 = z at hw hx
      refine ⟨z, ?_, ?_, hx⟩ <;> (simp [Lit.wf, IntKind.min, IntKind.max, IntKind.signed, IntKind.bits] at hw; omega)
end Go.Proofs.Yteekikaebmkioaa
