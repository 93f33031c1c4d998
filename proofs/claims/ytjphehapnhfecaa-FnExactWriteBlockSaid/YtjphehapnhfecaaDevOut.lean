/-auto Devices that calls hand back: kept, marked. -/
import Derived.Test.YtjphehapnhfecaaMarks2
import Derived.Test.YtjphehapnhfecaaEraseAt
import Derived.LoopN
namespace Go.Proofs.Ytjphehapnhfecaa
open Go.RowKit
set_option linter.unusedVariables false

/-- a device of a call's own, in blocks from lo up to hi -/
def DvO (w : World) (lo hi : Nat) (A : Option Addr) (n : Nat) (ds : List Bl) : Prop := (n = 0 ∧ ds = []) ∨ ∃ g G, A = some ⟨g, 0, none⟩ ∧ g < hi ∧ (∀ i, i < n → G i < hi) ∧ DvRow w lo g n n G ds
theorem DvO.at {w : World} {lo hi n : Nat} {A : Option Addr} {ds : List Bl} (h : DvO w lo hi A n ds) (hn : n ≤ 9223372036854775807) : DevAt w A n ds := by
  rcases h with ⟨rfl, rfl⟩ | ⟨g, G, rfl, _, _, h⟩
  · exact DevAt.nil _
  · exact h.at hn
theorem DvO.keep {w w' : World} {lo hi n : Nat} {A : Option Addr} {ds : List Bl} (h : DvO w lo hi A n ds) (hb : Below w.heap.size w w') : DvO w' lo hi A n ds := by
  rcases h with h | ⟨g, G, h1, h2, h3, h⟩
  · exact Or.inl h
  · exact Or.inr ⟨g, G, h1, h2, h3, h.keep hb⟩
theorem DvO.chgI {w w' : World} {lo hi lo' hi' n : Nat} {A : Option Addr} {ds : List Bl} (h : DvO w lo hi A n ds) (hd : hi ≤ lo' ∨ hi' ≤ lo) (hc : ChgI lo' hi' w w') : DvO w' lo hi A n ds := by
  rcases h with h | ⟨g, G, h1, h2, h3, h⟩
  · exact Or.inl h
  · have hg := h.2.1
    exact Or.inr ⟨g, G, h1, h2, h3, h.chgI (by omega) (fun i hi => by have := h3 i hi; have := (h.2.2.2.2.2 i hi).1; omega) hc⟩
theorem devout {w w' : World} {ds : List Bl} {v : Value} (h : DevOut w w' ds v) : ∃ A c, v = .slice A ds.length c ∧ DvO w' w.heap.size w'.heap.size A ds.length ds := by
  obtain ⟨A, n, c, rfl, h⟩ := h
  rcases h with ⟨rfl, rfl⟩ | ⟨g, G, rfl, hn, h⟩
  · exact ⟨A, c, rfl, Or.inl ⟨rfl, rfl⟩⟩
  · obtain rfl : ds.length = n := h.1
    exact ⟨_, c, rfl, Or.inr ⟨g, G, rfl, h.2.2.1, fun i hi => (h.2.2.2.2.2 i hi).2.1, h⟩⟩
theorem dvrow_o {w w' : World} {g n : Nat} {G : Nat → Nat} {ds : List Bl} (h : DvRow w' w.heap.size g n n G ds) : DvO w' w.heap.size w'.heap.size (some ⟨g, 0, none⟩) n ds :=
  Or.inr ⟨g, G, rfl, h.2.2.1, fun i hi => (h.2.2.2.2.2 i hi).2.1, h⟩

set_option maxHeartbeats 400000 in
theorem markO_any (A : Option Addr) (n c lo hi : Nat) (ds : List Bl) (w : World) (h : DvO w lo hi A n ds) (hn : n ≤ 1048576) (hp : ∀ i, i < n → (blAt ds i).pages.length ≤ 1048576) :
    Calls Try.prog 20 #[.slice A n c, .int .i64 1] w fun e w' => e = .returned (.int .i64 (yAt ds 1 n)) ∧ DvO w' lo hi A n (markD ds 1 n) ∧ ChgI lo hi w w' := by
  rcases h with ⟨rfl, rfl⟩ | ⟨g, G, rfl, h1, h2, h⟩
  · go_enter Try.func20, Try.ntmps20
    go_wp2
    refine wp_loop_rounds 1 ?_
    rw [rounds_succ]
    go_wp2
    go_ret
    exact ⟨by rw [yAt_zero]; rfl, Or.inl ⟨rfl, rfl⟩, ChgI.refl _ _ _⟩
  · refine (markBlockS_any g n c lo hi G ds w h hn hp h1 h2).mono ?_
    rintro e w1 ⟨rfl, h3, h4⟩
    exact ⟨rfl, Or.inr ⟨g, G, rfl, h1, h2, h3⟩, h4⟩
theorem ea_lens (ds : List Bl) (n : Nat) (x : Int) (hl : ds.length = n) (hp : ∀ i, i < n → (blAt ds i).pages.length ≤ 1048576) :
    (eraseAtF ds x).1.length ≤ n ∧ ∀ i, i < (eraseAtF ds x).1.length → (blAt (eraseAtF ds x).1 i).pages.length ≤ 1048576 := by
  cases hv : deviceValidF ds
  · rw [ea_1 ds x hv]; exact ⟨Nat.zero_le _, fun i hi => absurd hi (by simp)⟩
  · by_cases hx : 0 ≤ x ∧ x < n
    · obtain ⟨k, rfl⟩ : ∃ k : Nat, x = (k : Int) := ⟨x.toNat, by omega⟩
      rw [ea_3 ds n k hl hv (by omega)]
      dsimp only
      rw [List.length_set, hl]
      refine ⟨Nat.le_refl _, fun i hi => ?_⟩
      rw [blAt_set ds k i _ (by omega)]
      split
      · rw [eb_four _ (dv_at ds n k hl hv (by omega))]; omega
      · exact hp i hi
    · rw [ea_2 ds n x hl hx]; exact ⟨Nat.zero_le _, fun i hi => absurd hi (by simp)⟩

end Go.Proofs.Ytjphehapnhfecaa
