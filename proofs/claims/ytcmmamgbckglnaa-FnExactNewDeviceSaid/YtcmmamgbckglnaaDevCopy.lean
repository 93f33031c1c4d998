/-auto What the copies of a device return. -/
import Derived.Test.YtcmmamgbckglnaaWrite
import Derived.Test.YtcmmamgbckglnaaDevices2
import Derived.Test.YtcmmamgbckglnaaCopies2
import Derived.Deep.LoopGhost
import Derived.Laws.AppendOwn
namespace Go.Proofs.Ytcmmamgbckglnaa
open Go.RowKit
set_option linter.unusedVariables false

theorem infoBlock : (Try.prog.info? 24).map (fun i => (i.zero, i.size, i.bytes)) = some (some (.agg #[.int .i64 0, .slice none 0 0]), 2, 32) := by kernel_rfl

/-- the cells of the first k blocks of a device -/
def flat2 (ds : List Bl) (G C : Nat → Nat) (k : Nat) : List Value := (List.range (k * 2)).map fun j => if j % 2 = 0 then .int .i64 (blAt ds (j / 2)).wear else .slice (some ⟨G (j / 2), 0, none⟩) 4 (C (j / 2))
theorem flat2_len (ds : List Bl) (G C : Nat → Nat) (k : Nat) : (flat2 ds G C k).length = k * 2 := by simp [flat2]
theorem flat2_at (ds : List Bl) (G C : Nat → Nat) (k j : Nat) (hj : j < k * 2) : (flat2 ds G C k)[j]? = some (if j % 2 = 0 then .int .i64 (blAt ds (j / 2)).wear else .slice (some ⟨G (j / 2), 0, none⟩) 4 (C (j / 2))) := by simp [flat2, hj]
theorem flat2_succ (ds : List Bl) (G C : Nat → Nat) (k g c : Nat) (z : Int) (hz : (blAt ds k).wear = z) :
    flat2 ds G C k ++ [.int .i64 z, .slice (some ⟨g, 0, none⟩) 4 c] = flat2 ds (fun j => if j = k then g else G j) (fun j => if j = k then c else C j) (k + 1) := by
  have e : (k + 1) * 2 = k * 2 + 1 + 1 := by omega
  simp only [flat2]
  rw [e, List.range_succ, List.range_succ, List.map_append, List.map_append, List.append_assoc]
  congr 1
  · refine List.map_congr_left fun j hj => ?_
    have hj' : j < k * 2 := by simpa using hj
    have : ¬ j / 2 = k := by omega
    simp [this]
  · simp only [List.map_cons, List.map_nil, List.cons_append, List.nil_append]
    rw [show k * 2 % 2 = 0 by omega, show k * 2 / 2 = k by omega, show (k * 2 + 1) % 2 = 1 by omega, show (k * 2 + 1) / 2 = k by omega]
    simp [hz]
theorem own_dev {w : World} {base e n : Nat} {v : Value} {ds : List Bl} {G C : Nat → Nat} (hl : ds.length = n) (hn : 0 < n) (h : w.ownsRow base e 2 v n (flat2 ds G C n))
    (hG : ∀ i, i < n → base ≤ G i ∧ (∀ j, j < n → j ≠ i → G j ≠ G i) ∧ PgRow w (G i) 4 (blAt ds i).pages) : ∃ g c, v = .slice (some ⟨g, 0, none⟩) n c ∧ DvRow w base g n n G ds := by
  rcases h.2 with ⟨_, h0⟩ | ⟨g, cap, cur, rfl, hb, hg, hnc, hcm, hcs, htake⟩
  · omega
  · have hc : ∀ j, j < n * 2 → w.cell? ⟨g, j, none⟩ = some (if j % 2 = 0 then .int .i64 (blAt ds (j / 2)).wear else .slice (some ⟨G (j / 2), 0, none⟩) 4 (C (j / 2))) := by
      intro j hj
      rw [cell_of_row w g _ cur e _ hg, ← Array.getElem?_toList]
      have h1 := flat2_at ds G C n j hj
      rw [← htake, List.getElem?_take, if_pos (by omega)] at h1
      exact h1
    have h0 : ∀ i, i < n → w.cell? ⟨g, i * 2, none⟩ = some (.int .i64 (blAt ds i).wear) := fun i hi => by
      rw [hc (i * 2) (by omega), if_pos (by omega), show i * 2 / 2 = i by omega]
    have h1 : ∀ i, i < n → w.cell? ⟨g, i * 2 + 1, none⟩ = some (.slice (some ⟨G i, 0, none⟩) 4 (C i)) := fun i hi => by
      rw [hc (i * 2 + 1) (by omega), if_neg (by omega), show (i * 2 + 1) / 2 = i by omega]
    refine ⟨g, cap, rfl, hl, hb, (Array.getElem?_eq_some_iff.1 hg).1, fun j => frozen_of_row w g j cur e hg, fun i hi => ⟨_, _, h0 i hi, h1 i hi⟩, fun i hi => ?_⟩
    obtain ⟨g1, g2, g3⟩ := hG i hi
    refine ⟨g1, g3.2.1, fun e2 => ?_, g2, some ⟨G i, 0, none⟩, 4, C i, by omega, h0 i hi, h1 i hi, Or.inr ⟨rfl, g3⟩⟩
    have hx := (g3.2.2.1 0 (by omega)).1
    rw [e2, Nat.zero_mul] at hx
    have hy := h0 0 hn
    rw [Nat.zero_mul] at hy
    rw [hy] at hx
    cases hx

theorem cell_two (w : World) (x y : Value) (t : TypeId) : ∀ j u, [x, y][j]? = some u → (w.alloc (.cells #[x, y] t)).cell? ((⟨w.heap.size, 0, none⟩ : Addr).add j) = some u := by
  intro j u h
  rw [Addr.add_lit, Nat.zero_add, cell_of_row _ _ _ _ _ _ (heap_new w _), ← Array.getElem?_toList]
  exact h
theorem own_keep {w w' : World} {base e size n : Nat} {v : Value} {xs : List Value} (h : w.ownsRow base e size v n xs) (hb : Below w.heap.size w w') : w'.ownsRow base e size v n xs := by
  refine ⟨h.1, ?_⟩
  rcases h.2 with h0 | ⟨g, cap, cur, h1, h2, hg, h3⟩
  · exact Or.inl h0
  · exact Or.inr ⟨g, cap, cur, h1, h2, (hb.block g (Array.getElem?_eq_some_iff.1 hg).1).trans hg, h3⟩
theorem own_ne {w : World} {base e k g : Nat} {v : Value} {ds : List Bl} {G C : Nat → Nat} {ps : List Pg} (h : w.ownsRow base e 2 v k (flat2 ds G C k)) (hk : 0 < k) (hr : PgRow w g 4 ps) : v.ownBlock ≠ some g := by
  rcases h.2 with ⟨_, h0⟩ | ⟨g', cap, cur, rfl, hb, hg, hnc, hcm, hcs, htake⟩
  · omega
  · intro e2
    simp only [Value.ownBlock, Option.some.injEq] at e2
    subst e2
    have hx := (hr.2.2.1 0 (by omega)).1
    rw [Nat.zero_mul, cell_of_row w _ _ cur e _ hg, ← Array.getElem?_toList] at hx
    have h1 := flat2_at ds G C k 0 (by omega)
    rw [← htake, List.getElem?_take, if_pos (by omega), hx] at h1
    simp at h1
theorem PgRow.grown {w w' : World} {g n : Nat} {ps : List Pg} {row : Option Nat} (h : PgRow w g n ps) (hg : w.grownBy w' row) (hne : row ≠ some g) : PgRow w' g n ps := by
  have hb := hg.block g h.2.1 (fun e => hne e.symm)
  have hc : ∀ o, w'.cell? ⟨g, o, none⟩ = w.cell? ⟨g, o, none⟩ := fun o => World.cell?_of_block (w := w) hb
  exact ⟨h.1, Nat.lt_of_lt_of_le h.2.1 hg.size, fun i hi => by
    obtain ⟨h0, h1, h2, h3, h4⟩ := h.2.2.1 i hi
    exact ⟨(hc _).trans h0, (hc _).trans h1, (hc _).trans h2, (hc _).trans h3, (hc _).trans h4⟩, fun j => (World.frozen?_of_block (w := w) hb).trans (h.2.2.2 j)⟩

end Go.Proofs.Ytcmmamgbckglnaa
