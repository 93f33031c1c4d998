/-auto What slices.Clone returns on four pages; the copies of a block; NewBlock. -/
import Derived.Test.YtjklpdidieakkaaMem4
import Derived.Test.YtjklpdidieakkaaBlocks2
import Derived.Test.YtjklpdidieakkaaRegs2
import Derived.Lib.SliceRun
namespace Go.Proofs.Ytjklpdidieakkaa
open Go.RowKit
set_option linter.unusedVariables false

theorem infoPage : (Try.prog.info? 40).map (fun i => (i.zero, i.size, i.bytes)) = some (some zPage, 5, 40) := by kernel_rfl

theorem nb_1 (x : Int) (h : 0 ≤ x ∧ x ≤ 100) : newBlockF x = ⟨x, [Pg.zero, Pg.zero, Pg.zero, Pg.zero]⟩ := by rw [newBlockF, inB_t h.1 h.2]; rfl
theorem inB_f {x : Int} (h : ¬ (0 ≤ x ∧ x ≤ 100)) : inB x 0 100 = false := by simp only [inB, Bool.and_eq_false_iff, decide_eq_false_iff_not]; omega
theorem nb_2 (x : Int) (h : ¬ (0 ≤ x ∧ x ≤ 100)) : newBlockF x = ⟨0, []⟩ := by rw [newBlockF, inB_f h]; rfl

set_option maxHeartbeats 400000 in
theorem iNewBlock (x : Int) (w : World) :
    Calls Try.prog 5 #[.int .i64 x] w fun e w' => ∃ v, e = .returned v ∧ BlkOut w w' (newBlockF x) v ∧ Below w.heap.size w w' := by
  have hmk : ∀ w, (Instr.makeSlice 24 (.int .i64 4) (.int .i64 4)).run Try.prog w = .ok (.slice (some ⟨w.heap.size, 0, none⟩) 4 4) (w.alloc (.cells (madeCells #[.bool false, .int .i64 0, .int .i64 0, .int .i64 0, .int .i64 0] (4 * 5)) 40)) := make_row (P := Try.prog) (t := 24) (e := 40) (size := 5) (bytes := 40) (z := zPage) Try.underlying24 infoPage 4 (by omega) (by omega)
  by_cases hx : 0 ≤ x ∧ x ≤ 100
  · have HF := Lib.hid (nb_1 x hx)
    have hin := inB_t hx.1 hx.2
    obtain ⟨h0, h1⟩ := hx
    go_enter Try.func5, Try.ntmps5
    go_wp2
    refine bodyPost_ret (v := .agg #[.int .i64 x, .slice (some ⟨w.heap.size + 1, 0, none⟩) 4 4]) (by simp [results, Try.results5, go_sem]) rfl ⟨_, rfl, ?_, bel_2 _ _ _⟩
    rw [HF.out]
    refine ⟨some ⟨w.heap.size + 1, 0, none⟩, 4, 4, w.heap.size + 1, rfl, by omega, by omega, Or.inr ⟨rfl, ?_⟩⟩
    have h := pgrow_made (w.alloc (.cells #[.int .i64 x, .slice (some ⟨w.heap.size + 1, 0, none⟩) 4 4] 26)) 4 40
    rw [World.size_alloc] at h
    exact h
  · have HF := Lib.hid (nb_2 x hx)
    have hin := inB_f hx
    by_cases h0 : x < 0
    all_goals (try have h1 : 100 < x := by omega)
    all_goals clear hx
    all_goals
      go_enter Try.func5, Try.ntmps5
      go_wp2
      refine bodyPost_ret (v := .agg #[.int .i64 0, .slice none 0 0]) (by simp [results, Try.results5, go_sem]) rfl ⟨_, rfl, ?_, bel_1 _ _⟩
      rw [HF.out]
      exact ⟨none, 0, 0, w.heap.size, rfl, by omega, Nat.le_refl _, Or.inl ⟨rfl, rfl⟩⟩

set_option maxHeartbeats 400000 in
theorem sNewBlock (x : Int) (w : World) :
    Calls Try.prog 7 #[.int .i64 x] w fun e w' => ∃ v, e = .returned v ∧ BlkOut w w' (newBlockF x) v ∧ Below w.heap.size w w' := by
  have hmk : ∀ w, (Instr.makeSlice 24 (.int .i64 4) (.int .i64 4)).run Try.prog w = .ok (.slice (some ⟨w.heap.size, 0, none⟩) 4 4) (w.alloc (.cells (madeCells #[.bool false, .int .i64 0, .int .i64 0, .int .i64 0, .int .i64 0] (4 * 5)) 40)) := make_row (P := Try.prog) (t := 24) (e := 40) (size := 5) (bytes := 40) (z := zPage) Try.underlying24 infoPage 4 (by omega) (by omega)
  by_cases hx : 0 ≤ x ∧ x ≤ 100
  · have HF := Lib.hid (nb_1 x hx)
    have hin := inB_t hx.1 hx.2
    obtain ⟨h0, h1⟩ := hx
    go_enter Try.func7, Try.ntmps7
    go_wp2_with (go_at_call 14; refine (l1In_any _ _ _ _).mono ?_; rintro e w' ⟨rfl, rfl⟩)
    refine bodyPost_ret (v := .agg #[.int .i64 x, .slice (some ⟨w.heap.size + 1, 0, none⟩) 4 4]) (by simp [results, Try.results7, go_sem]) rfl ⟨_, rfl, ?_, bel_2 _ _ _⟩
    rw [HF.out]
    refine ⟨some ⟨w.heap.size + 1, 0, none⟩, 4, 4, w.heap.size + 1, rfl, by omega, by omega, Or.inr ⟨rfl, ?_⟩⟩
    have h := pgrow_made (w.alloc (.cells #[.int .i64 x, .slice (some ⟨w.heap.size + 1, 0, none⟩) 4 4] 26)) 4 40
    rw [World.size_alloc] at h
    exact h
  · have HF := Lib.hid (nb_2 x hx)
    have hin := inB_f hx
    skip
    go_enter Try.func7, Try.ntmps7
    go_wp2_with (go_at_call 14; refine (l1In_any _ _ _ _).mono ?_; rintro e w' ⟨rfl, rfl⟩)
    refine bodyPost_ret (v := .agg #[.int .i64 0, .slice none 0 0]) (by simp [results, Try.results7, go_sem]) rfl ⟨_, rfl, ?_, bel_1 _ _⟩
    rw [HF.out]
    exact ⟨none, 0, 0, w.heap.size, rfl, by omega, Nat.le_refl _, Or.inl ⟨rfl, rfl⟩⟩

end Go.Proofs.Ytjklpdidieakkaa
