/- The law FnExactNewerPage: for every two pages the program's NewerPage returns what the reference's returns, so the law returns true. No conditions. -/
import Derived.Test.YtimcegafjphkkaaRows
import Derived.Test.YtimcegafjphkkaaLawKit
import Derived.Test.YtimcegafjphkkaaRegs2
import Derived.Deep.RegionHeld3
namespace Go.Proofs.Ytimcegafjphkkaa
open Go.RowKit
set_option linter.unusedVariables false

set_option maxHeartbeats 4000000 in
theorem walk_FnExactNewerPage (a0 : Pg) (a1 : Pg) (w : World) :
    Calls Try.prog 13 #[a0.val, a1.val] w fun e w' => e = .returned (.bool true) ∧ Below w.heap.size w w' := by
  obtain ⟨b0, f0, p0, v0, s0⟩ := a0
  obtain ⟨b1, f1, p1, v1, s1⟩ := a1
  obtain ⟨⟨rb, rf, rp, rv, rs⟩, HN⟩ : ∃ r : Pg, Hid (newerF ⟨b0, f0, p0, v0, s0⟩ ⟨b1, f1, p1, v1, s1⟩ = r) := ⟨_, rfl⟩
  have HE := Lib.hid (pgEq_refl ⟨rb, rf, rp, rv, rs⟩)
  simp only [Pg.val]
  go_enter Try.func13, Try.ntmps13
  go_upto_region 1 with fail
  have HB0 := Lib.hid (bel_2 w (.cells #[.bool b0, .int .i64 f0, .int .i64 p0, .int .i64 v0, .int .i64 s0] 30) (.cells #[.bool b1, .int .i64 f1, .int .i64 p1, .int .i64 v1, .int .i64 s1] 30))
  obtain ⟨a0, a1, a2, a3, a4, c0, c1, c2, c3, c4, _⟩ := ppMk b0 f0 p0 v0 s0 b1 f1 p1 v1 s1 w _ (Below.refl _ _)
  have hsz : ((w.alloc (.cells #[.bool b0, .int .i64 f0, .int .i64 p0, .int .i64 v0, .int .i64 s0] 30)).alloc (.cells #[.bool b1, .int .i64 f1, .int .i64 p1, .int .i64 v1, .int .i64 s1] 30)).heap.size = w.heap.size + 1 + 1 := by simp
  generalize ((w.alloc (.cells #[.bool b0, .int .i64 f0, .int .i64 p0, .int .i64 v0, .int .i64 s0] 30)).alloc (.cells #[.bool b1, .int .i64 f1, .int .i64 p1, .int .i64 v1, .int .i64 s1] 30)) = W at *
  have hsA : w.heap.size < W.heap.size := by omega
  have hsB : w.heap.size + 1 < W.heap.size := by omega
  clear hsz
  go_cut [5] (fun x5 wx => ∃ g : Nat, x5 = .pointer (some ⟨g, 0, none⟩) ∧ W.heap.size ≤ g ∧ g < wx.heap.size ∧ (wx.cell? ⟨g, 0, none⟩ = some (.bool rb) ∧ wx.cell? ⟨g, 1, none⟩ = some (.int .i64 rf) ∧ wx.cell? ⟨g, 2, none⟩ = some (.int .i64 rp) ∧ wx.cell? ⟨g, 3, none⟩ = some (.int .i64 rv) ∧ wx.cell? ⟨g, 4, none⟩ = some (.int .i64 rs)) ∧ Below W.heap.size W wx)
  case first =>
    refine reg_begin (by kernel_rfl) (fun hHeld => ?_)
    refine reg_take 0 7 (v := ?_) rfl rfl (by kernel_rfl) (by kernel_rfl) (by kernel_rfl) (fun _ _ _ h => h) (Or.inl ⟨by rfl, ?_⟩) hHeld ?_
    rotate_left 1
    · intro wS hSw; have hqS := bcellB hSw; go_simp <;> with_reducible rfl
    simp only [put_lit, List.set_cons_zero, List.set_cons_succ]
    refine reg_take 2 9 (v := ?_) rfl rfl (by kernel_rfl) (by kernel_rfl) (by kernel_rfl) (fun _ _ _ h => h) (Or.inl ⟨by rfl, ?_⟩) hHeld ?_
    rotate_left 1
    · intro wS hSw; have hqS := bcellB hSw; go_simp <;> with_reducible rfl
    simp only [put_lit, List.set_cons_zero, List.set_cons_succ]
    refine wpAnyH_ready (rs := [1, 5]) (by kernel_rfl) (by simp) ?_
    refine AllReadyH.cons rfl (fun K hK => ?_) ?_
    · skip
      go_simp
      refine (toPage_any _ _ _ _ _ _).mono ?_
      rintro e w51 ⟨rfl, hb51⟩
      have hn51 := Nat.le_trans hHeld.size hb51.size
      go_wp2_with fail
      refine hK.out _ _ ?_ (fun hHeld => ?_)
      · exact reg_call hHeld hb51 (Nat.le_refl _)
      clear hK K
      (try simp only [put_lit, List.set_cons_zero, List.set_cons_succ])
      refine wpAnyH_ready (rs := [3, 5]) (by kernel_rfl) (by simp) ?_
      refine AllReadyH.cons rfl (fun K hK => ?_) ?_
      · skip
        go_simp
        refine (toPage_any _ _ _ _ _ _).mono ?_
        rintro e w52 ⟨rfl, hb52⟩
        have hn52 := Nat.le_trans hHeld.size hb52.size
        go_wp2_with fail
        refine hK.out _ _ ?_ (fun hHeld => ?_)
        · exact reg_call hHeld hb52 (Nat.le_refl _)
        clear hK K
        (try simp only [put_lit, List.set_cons_zero, List.set_cons_succ])
        refine wpAnyH_ready (rs := [4, 5]) (by kernel_rfl) (by simp) ?_
        refine AllReadyH.cons rfl (fun K hK => ?_) ?_
        · skip
          go_simp
          refine (sNewer _ _ _ _ _ _ _ _ _ _ _).mono ?_
          rintro e w53 ⟨rfl, hb53⟩
          have hn53 := Nat.le_trans hHeld.size hb53.size
          rw [HN.out]
          simp only [Pg.val]
          go_wp2_with fail
          refine hK.out _ _ ?_ (fun hHeld => ?_)
          · exact reg_call hHeld hb53 (Nat.le_refl _)
          clear hK K
          (try simp only [put_lit, List.set_cons_zero, List.set_cons_succ])
          refine wpAnyH_ready (rs := [5]) (by kernel_rfl) (by simp) ?_
          refine AllReadyH.cons rfl (fun K hK => ?_) AllReadyH.nil
          go_simp
          refine hK.out _ _ ?_ (fun hHeld => ?_)
          · exact reg_alloc hHeld (Nat.le_refl _) _
          clear hK K
          (try simp only [put_lit, List.set_cons_zero, List.set_cons_succ])
          refine wpAnyH_ready (rs := [6]) (by kernel_rfl) (by simp) ?_
          refine AllReadyH.cons rfl (fun K hK => ?_) AllReadyH.nil
          go_simp
          refine hK.out _ _ ?_ (fun hHeld => ?_)
          · exact reg_swap hHeld (by first | with_reducible assumption | exact Nat.le_refl _ | (simp; done)) _
          clear hK K
          (try simp only [put_lit, List.set_cons_zero, List.set_cons_succ])
          refine wpAnyH_done (by kernel_rfl) ?_ _
          go_wp2_with fail
          go_meet
          exact ⟨_, rfl, by first | with_reducible assumption | exact Nat.le_refl _ | (simp; done), by first | (simp; done) | (simp [World.size_setCell]; with_reducible assumption), ⟨by go_simp, by go_simp, by go_simp, by go_simp, by go_simp⟩, hHeld⟩
        refine AllReadyH.cons rfl (fun K hK => ?_) AllReadyH.nil
        go_simp
        refine hK.out _ _ ?_ (fun hHeld => ?_)
        · exact reg_alloc hHeld (Nat.le_refl _) _
        clear hK K
        (try simp only [put_lit, List.set_cons_zero, List.set_cons_succ])
        refine wpAnyH_ready (rs := [4]) (by kernel_rfl) (by simp) ?_
        refine AllReadyH.cons rfl (fun K hK => ?_) AllReadyH.nil
        go_simp
        refine (sNewer _ _ _ _ _ _ _ _ _ _ _).mono ?_
        rintro e w57 ⟨rfl, hb57⟩
        have hn57 := Nat.le_trans hHeld.size hb57.size
        have hGa57 : ∀ o, w57.cell? ⟨w52.heap.size, o, none⟩ = (#[.bool false, .int .i64 0, .int .i64 0, .int .i64 0, .int .i64 0] : Array Value)[o]? := fun o => ((bcell hb57).1 _ o (by simp)).trans (by simp [go_sem])
        have hGa57f : ∀ o, w57.frozen? ⟨w52.heap.size, o, none⟩ = false := fun o => ((bcell hb57).2 _ o (by simp)).trans (by simp [go_sem])
        have hGa57s : w52.heap.size < w57.heap.size := Nat.lt_of_lt_of_le (by simp) hb57.size
        rw [HN.out]
        simp only [Pg.val]
        go_wp2_with fail
        refine hK.out _ _ ?_ (fun hHeld => ?_)
        · exact reg_call hHeld hb57 (Nat.le_refl _)
        clear hK K
        (try simp only [put_lit, List.set_cons_zero, List.set_cons_succ])
        refine wpAnyH_ready (rs := [6]) (by kernel_rfl) (by simp) ?_
        refine AllReadyH.cons rfl (fun K hK => ?_) AllReadyH.nil
        go_simp
        refine hK.out _ _ ?_ (fun hHeld => ?_)
        · exact bel_s5 hHeld (by first | with_reducible assumption | exact Nat.le_refl _ | (simp; done)) _ _ _ _ _
        clear hK K
        (try simp only [put_lit, List.set_cons_zero, List.set_cons_succ])
        refine wpAnyH_done (by kernel_rfl) ?_ _
        go_wp2_with fail
        go_meet
        exact ⟨_, rfl, by first | with_reducible assumption | exact Nat.le_refl _ | (simp; done), by first | (simp; done) | (simp [World.size_setCell]; with_reducible assumption), ⟨by go_simp, by go_simp, by go_simp, by go_simp, by go_simp⟩, hHeld⟩
      refine AllReadyH.cons rfl (fun K hK => ?_) AllReadyH.nil
      go_simp
      refine hK.out _ _ ?_ (fun hHeld => ?_)
      · exact reg_alloc hHeld (Nat.le_refl _) _
      clear hK K
      (try simp only [put_lit, List.set_cons_zero, List.set_cons_succ])
      refine wpAnyH_ready (rs := [3]) (by kernel_rfl) (by simp) ?_
      refine AllReadyH.cons rfl (fun K hK => ?_) AllReadyH.nil
      go_simp
      refine (toPage_any _ _ _ _ _ _).mono ?_
      rintro e w510 ⟨rfl, hb510⟩
      have hn510 := Nat.le_trans hHeld.size hb510.size
      have hGa510 : ∀ o, w510.cell? ⟨w51.heap.size, o, none⟩ = (#[.bool false, .int .i64 0, .int .i64 0, .int .i64 0, .int .i64 0] : Array Value)[o]? := fun o => ((bcell hb510).1 _ o (by simp)).trans (by simp [go_sem])
      have hGa510f : ∀ o, w510.frozen? ⟨w51.heap.size, o, none⟩ = false := fun o => ((bcell hb510).2 _ o (by simp)).trans (by simp [go_sem])
      have hGa510s : w51.heap.size < w510.heap.size := Nat.lt_of_lt_of_le (by simp) hb510.size
      go_wp2_with fail
      refine hK.out _ _ ?_ (fun hHeld => ?_)
      · exact reg_call hHeld hb510 (Nat.le_refl _)
      clear hK K
      (try simp only [put_lit, List.set_cons_zero, List.set_cons_succ])
      refine wpAnyH_ready (rs := [4]) (by kernel_rfl) (by simp) ?_
      refine AllReadyH.cons rfl (fun K hK => ?_) AllReadyH.nil
      go_simp
      refine (sNewer _ _ _ _ _ _ _ _ _ _ _).mono ?_
      rintro e w511 ⟨rfl, hb511⟩
      have hn511 := Nat.le_trans hHeld.size hb511.size
      have hGa511 : ∀ o, w511.cell? ⟨w51.heap.size, o, none⟩ = (#[.bool false, .int .i64 0, .int .i64 0, .int .i64 0, .int .i64 0] : Array Value)[o]? := fun o => ((bcell hb511).1 _ o hGa510s).trans (hGa510 o)
      have hGa511f : ∀ o, w511.frozen? ⟨w51.heap.size, o, none⟩ = false := fun o => ((bcell hb511).2 _ o hGa510s).trans (hGa510f o)
      have hGa511s : w51.heap.size < w511.heap.size := Nat.lt_of_lt_of_le hGa510s hb511.size
      rw [HN.out]
      simp only [Pg.val]
      go_wp2_with fail
      refine hK.out _ _ ?_ (fun hHeld => ?_)
      · exact reg_call hHeld hb511 (Nat.le_refl _)
      clear hK K
      (try simp only [put_lit, List.set_cons_zero, List.set_cons_succ])
      refine wpAnyH_ready (rs := [6]) (by kernel_rfl) (by simp) ?_
      refine AllReadyH.cons rfl (fun K hK => ?_) AllReadyH.nil
      go_simp
      refine hK.out _ _ ?_ (fun hHeld => ?_)
      · exact bel_s5 hHeld (by first | with_reducible assumption | exact Nat.le_refl _ | (simp; done)) _ _ _ _ _
      clear hK K
      (try simp only [put_lit, List.set_cons_zero, List.set_cons_succ])
      refine wpAnyH_done (by kernel_rfl) ?_ _
      go_wp2_with fail
      go_meet
      exact ⟨_, rfl, by first | with_reducible assumption | exact Nat.le_refl _ | (simp; done), by first | (simp; done) | (simp [World.size_setCell]; with_reducible assumption), ⟨by go_simp, by go_simp, by go_simp, by go_simp, by go_simp⟩, hHeld⟩
    refine AllReadyH.cons rfl (fun K hK => ?_) AllReadyH.nil
    go_simp
    refine hK.out _ _ ?_ (fun hHeld => ?_)
    · exact reg_alloc hHeld (Nat.le_refl _) _
    clear hK K
    (try simp only [put_lit, List.set_cons_zero, List.set_cons_succ])
    refine wpAnyH_ready (rs := [1]) (by kernel_rfl) (by simp) ?_
    refine AllReadyH.cons rfl (fun K hK => ?_) AllReadyH.nil
    go_simp
    refine (toPage_any _ _ _ _ _ _).mono ?_
    rintro e w514 ⟨rfl, hb514⟩
    have hn514 := Nat.le_trans hHeld.size hb514.size
    have hGa514 : ∀ o, w514.cell? ⟨W.heap.size, o, none⟩ = (#[.bool false, .int .i64 0, .int .i64 0, .int .i64 0, .int .i64 0] : Array Value)[o]? := fun o => ((bcell hb514).1 _ o (by simp)).trans (by simp [go_sem])
    have hGa514f : ∀ o, w514.frozen? ⟨W.heap.size, o, none⟩ = false := fun o => ((bcell hb514).2 _ o (by simp)).trans (by simp [go_sem])
    have hGa514s : W.heap.size < w514.heap.size := Nat.lt_of_lt_of_le (by simp) hb514.size
    go_wp2_with fail
    refine hK.out _ _ ?_ (fun hHeld => ?_)
    · exact reg_call hHeld hb514 (Nat.le_refl _)
    clear hK K
    (try simp only [put_lit, List.set_cons_zero, List.set_cons_succ])
    refine wpAnyH_ready (rs := [3]) (by kernel_rfl) (by simp) ?_
    refine AllReadyH.cons rfl (fun K hK => ?_) AllReadyH.nil
    go_simp
    refine (toPage_any _ _ _ _ _ _).mono ?_
    rintro e w515 ⟨rfl, hb515⟩
    have hn515 := Nat.le_trans hHeld.size hb515.size
    have hGa515 : ∀ o, w515.cell? ⟨W.heap.size, o, none⟩ = (#[.bool false, .int .i64 0, .int .i64 0, .int .i64 0, .int .i64 0] : Array Value)[o]? := fun o => ((bcell hb515).1 _ o hGa514s).trans (hGa514 o)
    have hGa515f : ∀ o, w515.frozen? ⟨W.heap.size, o, none⟩ = false := fun o => ((bcell hb515).2 _ o hGa514s).trans (hGa514f o)
    have hGa515s : W.heap.size < w515.heap.size := Nat.lt_of_lt_of_le hGa514s hb515.size
    go_wp2_with fail
    refine hK.out _ _ ?_ (fun hHeld => ?_)
    · exact reg_call hHeld hb515 (Nat.le_refl _)
    clear hK K
    (try simp only [put_lit, List.set_cons_zero, List.set_cons_succ])
    refine wpAnyH_ready (rs := [4]) (by kernel_rfl) (by simp) ?_
    refine AllReadyH.cons rfl (fun K hK => ?_) AllReadyH.nil
    go_simp
    refine (sNewer _ _ _ _ _ _ _ _ _ _ _).mono ?_
    rintro e w516 ⟨rfl, hb516⟩
    have hn516 := Nat.le_trans hHeld.size hb516.size
    have hGa516 : ∀ o, w516.cell? ⟨W.heap.size, o, none⟩ = (#[.bool false, .int .i64 0, .int .i64 0, .int .i64 0, .int .i64 0] : Array Value)[o]? := fun o => ((bcell hb516).1 _ o hGa515s).trans (hGa515 o)
    have hGa516f : ∀ o, w516.frozen? ⟨W.heap.size, o, none⟩ = false := fun o => ((bcell hb516).2 _ o hGa515s).trans (hGa515f o)
    have hGa516s : W.heap.size < w516.heap.size := Nat.lt_of_lt_of_le hGa515s hb516.size
    rw [HN.out]
    simp only [Pg.val]
    go_wp2_with fail
    refine hK.out _ _ ?_ (fun hHeld => ?_)
    · exact reg_call hHeld hb516 (Nat.le_refl _)
    clear hK K
    (try simp only [put_lit, List.set_cons_zero, List.set_cons_succ])
    refine wpAnyH_ready (rs := [6]) (by kernel_rfl) (by simp) ?_
    refine AllReadyH.cons rfl (fun K hK => ?_) AllReadyH.nil
    go_simp
    refine hK.out _ _ ?_ (fun hHeld => ?_)
    · exact bel_s5 hHeld (by first | with_reducible assumption | exact Nat.le_refl _ | (simp; done)) _ _ _ _ _
    clear hK K
    (try simp only [put_lit, List.set_cons_zero, List.set_cons_succ])
    refine wpAnyH_done (by kernel_rfl) ?_ _
    go_wp2_with fail
    go_meet
    exact ⟨_, rfl, by first | with_reducible assumption | exact Nat.le_refl _ | (simp; done), by first | (simp; done) | (simp [World.size_setCell]; with_reducible assumption), ⟨by go_simp, by go_simp, by go_simp, by go_simp, by go_simp⟩, hHeld⟩
  case rest =>
    obtain ⟨g5, rfl, hg5, hg5', ⟨q0, q1, q2, q3, q4⟩, hB5⟩ := hcut
    have hcc := bcellB hB5
    have hs5 := hB5.size
    have a0 := (hcc _ _ hsA).trans a0
    have a1 := (hcc _ _ hsA).trans a1
    have a2 := (hcc _ _ hsA).trans a2
    have a3 := (hcc _ _ hsA).trans a3
    have a4 := (hcc _ _ hsA).trans a4
    have c0 := (hcc _ _ hsB).trans c0
    have c1 := (hcc _ _ hsB).trans c1
    have c2 := (hcc _ _ hsB).trans c2
    have c3 := (hcc _ _ hsB).trans c3
    have c4 := (hcc _ _ hsB).trans c4
    clear hcc
    have hsA : w.heap.size < wc.heap.size := by omega
    have hsB : w.heap.size + 1 < wc.heap.size := by omega
    go_upto_region 2 with fail
    go_cut [6] (fun x6 wx => ∃ g : Nat, x6 = .pointer (some ⟨g, 0, none⟩) ∧ wc.heap.size ≤ g ∧ g < wx.heap.size ∧ (wx.cell? ⟨g, 0, none⟩ = some (.bool rb) ∧ wx.cell? ⟨g, 1, none⟩ = some (.int .i64 rf) ∧ wx.cell? ⟨g, 2, none⟩ = some (.int .i64 rp) ∧ wx.cell? ⟨g, 3, none⟩ = some (.int .i64 rv) ∧ wx.cell? ⟨g, 4, none⟩ = some (.int .i64 rs)) ∧ Below wc.heap.size wc wx)
    case first =>
      refine reg_begin (by kernel_rfl) (fun hHeld => ?_)
      refine reg_take 0 12 (v := ?_) rfl rfl (by kernel_rfl) (by kernel_rfl) (by kernel_rfl) (fun _ _ _ h => h) (Or.inl ⟨by rfl, ?_⟩) hHeld ?_
      rotate_left 1
      · intro wS hSw; have hqS := bcellB hSw; go_simp <;> with_reducible rfl
      simp only [put_lit, List.set_cons_zero, List.set_cons_succ]
      refine reg_take 2 14 (v := ?_) rfl rfl (by kernel_rfl) (by kernel_rfl) (by kernel_rfl) (fun _ _ _ h => h) (Or.inl ⟨by rfl, ?_⟩) hHeld ?_
      rotate_left 1
      · intro wS hSw; have hqS := bcellB hSw; go_simp <;> with_reducible rfl
      simp only [put_lit, List.set_cons_zero, List.set_cons_succ]
      refine wpAnyH_ready (rs := [1, 5]) (by kernel_rfl) (by simp) ?_
      refine AllReadyH.cons rfl (fun K hK => ?_) ?_
      · skip
        go_simp
        refine (toPage_any _ _ _ _ _ _).mono ?_
        rintro e w61 ⟨rfl, hb61⟩
        have hn61 := Nat.le_trans hHeld.size hb61.size
        go_wp2_with fail
        refine hK.out _ _ ?_ (fun hHeld => ?_)
        · exact reg_call hHeld hb61 (Nat.le_refl _)
        clear hK K
        (try simp only [put_lit, List.set_cons_zero, List.set_cons_succ])
        refine wpAnyH_ready (rs := [3, 5]) (by kernel_rfl) (by simp) ?_
        refine AllReadyH.cons rfl (fun K hK => ?_) ?_
        · skip
          go_simp
          refine (toPage_any _ _ _ _ _ _).mono ?_
          rintro e w62 ⟨rfl, hb62⟩
          have hn62 := Nat.le_trans hHeld.size hb62.size
          go_wp2_with fail
          refine hK.out _ _ ?_ (fun hHeld => ?_)
          · exact reg_call hHeld hb62 (Nat.le_refl _)
          clear hK K
          (try simp only [put_lit, List.set_cons_zero, List.set_cons_succ])
          refine wpAnyH_ready (rs := [4, 5]) (by kernel_rfl) (by simp) ?_
          refine AllReadyH.cons rfl (fun K hK => ?_) ?_
          · skip
            go_simp
            refine (iNewer _ _ _ _ _ _ _ _ _ _ _).mono ?_
            rintro e w63 ⟨rfl, hb63⟩
            have hn63 := Nat.le_trans hHeld.size hb63.size
            rw [HN.out]
            simp only [Pg.val]
            go_wp2_with fail
            refine hK.out _ _ ?_ (fun hHeld => ?_)
            · exact reg_call hHeld hb63 (Nat.le_refl _)
            clear hK K
            (try simp only [put_lit, List.set_cons_zero, List.set_cons_succ])
            refine wpAnyH_ready (rs := [5]) (by kernel_rfl) (by simp) ?_
            refine AllReadyH.cons rfl (fun K hK => ?_) AllReadyH.nil
            go_simp
            refine hK.out _ _ ?_ (fun hHeld => ?_)
            · exact reg_alloc hHeld (Nat.le_refl _) _
            clear hK K
            (try simp only [put_lit, List.set_cons_zero, List.set_cons_succ])
            refine wpAnyH_ready (rs := [6]) (by kernel_rfl) (by simp) ?_
            refine AllReadyH.cons rfl (fun K hK => ?_) AllReadyH.nil
            go_simp
            refine hK.out _ _ ?_ (fun hHeld => ?_)
            · exact reg_swap hHeld (by first | with_reducible assumption | exact Nat.le_refl _ | (simp; done)) _
            clear hK K
            (try simp only [put_lit, List.set_cons_zero, List.set_cons_succ])
            refine wpAnyH_done (by kernel_rfl) ?_ _
            go_wp2_with fail
            go_meet
            exact ⟨_, rfl, by first | with_reducible assumption | exact Nat.le_refl _ | (simp; done), by first | (simp; done) | (simp [World.size_setCell]; with_reducible assumption), ⟨by go_simp, by go_simp, by go_simp, by go_simp, by go_simp⟩, hHeld⟩
          refine AllReadyH.cons rfl (fun K hK => ?_) AllReadyH.nil
          go_simp
          refine hK.out _ _ ?_ (fun hHeld => ?_)
          · exact reg_alloc hHeld (Nat.le_refl _) _
          clear hK K
          (try simp only [put_lit, List.set_cons_zero, List.set_cons_succ])
          refine wpAnyH_ready (rs := [4]) (by kernel_rfl) (by simp) ?_
          refine AllReadyH.cons rfl (fun K hK => ?_) AllReadyH.nil
          go_simp
          refine (iNewer _ _ _ _ _ _ _ _ _ _ _).mono ?_
          rintro e w67 ⟨rfl, hb67⟩
          have hn67 := Nat.le_trans hHeld.size hb67.size
          have hGa67 : ∀ o, w67.cell? ⟨w62.heap.size, o, none⟩ = (#[.bool false, .int .i64 0, .int .i64 0, .int .i64 0, .int .i64 0] : Array Value)[o]? := fun o => ((bcell hb67).1 _ o (by simp)).trans (by simp [go_sem])
          have hGa67f : ∀ o, w67.frozen? ⟨w62.heap.size, o, none⟩ = false := fun o => ((bcell hb67).2 _ o (by simp)).trans (by simp [go_sem])
          have hGa67s : w62.heap.size < w67.heap.size := Nat.lt_of_lt_of_le (by simp) hb67.size
          rw [HN.out]
          simp only [Pg.val]
          go_wp2_with fail
          refine hK.out _ _ ?_ (fun hHeld => ?_)
          · exact reg_call hHeld hb67 (Nat.le_refl _)
          clear hK K
          (try simp only [put_lit, List.set_cons_zero, List.set_cons_succ])
          refine wpAnyH_ready (rs := [6]) (by kernel_rfl) (by simp) ?_
          refine AllReadyH.cons rfl (fun K hK => ?_) AllReadyH.nil
          go_simp
          refine hK.out _ _ ?_ (fun hHeld => ?_)
          · exact bel_s5 hHeld (by first | with_reducible assumption | exact Nat.le_refl _ | (simp; done)) _ _ _ _ _
          clear hK K
          (try simp only [put_lit, List.set_cons_zero, List.set_cons_succ])
          refine wpAnyH_done (by kernel_rfl) ?_ _
          go_wp2_with fail
          go_meet
          exact ⟨_, rfl, by first | with_reducible assumption | exact Nat.le_refl _ | (simp; done), by first | (simp; done) | (simp [World.size_setCell]; with_reducible assumption), ⟨by go_simp, by go_simp, by go_simp, by go_simp, by go_simp⟩, hHeld⟩
        refine AllReadyH.cons rfl (fun K hK => ?_) AllReadyH.nil
        go_simp
        refine hK.out _ _ ?_ (fun hHeld => ?_)
        · exact reg_alloc hHeld (Nat.le_refl _) _
        clear hK K
        (try simp only [put_lit, List.set_cons_zero, List.set_cons_succ])
        refine wpAnyH_ready (rs := [3]) (by kernel_rfl) (by simp) ?_
        refine AllReadyH.cons rfl (fun K hK => ?_) AllReadyH.nil
        go_simp
        refine (toPage_any _ _ _ _ _ _).mono ?_
        rintro e w610 ⟨rfl, hb610⟩
        have hn610 := Nat.le_trans hHeld.size hb610.size
        have hGa610 : ∀ o, w610.cell? ⟨w61.heap.size, o, none⟩ = (#[.bool false, .int .i64 0, .int .i64 0, .int .i64 0, .int .i64 0] : Array Value)[o]? := fun o => ((bcell hb610).1 _ o (by simp)).trans (by simp [go_sem])
        have hGa610f : ∀ o, w610.frozen? ⟨w61.heap.size, o, none⟩ = false := fun o => ((bcell hb610).2 _ o (by simp)).trans (by simp [go_sem])
        have hGa610s : w61.heap.size < w610.heap.size := Nat.lt_of_lt_of_le (by simp) hb610.size
        go_wp2_with fail
        refine hK.out _ _ ?_ (fun hHeld => ?_)
        · exact reg_call hHeld hb610 (Nat.le_refl _)
        clear hK K
        (try simp only [put_lit, List.set_cons_zero, List.set_cons_succ])
        refine wpAnyH_ready (rs := [4]) (by kernel_rfl) (by simp) ?_
        refine AllReadyH.cons rfl (fun K hK => ?_) AllReadyH.nil
        go_simp
        refine (iNewer _ _ _ _ _ _ _ _ _ _ _).mono ?_
        rintro e w611 ⟨rfl, hb611⟩
        have hn611 := Nat.le_trans hHeld.size hb611.size
        have hGa611 : ∀ o, w611.cell? ⟨w61.heap.size, o, none⟩ = (#[.bool false, .int .i64 0, .int .i64 0, .int .i64 0, .int .i64 0] : Array Value)[o]? := fun o => ((bcell hb611).1 _ o hGa610s).trans (hGa610 o)
        have hGa611f : ∀ o, w611.frozen? ⟨w61.heap.size, o, none⟩ = false := fun o => ((bcell hb611).2 _ o hGa610s).trans (hGa610f o)
        have hGa611s : w61.heap.size < w611.heap.size := Nat.lt_of_lt_of_le hGa610s hb611.size
        rw [HN.out]
        simp only [Pg.val]
        go_wp2_with fail
        refine hK.out _ _ ?_ (fun hHeld => ?_)
        · exact reg_call hHeld hb611 (Nat.le_refl _)
        clear hK K
        (try simp only [put_lit, List.set_cons_zero, List.set_cons_succ])
        refine wpAnyH_ready (rs := [6]) (by kernel_rfl) (by simp) ?_
        refine AllReadyH.cons rfl (fun K hK => ?_) AllReadyH.nil
        go_simp
        refine hK.out _ _ ?_ (fun hHeld => ?_)
        · exact bel_s5 hHeld (by first | with_reducible assumption | exact Nat.le_refl _ | (simp; done)) _ _ _ _ _
        clear hK K
        (try simp only [put_lit, List.set_cons_zero, List.set_cons_succ])
        refine wpAnyH_done (by kernel_rfl) ?_ _
        go_wp2_with fail
        go_meet
        exact ⟨_, rfl, by first | with_reducible assumption | exact Nat.le_refl _ | (simp; done), by first | (simp; done) | (simp [World.size_setCell]; with_reducible assumption), ⟨by go_simp, by go_simp, by go_simp, by go_simp, by go_simp⟩, hHeld⟩
      refine AllReadyH.cons rfl (fun K hK => ?_) AllReadyH.nil
      go_simp
      refine hK.out _ _ ?_ (fun hHeld => ?_)
      · exact reg_alloc hHeld (Nat.le_refl _) _
      clear hK K
      (try simp only [put_lit, List.set_cons_zero, List.set_cons_succ])
      refine wpAnyH_ready (rs := [1]) (by kernel_rfl) (by simp) ?_
      refine AllReadyH.cons rfl (fun K hK => ?_) AllReadyH.nil
      go_simp
      refine (toPage_any _ _ _ _ _ _).mono ?_
      rintro e w614 ⟨rfl, hb614⟩
      have hn614 := Nat.le_trans hHeld.size hb614.size
      have hGa614 : ∀ o, w614.cell? ⟨wc.heap.size, o, none⟩ = (#[.bool false, .int .i64 0, .int .i64 0, .int .i64 0, .int .i64 0] : Array Value)[o]? := fun o => ((bcell hb614).1 _ o (by simp)).trans (by simp [go_sem])
      have hGa614f : ∀ o, w614.frozen? ⟨wc.heap.size, o, none⟩ = false := fun o => ((bcell hb614).2 _ o (by simp)).trans (by simp [go_sem])
      have hGa614s : wc.heap.size < w614.heap.size := Nat.lt_of_lt_of_le (by simp) hb614.size
      go_wp2_with fail
      refine hK.out _ _ ?_ (fun hHeld => ?_)
      · exact reg_call hHeld hb614 (Nat.le_refl _)
      clear hK K
      (try simp only [put_lit, List.set_cons_zero, List.set_cons_succ])
      refine wpAnyH_ready (rs := [3]) (by kernel_rfl) (by simp) ?_
      refine AllReadyH.cons rfl (fun K hK => ?_) AllReadyH.nil
      go_simp
      refine (toPage_any _ _ _ _ _ _).mono ?_
      rintro e w615 ⟨rfl, hb615⟩
      have hn615 := Nat.le_trans hHeld.size hb615.size
      have hGa615 : ∀ o, w615.cell? ⟨wc.heap.size, o, none⟩ = (#[.bool false, .int .i64 0, .int .i64 0, .int .i64 0, .int .i64 0] : Array Value)[o]? := fun o => ((bcell hb615).1 _ o hGa614s).trans (hGa614 o)
      have hGa615f : ∀ o, w615.frozen? ⟨wc.heap.size, o, none⟩ = false := fun o => ((bcell hb615).2 _ o hGa614s).trans (hGa614f o)
      have hGa615s : wc.heap.size < w615.heap.size := Nat.lt_of_lt_of_le hGa614s hb615.size
      go_wp2_with fail
      refine hK.out _ _ ?_ (fun hHeld => ?_)
      · exact reg_call hHeld hb615 (Nat.le_refl _)
      clear hK K
      (try simp only [put_lit, List.set_cons_zero, List.set_cons_succ])
      refine wpAnyH_ready (rs := [4]) (by kernel_rfl) (by simp) ?_
      refine AllReadyH.cons rfl (fun K hK => ?_) AllReadyH.nil
      go_simp
      refine (iNewer _ _ _ _ _ _ _ _ _ _ _).mono ?_
      rintro e w616 ⟨rfl, hb616⟩
      have hn616 := Nat.le_trans hHeld.size hb616.size
      have hGa616 : ∀ o, w616.cell? ⟨wc.heap.size, o, none⟩ = (#[.bool false, .int .i64 0, .int .i64 0, .int .i64 0, .int .i64 0] : Array Value)[o]? := fun o => ((bcell hb616).1 _ o hGa615s).trans (hGa615 o)
      have hGa616f : ∀ o, w616.frozen? ⟨wc.heap.size, o, none⟩ = false := fun o => ((bcell hb616).2 _ o hGa615s).trans (hGa615f o)
      have hGa616s : wc.heap.size < w616.heap.size := Nat.lt_of_lt_of_le hGa615s hb616.size
      rw [HN.out]
      simp only [Pg.val]
      go_wp2_with fail
      refine hK.out _ _ ?_ (fun hHeld => ?_)
      · exact reg_call hHeld hb616 (Nat.le_refl _)
      clear hK K
      (try simp only [put_lit, List.set_cons_zero, List.set_cons_succ])
      refine wpAnyH_ready (rs := [6]) (by kernel_rfl) (by simp) ?_
      refine AllReadyH.cons rfl (fun K hK => ?_) AllReadyH.nil
      go_simp
      refine hK.out _ _ ?_ (fun hHeld => ?_)
      · exact bel_s5 hHeld (by first | with_reducible assumption | exact Nat.le_refl _ | (simp; done)) _ _ _ _ _
      clear hK K
      (try simp only [put_lit, List.set_cons_zero, List.set_cons_succ])
      refine wpAnyH_done (by kernel_rfl) ?_ _
      go_wp2_with fail
      go_meet
      exact ⟨_, rfl, by first | with_reducible assumption | exact Nat.le_refl _ | (simp; done), by first | (simp; done) | (simp [World.size_setCell]; with_reducible assumption), ⟨by go_simp, by go_simp, by go_simp, by go_simp, by go_simp⟩, hHeld⟩
    case rest =>
      obtain ⟨g6, rfl, hg6, hg6', ⟨y0, y1, y2, y3, y4⟩, hB6⟩ := hcut
      have hcc := bcellB hB6
      have q0 := (hcc _ _ hg5').trans q0
      have q1 := (hcc _ _ hg5').trans q1
      have q2 := (hcc _ _ hg5').trans q2
      have q3 := (hcc _ _ hg5').trans q3
      have q4 := (hcc _ _ hg5').trans q4
      clear hcc a0 a1 a2 a3 a4 c0 c1 c2 c3 c4
      have HB1 := Lib.hid (bel_t (bel_t HB0.out hB5) hB6)
      go_wp2_with fail
      refine (eqPage_any _ _ _ _ _ _ _ _ _ _ _).mono ?_
      rintro e w7 ⟨rfl, hb7⟩
      rw [HE.out]
      go_wp2
      go_ret
      exact ⟨rfl, bel_t HB1.out hb7⟩

namespace fnExactNewerPage
open Go.ChangeShapes Go.WideShapes Go.ChangeAt Go.RowKit
theorem own : ownKnob Try.prog.godebug = none := by kernel_rfl
theorem laidOut : laidOutB Try.prog = true := by kernel_rfl
theorem spec_ok : LawSpec Rows.fnExactNewerPageSpec 2 := ⟨rfl, fun H ds h => by
  match ds, h with
  | [_, _], _ => exact ⟨rfl, rfl, rfl⟩⟩
theorem rd30 : Try.prog.readableRec 30 = true ∧ 30 < Try.prog.types.size := ⟨by kernel_rfl, of_decide_eq_true (by kernel_rfl)⟩
set_option maxRecDepth 100000 in
theorem lifted (os : Os) (started : os.Started) (H : Type) (enc : TypeId × Value → H) :
    ReturnsInHanded {} Try.checked os 13 .any (Rows.fnExactNewerPageSpec.pre6 enc Try.prog Try.f13 Rows.fnExactNewerPageRow.domain false) (Rows.fnExactNewerPageSpec.post enc Try.prog Try.f13 false true false false) := by
  refine law_lifted (C := Try.checked) (tb := 4) own started (by kernel_rfl) Try.func13 laidOut ?_ spec_ok (by rfl) Try.underlying4
    (ChangeSpec.witness6 (enc := enc) (C := Try.checked) false ⟨#[], #[.agg #[.bool false, .int .i64 0, .int .i64 0, .int .i64 0, .int .i64 0], .agg #[.bool false, .int .i64 0, .int .i64 0, .int .i64 0, .int .i64 0]], []⟩ 8 (by kernel_rfl) (by kernel_rfl) (by kernel_rfl) (by kernel_rfl)) ?_
  · rw [Try.params13]
    intro t ht
    simp only [List.mem_cons, List.not_mem_nil, or_false] at ht
    rcases ht with rfl | rfl
    · exact rd30
    · exact rd30
  · intro W base args ds ps hval0 hA0
    have hval : ∀ (j : Nat) t v, Try.f13.params[j]? = some t → args[j]? = some v → Value.okWide Try.prog W .any base t v := hval0
    have hA : DataW.TrodAll enc Try.prog W 0 (fun _ => true) true Try.f13.params.toList args.toList ds ps := hA0
    clear hval0 hA0
    rw [Try.params13] at hA hval
    obtain ⟨v0, vs0, d0, ds0, p0, q0, hargs, rfl, rfl, h0, r0⟩ := trodAll_cons hA
    obtain ⟨v1, vs1, d1, ds1, p1, q1, rfl, rfl, rfl, h1, r1⟩ := trodAll_cons r0
    obtain ⟨rfl, rfl, rfl⟩ := trodAll_nil r1
    obtain rfl : args = #[v0, v1] := by cases args; simp_all
    obtain ⟨a0, rfl⟩ := open_page Try.underlying30 (by kernel_rfl) (by kernel_rfl) Try.underlying4 Try.underlying3 (hval 0 30 v0 rfl rfl) h0
    obtain ⟨a1, rfl⟩ := open_page Try.underlying30 (by kernel_rfl) (by kernel_rfl) Try.underlying4 Try.underlying3 (hval 1 30 v1 rfl rfl) h1
    exact walk_FnExactNewerPage a0 a1 W

theorem over : Rows.fnExactNewerPageRow.holds Try.pinned (OpenSpec.ofChange Rows.fnExactNewerPageSpec) :=
  OpenClaim.holds_of_wide 13 Try.f13 rfl rfl rfl rfl rfl rfl rfl ⟨rfl, rfl, rfl, rfl, rfl⟩ rfl rfl rfl rfl rfl (by kernel_rfl) Try.func13 (by kernel_rfl)
    (of_decide_eq_true (by kernel_rfl)) (by unfold Func.isWrapper; first | (rw [if_pos (by decide +kernel)]; kernel_rfl) | (rw [if_neg (by decide +kernel)]; exact ⟨rfl, rfl⟩))
    (fun os started H enc _ => lifted os started H enc)

theorem proved : Rows.FnExactNewerPageSaid :=
  over
#print axioms proved
end fnExactNewerPage
end Go.Proofs.Ytimcegafjphkkaa
