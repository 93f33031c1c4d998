/- The law FnExactAppendPage: for every device, heads, number and page the program's AppendPage returns what the reference's returns, and keeps nothing of it, so the law returns true. No conditions. -/
import Derived.Test.YtjphehapnhfecaaRows
import Derived.Test.YtjphehapnhfecaaTypes
import Derived.Test.YtjphehapnhfecaaAppend
import Derived.Deep.DrawnRows
namespace Go.Proofs.Ytjphehapnhfecaa
open Go.RowKit
set_option linter.unusedVariables false
attribute [local go_sem ↓] Go.wp_at_zero Go.wp_at_succ

theorem DvO.setLow {w : World} {lo hi n : Nat} {A : Option Addr} {ds : List Bl} (h : DvO w lo hi A n ds) {a : Addr} (ha : a.block < lo) (v : Value) : DvO (w.setCell a v) lo hi A n ds := by
  rcases h with h | ⟨g, G, e, h1, h2, h3⟩
  · exact Or.inl h
  · exact Or.inr ⟨g, G, e, h1, h2, h3.setLow ha v⟩
/-- heads in a box of their own, and a device -/
def CutD (W wx : World) (G : Nat) (A : Option Addr) (E : List Bl) (g h k : Int) (lo hi : Nat) : Prop :=
  W.heap.size ≤ G ∧ wx.cell? ⟨G, 0, none⟩ = some (.int .i64 g) ∧ wx.cell? ⟨G, 1, none⟩ = some (.int .i64 h) ∧ wx.cell? ⟨G, 2, none⟩ = some (.int .i64 k) ∧ DvO wx lo hi A E.length E ∧ W.heap.size ≤ lo ∧ lo ≤ hi ∧ hi ≤ wx.heap.size ∧ (G < lo ∨ hi ≤ G) ∧ Below W.heap.size W wx
theorem ap_lens (ds : List Bl) (n : Nat) (g h k t : Int) (p : Pg) (hl : ds.length = n) (hp : ∀ i, i < n → (blAt ds i).pages.length ≤ 1048576) :
    (appendF ds g h k t p).ds.length ≤ n ∧ ∀ i, i < (appendF ds g h k t p).ds.length → (blAt (appendF ds g h k t p).ds i).pages.length ≤ 1048576 := by
  have hnil : ∀ r : App, r = ⟨[], 0, 0, 0, -1⟩ → r.ds.length ≤ n ∧ ∀ i, i < r.ds.length → (blAt r.ds i).pages.length ≤ 1048576 := fun r e => by
    rw [e]; exact ⟨Nat.zero_le _, fun i hi => absurd hi (by simp)⟩
  cases hv : headsValidF ds g h k
  · exact hnil _ (ap_1 ds g h k t p hv)
  · by_cases ht : 0 ≤ t ∧ t ≤ 2
    · cases hpv : pageValidF p
      · exact hnil _ (ap_3 ds g h k t p hpv)
      · cases hf : p.full
        · exact hnil _ (ap_4 ds g h k t p hf)
        · by_cases hc : headOfF ds g h k t < 0 ∨ blockNextF (blAt ds (headOfF ds g h k t).toNat) < 0
          · by_cases hm : freshBlockF ds g h k < 0
            · rw [ap_5 ds g h k t p hv ht hpv hf _ rfl hc _ rfl hm]
              exact ⟨Nat.le_of_eq hl, fun i hi => hp i (by dsimp only at hi; omega)⟩
            · rw [ap_6 ds g h k t p hv ht hpv hf _ rfl hc _ rfl hm, appPut]
              exact pr_lens ds n _ p hl hp
          · rw [ap_7 ds g h k t p hv ht hpv hf _ rfl hc, appPut]
            exact pr_lens ds n _ p hl hp
    · exact hnil _ (ap_2 ds g h k t p ht)
set_option maxHeartbeats 400000 in
theorem eqHeads_refl (g h k : Int) (w : World) :
    Calls Try.prog 19 #[.agg #[.int .i64 g, .int .i64 h, .int .i64 k], .agg #[.int .i64 g, .int .i64 h, .int .i64 k]] w fun e w' => e = .returned (.bool true) ∧ Below w.heap.size w w' := by
  go_enter Try.func19, Try.ntmps19
  go_wp2
  go_ret
  exact ⟨rfl, bel_2 _ _ _⟩

set_option maxRecDepth 100000 in
set_option maxHeartbeats 16000000 in
theorem walk_FnExactAppendPage (x : Da) (y : Hd) (t : Int) (z : Pg) (w : World) (hx : DevAt w x.A x.n x.ds) (_hy : True) (_w2 : (Lit.int .i64 t).wf = true) :
    Calls Try.prog 4 #[x.val, y.val, .int .i64 t, z.val] w fun e w' => e = .returned (.bool true) ∧ Below w.heap.size w w' := by
  obtain ⟨A, n, c, ds⟩ := x
  obtain ⟨g, h, k⟩ := y
  obtain ⟨f, fi, pl, va, st⟩ := z
  simp only [Da.val, Hd.val, Pg.val] at *
  have HP := Lib.hid hx
  have hm := hx.2.1
  have hlen := hx.1
  clear hx
  go_enter Try.func4, Try.ntmps4
  go_wp2_with fail
  refine (szBlockS_any _ _ _ ds _ _ (HP.out.keep (bel_2 _ _ _)) (by omega) (by omega)).mono ?_
  rintro e w1 ⟨r, rfl, hr, hb1⟩
  have q0 : w1.cell? ⟨w.heap.size, 0, none⟩ = some (.int .i64 g) := stays_below hb1 _ _ _ (by simp [go_sem])
  have q1 : w1.cell? ⟨w.heap.size, 1, none⟩ = some (.int .i64 h) := stays_below hb1 _ _ _ (by simp [go_sem])
  have q2 : w1.cell? ⟨w.heap.size, 2, none⟩ = some (.int .i64 k) := stays_below hb1 _ _ _ (by simp [go_sem])
  have p0 : w1.cell? ⟨w.heap.size + 1, 0, none⟩ = some (.bool f) := stays_below hb1 _ _ _ (by simp [go_sem])
  have p1 : w1.cell? ⟨w.heap.size + 1, 1, none⟩ = some (.int .i64 fi) := stays_below hb1 _ _ _ (by simp [go_sem])
  have p2 : w1.cell? ⟨w.heap.size + 1, 2, none⟩ = some (.int .i64 pl) := stays_below hb1 _ _ _ (by simp [go_sem])
  have p3 : w1.cell? ⟨w.heap.size + 1, 3, none⟩ = some (.int .i64 va) := stays_below hb1 _ _ _ (by simp [go_sem])
  have p4 : w1.cell? ⟨w.heap.size + 1, 4, none⟩ = some (.int .i64 st) := stays_below hb1 _ _ _ (by simp [go_sem])
  have HB1 := Lib.hid (bel_t (bel_2 _ _ _) hb1)
  have zq_1 : w.heap.size < w1.heap.size := block_lt_of_cell q0
  have zp_1 : w.heap.size + 1 < w1.heap.size := block_lt_of_cell p0
  by_cases hr0 : r < 0
  · go_wp2
    go_ret
    exact ⟨rfl, HB1.out⟩
  · obtain ⟨hn, hs⟩ := hr.resolve_left hr0
    have HS := Lib.hid hs
    have hle := ap_lens ds n g h k t ⟨f, fi, pl, va, st⟩ hlen HS.out
    clear hr hs hb1 hlen
    obtain ⟨⟨E, g', h', k', at_⟩, HE⟩ : ∃ r, Hid (appendF ds g h k t ⟨f, fi, pl, va, st⟩ = r) := ⟨_, rfl⟩
    rw [HE.out] at hle
    simp only [] at hle
    have hnE : E.length ≤ 1048576 := by omega
    have hmE : E.length ≤ 9223372036854775807 := by omega
    have HSE := Lib.hid hle.2
    clear hle
    go_upto_region 5 with fail
    go_cut [10, 11, 12] (fun xa xb xc wx => ∃ (G : Nat) (A' : Option Addr) (c' lo hi : Nat), xa = .slice A' E.length c' ∧ xb = .pointer (some ⟨G, 0, none⟩) ∧ xc = .int .i64 at_ ∧ CutD w1 wx G A' E g' h' k' lo hi)
    case first =>
      refine reg_begin (by kernel_rfl) (fun hHeld => ?_)
      refine reg_take 0 29 (v := ?_) rfl rfl (by kernel_rfl) (by kernel_rfl) (by kernel_rfl) (fun _ _ _ h => h) (Or.inl ⟨by rfl, ?_⟩) hHeld ?_
      rotate_left 1
      · intro wS hSw; go_simp <;> with_reducible rfl
      simp only [put_lit, List.set_cons_zero, List.set_cons_succ]
      refine reg_take 2 31 (v := ?_) rfl rfl (by kernel_rfl) (by kernel_rfl) (by kernel_rfl) (fun _ _ _ h => h) (Or.inl ⟨by rfl, ?_⟩) hHeld ?_
      rotate_left 1
      · intro wS hSw; have hqS := bcellB hSw; go_simp <;> with_reducible rfl
      simp only [put_lit, List.set_cons_zero, List.set_cons_succ]
      refine reg_take 4 33 (v := ?_) rfl rfl (by kernel_rfl) (by kernel_rfl) (by kernel_rfl) (fun _ _ _ h => h) (Or.inl ⟨by rfl, ?_⟩) hHeld ?_
      rotate_left 1
      · intro wS hSw; go_simp <;> with_reducible rfl
      simp only [put_lit, List.set_cons_zero, List.set_cons_succ]
      refine reg_take 5 34 (v := ?_) rfl rfl (by kernel_rfl) (by kernel_rfl) (by kernel_rfl) (fun _ _ _ h => h) (Or.inl ⟨by rfl, ?_⟩) hHeld ?_
      rotate_left 1
      · intro wS hSw; have hqS := bcellB hSw; go_simp <;> with_reducible rfl
      simp only [put_lit, List.set_cons_zero, List.set_cons_succ]
      refine wpAnyH_ready (rs := [1, 12]) (by kernel_rfl) (by simp) ?_
      refine AllReadyH.cons rfl (fun K hK => ?_) ?_
      · skip
        go_simp
        refine (toBlockS_any _ _ _ ds _ (HP.out.keep (bel_t HB1.out hHeld)) hn HS.out).mono ?_
        rintro e wr1 ⟨gq, Gq, rfl, hRq, hbr1⟩
        have HQ1 : Hid (DevAt wr1 (some ⟨gq, 0, none⟩) n ds) := Lib.hid (hRq.at hm)
        clear hRq
        have hnr1 : w1.heap.size ≤ wr1.heap.size := Nat.le_trans hHeld.size hbr1.size
        go_wp2_with fail
        refine hK.out _ _ ?_ (fun hHeld => ?_)
        · exact reg_call hHeld hbr1 (Nat.le_refl _)
        clear hK K
        (try simp only [put_lit, List.set_cons_zero, List.set_cons_succ])
        refine wpAnyH_ready (rs := [3, 12]) (by kernel_rfl) (by simp) ?_
        refine AllReadyH.cons rfl (fun K hK => ?_) ?_
        · skip
          go_simp
          refine (toHeads_any _ _ _ _).mono ?_
          rintro e wr2 ⟨rfl, hbr2⟩
          have HQ2 : Hid (DevAt wr2 (some ⟨gq, 0, none⟩) n ds) := Lib.hid (by first | exact HQ1.out.keep hbr2 | exact (HQ1.out.keep (bel_1 _ _)).keep hbr2)
          have hnr2 : w1.heap.size ≤ wr2.heap.size := Nat.le_trans hHeld.size hbr2.size
          go_wp2_with fail
          refine hK.out _ _ ?_ (fun hHeld => ?_)
          · exact reg_call hHeld hbr2 (Nat.le_refl _)
          clear hK K
          (try simp only [put_lit, List.set_cons_zero, List.set_cons_succ])
          refine wpAnyH_ready (rs := [6, 12]) (by kernel_rfl) (by simp) ?_
          refine AllReadyH.cons rfl (fun K hK => ?_) ?_
          · skip
            go_simp
            refine (toPage_any _ _ _ _ _ _).mono ?_
            rintro e wr3 ⟨rfl, hbr3⟩
            have HQ3 : Hid (DevAt wr3 (some ⟨gq, 0, none⟩) n ds) := Lib.hid (by first | exact HQ2.out.keep hbr3 | exact (HQ2.out.keep (bel_1 _ _)).keep hbr3)
            have hnr3 : w1.heap.size ≤ wr3.heap.size := Nat.le_trans hHeld.size hbr3.size
            go_wp2_with fail
            refine hK.out _ _ ?_ (fun hHeld => ?_)
            · exact reg_call hHeld hbr3 (Nat.le_refl _)
            clear hK K
            (try simp only [put_lit, List.set_cons_zero, List.set_cons_succ])
            refine wpAnyH_ready (rs := [7, 12]) (by kernel_rfl) (by simp) ?_
            refine AllReadyH.cons rfl (fun K hK => ?_) ?_
            · skip
              go_simp
              refine (sAppendPage _ _ _ ds _ _ _ _ _ _ _ _ _ _ (by first | exact HQ3.out | exact HQ3.out.keep (bel_1 _ _))).mono ?_
              rw [HE.out]
              simp only []
              have hlo := hHeld.size
              rintro e wr4 ⟨vq, rfl, hOq, hbr4⟩
              obtain ⟨Aq, cq, rfl, hTq⟩ := devout hOq
              have HTQ := Lib.hid hTq
              clear hOq hTq
              have hlh := hbr4.size
              have hnr4 : w1.heap.size ≤ wr4.heap.size := Nat.le_trans hHeld.size hbr4.size
              go_wp2_with fail
              refine hK.out _ _ ?_ (fun hHeld => ?_)
              · exact reg_call hHeld hbr4 (Nat.le_refl _)
              clear hK K
              (try simp only [put_lit, List.set_cons_zero, List.set_cons_succ])
              refine reg_take 8 28 (v := ?_) rfl rfl (by kernel_rfl) (by kernel_rfl) (by kernel_rfl) (fun _ _ _ h => h) (Or.inl ⟨by rfl, ?_⟩) hHeld ?_
              rotate_left 1
              · intro wS hSw; go_simp <;> with_reducible rfl
              simp only [put_lit, List.set_cons_zero, List.set_cons_succ]
              refine reg_take 9 37 (v := ?_) rfl rfl (by kernel_rfl) (by kernel_rfl) (by kernel_rfl) (fun _ _ _ h => h) (Or.inl ⟨by rfl, ?_⟩) hHeld ?_
              rotate_left 1
              · intro wS hSw; go_simp <;> with_reducible rfl
              simp only [put_lit, List.set_cons_zero, List.set_cons_succ]
              refine reg_take 10 38 (v := ?_) rfl rfl (by kernel_rfl) (by kernel_rfl) (by kernel_rfl) (fun _ _ _ h => h) (Or.inl ⟨by rfl, ?_⟩) hHeld ?_
              rotate_left 1
              · intro wS hSw; go_simp <;> with_reducible rfl
              simp only [put_lit, List.set_cons_zero, List.set_cons_succ]
              refine reg_take 11 39 (v := ?_) rfl rfl (by kernel_rfl) (by kernel_rfl) (by kernel_rfl) (fun _ _ _ h => h) (Or.inl ⟨by rfl, ?_⟩) hHeld ?_
              rotate_left 1
              · intro wS hSw; go_simp <;> with_reducible rfl
              simp only [put_lit, List.set_cons_zero, List.set_cons_succ]
              refine wpAnyH_ready (rs := [12]) (by kernel_rfl) (by simp) ?_
              refine AllReadyH.cons rfl (fun K hK => ?_) AllReadyH.nil
              go_simp
              refine hK.out _ _ ?_ (fun hHeld => ?_)
              · exact reg_alloc hHeld (Nat.le_refl _) _
              clear hK K
              (try simp only [put_lit, List.set_cons_zero, List.set_cons_succ])
              refine reg_take 13 10 (v := ?_) rfl rfl (by kernel_rfl) (by kernel_rfl) (by kernel_rfl) (fun _ _ _ h => h) (Or.inl ⟨by rfl, ?_⟩) hHeld ?_
              rotate_left 1
              · intro wS hSw; go_simp <;> with_reducible rfl
              simp only [put_lit, List.set_cons_zero, List.set_cons_succ]
              refine wpAnyH_ready (rs := [14]) (by kernel_rfl) (by simp) ?_
              refine AllReadyH.cons rfl (fun K hK => ?_) AllReadyH.nil
              go_simp
              refine hK.out _ _ ?_ (fun hHeld => ?_)
              · first | exact reg_swap hHeld (by first | with_reducible assumption | exact Nat.le_refl _ | (simp; done) | (simp; omega) | omega) _ | exact ((hHeld.setCell (p := ⟨_, 0, none⟩) (by first | with_reducible assumption | exact Nat.le_refl _ | (simp; done) | (simp; omega) | omega) _).setCell (p := ⟨_, 1, none⟩) (by first | with_reducible assumption | exact Nat.le_refl _ | (simp; done) | (simp; omega) | omega) _).setCell (p := ⟨_, 2, none⟩) (by first | with_reducible assumption | exact Nat.le_refl _ | (simp; done) | (simp; omega) | omega) _
              clear hK K
              (try simp only [put_lit, List.set_cons_zero, List.set_cons_succ])
              refine reg_take 15 12 (v := ?_) rfl rfl (by kernel_rfl) (by kernel_rfl) (by kernel_rfl) (fun _ _ _ h => h) (Or.inl ⟨by rfl, ?_⟩) hHeld ?_
              rotate_left 1
              · intro wS hSw; go_simp <;> with_reducible rfl
              simp only [put_lit, List.set_cons_zero, List.set_cons_succ]
              refine wpAnyH_done (by kernel_rfl) ?_ _
              obtain ⟨X, eX⟩ := leafW hHeld
              have x0 : X.cell? ⟨wr4.heap.size, 0, none⟩ = some (.int .i64 g') := by rw [eX]; go_simp
              have x1 : X.cell? ⟨wr4.heap.size, 1, none⟩ = some (.int .i64 h') := by rw [eX]; go_simp
              have x2 : X.cell? ⟨wr4.heap.size, 2, none⟩ = some (.int .i64 k') := by rw [eX]; go_simp
              have SQ : ∃ lo hi, DvO X lo hi Aq E.length E ∧ w1.heap.size ≤ lo ∧ lo ≤ hi ∧ hi ≤ X.heap.size ∧ (wr4.heap.size < lo ∨ hi ≤ wr4.heap.size) := by rw [eX]; first | exact ⟨_, _, HTQ.out.keep (bel_1 _ _), hlo, hlh, by simp, Or.inr (Nat.le_refl _)⟩ | exact ⟨_, _, ((HTQ.out.setLow (a := ⟨wr4.heap.size, 0, none⟩) (by first | with_reducible assumption | exact Nat.le_refl _ | (simp; done) | (simp; omega) | omega) _).setLow (a := ⟨wr4.heap.size, 1, none⟩) (by first | with_reducible assumption | exact Nat.le_refl _ | (simp; done) | (simp; omega) | omega) _).setLow (a := ⟨wr4.heap.size, 2, none⟩) (by first | with_reducible assumption | exact Nat.le_refl _ | (simp; done) | (simp; omega) | omega) _, hlo, hlh, by simp [World.size_setCell], Or.inl (by first | with_reducible assumption | exact Nat.le_refl _ | (simp; done) | (simp; omega) | omega)⟩
              obtain ⟨lo, hi, S1, S2, S3', S4, S5'⟩ := SQ
              rw [← eX] at hHeld ⊢
              clear eX
              go_wp2_with fail
              go_meet
              exact ⟨wr4.heap.size, Aq, cq, lo, hi, rfl, rfl, rfl, (by first | with_reducible assumption | exact Nat.le_refl _ | (simp; done) | (simp; omega) | omega), x0, x1, x2, S1, S2, S3', S4, S5', hHeld⟩
            refine AllReadyH.cons rfl (fun K hK => ?_) AllReadyH.nil
            go_simp
            refine hK.out _ _ ?_ (fun hHeld => ?_)
            · exact reg_alloc hHeld (Nat.le_refl _) _
            clear hK K
            (try simp only [put_lit, List.set_cons_zero, List.set_cons_succ])
            refine wpAnyH_ready (rs := [7]) (by kernel_rfl) (by simp) ?_
            refine AllReadyH.cons rfl (fun K hK => ?_) AllReadyH.nil
            go_simp
            refine (sAppendPage _ _ _ ds _ _ _ _ _ _ _ _ _ _ (by first | exact HQ3.out | exact HQ3.out.keep (bel_1 _ _))).mono ?_
            rw [HE.out]
            simp only []
            have hlo := hHeld.size
            rintro e wr8 ⟨vq, rfl, hOq, hbr8⟩
            obtain ⟨Aq, cq, rfl, hTq⟩ := devout hOq
            have HTQ := Lib.hid hTq
            clear hOq hTq
            have hlh := hbr8.size
            have hnr8 : w1.heap.size ≤ wr8.heap.size := Nat.le_trans hHeld.size hbr8.size
            have hGar8 : ∀ o, wr8.cell? ⟨wr3.heap.size, o, none⟩ = (#[.int .i64 0, .int .i64 0, .int .i64 0] : Array Value)[o]? := fun o => ((bcell hbr8).1 _ o (by simp)).trans (by simp [go_sem])
            have hGar8f : ∀ o, wr8.frozen? ⟨wr3.heap.size, o, none⟩ = false := fun o => ((bcell hbr8).2 _ o (by simp)).trans (by simp [go_sem])
            have hGar8s : wr3.heap.size < wr8.heap.size := Nat.lt_of_lt_of_le (by simp) hbr8.size
            go_wp2_with fail
            refine hK.out _ _ ?_ (fun hHeld => ?_)
            · exact reg_call hHeld hbr8 (Nat.le_refl _)
            clear hK K
            (try simp only [put_lit, List.set_cons_zero, List.set_cons_succ])
            refine reg_take 8 28 (v := ?_) rfl rfl (by kernel_rfl) (by kernel_rfl) (by kernel_rfl) (fun _ _ _ h => h) (Or.inl ⟨by rfl, ?_⟩) hHeld ?_
            rotate_left 1
            · intro wS hSw; go_simp <;> with_reducible rfl
            simp only [put_lit, List.set_cons_zero, List.set_cons_succ]
            refine reg_take 9 37 (v := ?_) rfl rfl (by kernel_rfl) (by kernel_rfl) (by kernel_rfl) (fun _ _ _ h => h) (Or.inl ⟨by rfl, ?_⟩) hHeld ?_
            rotate_left 1
            · intro wS hSw; go_simp <;> with_reducible rfl
            simp only [put_lit, List.set_cons_zero, List.set_cons_succ]
            refine reg_take 10 38 (v := ?_) rfl rfl (by kernel_rfl) (by kernel_rfl) (by kernel_rfl) (fun _ _ _ h => h) (Or.inl ⟨by rfl, ?_⟩) hHeld ?_
            rotate_left 1
            · intro wS hSw; go_simp <;> with_reducible rfl
            simp only [put_lit, List.set_cons_zero, List.set_cons_succ]
            refine reg_take 11 39 (v := ?_) rfl rfl (by kernel_rfl) (by kernel_rfl) (by kernel_rfl) (fun _ _ _ h => h) (Or.inl ⟨by rfl, ?_⟩) hHeld ?_
            rotate_left 1
            · intro wS hSw; go_simp <;> with_reducible rfl
            simp only [put_lit, List.set_cons_zero, List.set_cons_succ]
            refine reg_take 13 10 (v := ?_) rfl rfl (by kernel_rfl) (by kernel_rfl) (by kernel_rfl) (fun _ _ _ h => h) (Or.inl ⟨by rfl, ?_⟩) hHeld ?_
            rotate_left 1
            · intro wS hSw; go_simp <;> with_reducible rfl
            simp only [put_lit, List.set_cons_zero, List.set_cons_succ]
            refine wpAnyH_ready (rs := [14]) (by kernel_rfl) (by simp) ?_
            refine AllReadyH.cons rfl (fun K hK => ?_) AllReadyH.nil
            go_simp
            refine hK.out _ _ ?_ (fun hHeld => ?_)
            · first | exact reg_swap hHeld (by first | with_reducible assumption | exact Nat.le_refl _ | (simp; done) | (simp; omega) | omega) _ | exact ((hHeld.setCell (p := ⟨_, 0, none⟩) (by first | with_reducible assumption | exact Nat.le_refl _ | (simp; done) | (simp; omega) | omega) _).setCell (p := ⟨_, 1, none⟩) (by first | with_reducible assumption | exact Nat.le_refl _ | (simp; done) | (simp; omega) | omega) _).setCell (p := ⟨_, 2, none⟩) (by first | with_reducible assumption | exact Nat.le_refl _ | (simp; done) | (simp; omega) | omega) _
            clear hK K
            (try simp only [put_lit, List.set_cons_zero, List.set_cons_succ])
            refine reg_take 15 12 (v := ?_) rfl rfl (by kernel_rfl) (by kernel_rfl) (by kernel_rfl) (fun _ _ _ h => h) (Or.inl ⟨by rfl, ?_⟩) hHeld ?_
            rotate_left 1
            · intro wS hSw; go_simp <;> with_reducible rfl
            simp only [put_lit, List.set_cons_zero, List.set_cons_succ]
            refine wpAnyH_done (by kernel_rfl) ?_ _
            obtain ⟨X, eX⟩ := leafW hHeld
            have x0 : X.cell? ⟨wr3.heap.size, 0, none⟩ = some (.int .i64 g') := by rw [eX]; go_simp
            have x1 : X.cell? ⟨wr3.heap.size, 1, none⟩ = some (.int .i64 h') := by rw [eX]; go_simp
            have x2 : X.cell? ⟨wr3.heap.size, 2, none⟩ = some (.int .i64 k') := by rw [eX]; go_simp
            have SQ : ∃ lo hi, DvO X lo hi Aq E.length E ∧ w1.heap.size ≤ lo ∧ lo ≤ hi ∧ hi ≤ X.heap.size ∧ (wr3.heap.size < lo ∨ hi ≤ wr3.heap.size) := by rw [eX]; first | exact ⟨_, _, HTQ.out.keep (bel_1 _ _), hlo, hlh, by simp, Or.inr (Nat.le_refl _)⟩ | exact ⟨_, _, ((HTQ.out.setLow (a := ⟨wr3.heap.size, 0, none⟩) (by first | with_reducible assumption | exact Nat.le_refl _ | (simp; done) | (simp; omega) | omega) _).setLow (a := ⟨wr3.heap.size, 1, none⟩) (by first | with_reducible assumption | exact Nat.le_refl _ | (simp; done) | (simp; omega) | omega) _).setLow (a := ⟨wr3.heap.size, 2, none⟩) (by first | with_reducible assumption | exact Nat.le_refl _ | (simp; done) | (simp; omega) | omega) _, hlo, hlh, by simp [World.size_setCell], Or.inl (by first | with_reducible assumption | exact Nat.le_refl _ | (simp; done) | (simp; omega) | omega)⟩
            obtain ⟨lo, hi, S1, S2, S3', S4, S5'⟩ := SQ
            rw [← eX] at hHeld ⊢
            clear eX
            go_wp2_with fail
            go_meet
            exact ⟨wr3.heap.size, Aq, cq, lo, hi, rfl, rfl, rfl, (by first | with_reducible assumption | exact Nat.le_refl _ | (simp; done) | (simp; omega) | omega), x0, x1, x2, S1, S2, S3', S4, S5', hHeld⟩
          refine AllReadyH.cons rfl (fun K hK => ?_) AllReadyH.nil
          go_simp
          refine hK.out _ _ ?_ (fun hHeld => ?_)
          · exact reg_alloc hHeld (Nat.le_refl _) _
          clear hK K
          (try simp only [put_lit, List.set_cons_zero, List.set_cons_succ])
          refine wpAnyH_ready (rs := [6]) (by kernel_rfl) (by simp) ?_
          refine AllReadyH.cons rfl (fun K hK => ?_) AllReadyH.nil
          go_simp
          refine (toPage_any _ _ _ _ _ _).mono ?_
          rintro e wr11 ⟨rfl, hbr11⟩
          have HQ3 : Hid (DevAt wr11 (some ⟨gq, 0, none⟩) n ds) := Lib.hid (by first | exact HQ2.out.keep hbr11 | exact (HQ2.out.keep (bel_1 _ _)).keep hbr11)
          have hnr11 : w1.heap.size ≤ wr11.heap.size := Nat.le_trans hHeld.size hbr11.size
          have hGar11 : ∀ o, wr11.cell? ⟨wr2.heap.size, o, none⟩ = (#[.int .i64 0, .int .i64 0, .int .i64 0] : Array Value)[o]? := fun o => ((bcell hbr11).1 _ o (by simp)).trans (by simp [go_sem])
          have hGar11f : ∀ o, wr11.frozen? ⟨wr2.heap.size, o, none⟩ = false := fun o => ((bcell hbr11).2 _ o (by simp)).trans (by simp [go_sem])
          have hGar11s : wr2.heap.size < wr11.heap.size := Nat.lt_of_lt_of_le (by simp) hbr11.size
          go_wp2_with fail
          refine hK.out _ _ ?_ (fun hHeld => ?_)
          · exact reg_call hHeld hbr11 (Nat.le_refl _)
          clear hK K
          (try simp only [put_lit, List.set_cons_zero, List.set_cons_succ])
          refine wpAnyH_ready (rs := [7]) (by kernel_rfl) (by simp) ?_
          refine AllReadyH.cons rfl (fun K hK => ?_) AllReadyH.nil
          go_simp
          refine (sAppendPage _ _ _ ds _ _ _ _ _ _ _ _ _ _ (by first | exact HQ3.out | exact HQ3.out.keep (bel_1 _ _))).mono ?_
          rw [HE.out]
          simp only []
          have hlo := hHeld.size
          rintro e wr12 ⟨vq, rfl, hOq, hbr12⟩
          obtain ⟨Aq, cq, rfl, hTq⟩ := devout hOq
          have HTQ := Lib.hid hTq
          clear hOq hTq
          have hlh := hbr12.size
          have hnr12 : w1.heap.size ≤ wr12.heap.size := Nat.le_trans hHeld.size hbr12.size
          have hGar12 : ∀ o, wr12.cell? ⟨wr2.heap.size, o, none⟩ = (#[.int .i64 0, .int .i64 0, .int .i64 0] : Array Value)[o]? := fun o => ((bcell hbr12).1 _ o hGar11s).trans (hGar11 o)
          have hGar12f : ∀ o, wr12.frozen? ⟨wr2.heap.size, o, none⟩ = false := fun o => ((bcell hbr12).2 _ o hGar11s).trans (hGar11f o)
          have hGar12s : wr2.heap.size < wr12.heap.size := Nat.lt_of_lt_of_le hGar11s hbr12.size
          go_wp2_with fail
          refine hK.out _ _ ?_ (fun hHeld => ?_)
          · exact reg_call hHeld hbr12 (Nat.le_refl _)
          clear hK K
          (try simp only [put_lit, List.set_cons_zero, List.set_cons_succ])
          refine reg_take 8 28 (v := ?_) rfl rfl (by kernel_rfl) (by kernel_rfl) (by kernel_rfl) (fun _ _ _ h => h) (Or.inl ⟨by rfl, ?_⟩) hHeld ?_
          rotate_left 1
          · intro wS hSw; go_simp <;> with_reducible rfl
          simp only [put_lit, List.set_cons_zero, List.set_cons_succ]
          refine reg_take 9 37 (v := ?_) rfl rfl (by kernel_rfl) (by kernel_rfl) (by kernel_rfl) (fun _ _ _ h => h) (Or.inl ⟨by rfl, ?_⟩) hHeld ?_
          rotate_left 1
          · intro wS hSw; go_simp <;> with_reducible rfl
          simp only [put_lit, List.set_cons_zero, List.set_cons_succ]
          refine reg_take 10 38 (v := ?_) rfl rfl (by kernel_rfl) (by kernel_rfl) (by kernel_rfl) (fun _ _ _ h => h) (Or.inl ⟨by rfl, ?_⟩) hHeld ?_
          rotate_left 1
          · intro wS hSw; go_simp <;> with_reducible rfl
          simp only [put_lit, List.set_cons_zero, List.set_cons_succ]
          refine reg_take 11 39 (v := ?_) rfl rfl (by kernel_rfl) (by kernel_rfl) (by kernel_rfl) (fun _ _ _ h => h) (Or.inl ⟨by rfl, ?_⟩) hHeld ?_
          rotate_left 1
          · intro wS hSw; go_simp <;> with_reducible rfl
          simp only [put_lit, List.set_cons_zero, List.set_cons_succ]
          refine reg_take 13 10 (v := ?_) rfl rfl (by kernel_rfl) (by kernel_rfl) (by kernel_rfl) (fun _ _ _ h => h) (Or.inl ⟨by rfl, ?_⟩) hHeld ?_
          rotate_left 1
          · intro wS hSw; go_simp <;> with_reducible rfl
          simp only [put_lit, List.set_cons_zero, List.set_cons_succ]
          refine wpAnyH_ready (rs := [14]) (by kernel_rfl) (by simp) ?_
          refine AllReadyH.cons rfl (fun K hK => ?_) AllReadyH.nil
          go_simp
          refine hK.out _ _ ?_ (fun hHeld => ?_)
          · first | exact reg_swap hHeld (by first | with_reducible assumption | exact Nat.le_refl _ | (simp; done) | (simp; omega) | omega) _ | exact ((hHeld.setCell (p := ⟨_, 0, none⟩) (by first | with_reducible assumption | exact Nat.le_refl _ | (simp; done) | (simp; omega) | omega) _).setCell (p := ⟨_, 1, none⟩) (by first | with_reducible assumption | exact Nat.le_refl _ | (simp; done) | (simp; omega) | omega) _).setCell (p := ⟨_, 2, none⟩) (by first | with_reducible assumption | exact Nat.le_refl _ | (simp; done) | (simp; omega) | omega) _
          clear hK K
          (try simp only [put_lit, List.set_cons_zero, List.set_cons_succ])
          refine reg_take 15 12 (v := ?_) rfl rfl (by kernel_rfl) (by kernel_rfl) (by kernel_rfl) (fun _ _ _ h => h) (Or.inl ⟨by rfl, ?_⟩) hHeld ?_
          rotate_left 1
          · intro wS hSw; go_simp <;> with_reducible rfl
          simp only [put_lit, List.set_cons_zero, List.set_cons_succ]
          refine wpAnyH_done (by kernel_rfl) ?_ _
          obtain ⟨X, eX⟩ := leafW hHeld
          have x0 : X.cell? ⟨wr2.heap.size, 0, none⟩ = some (.int .i64 g') := by rw [eX]; go_simp
          have x1 : X.cell? ⟨wr2.heap.size, 1, none⟩ = some (.int .i64 h') := by rw [eX]; go_simp
          have x2 : X.cell? ⟨wr2.heap.size, 2, none⟩ = some (.int .i64 k') := by rw [eX]; go_simp
          have SQ : ∃ lo hi, DvO X lo hi Aq E.length E ∧ w1.heap.size ≤ lo ∧ lo ≤ hi ∧ hi ≤ X.heap.size ∧ (wr2.heap.size < lo ∨ hi ≤ wr2.heap.size) := by rw [eX]; first | exact ⟨_, _, HTQ.out.keep (bel_1 _ _), hlo, hlh, by simp, Or.inr (Nat.le_refl _)⟩ | exact ⟨_, _, ((HTQ.out.setLow (a := ⟨wr2.heap.size, 0, none⟩) (by first | with_reducible assumption | exact Nat.le_refl _ | (simp; done) | (simp; omega) | omega) _).setLow (a := ⟨wr2.heap.size, 1, none⟩) (by first | with_reducible assumption | exact Nat.le_refl _ | (simp; done) | (simp; omega) | omega) _).setLow (a := ⟨wr2.heap.size, 2, none⟩) (by first | with_reducible assumption | exact Nat.le_refl _ | (simp; done) | (simp; omega) | omega) _, hlo, hlh, by simp [World.size_setCell], Or.inl (by first | with_reducible assumption | exact Nat.le_refl _ | (simp; done) | (simp; omega) | omega)⟩
          obtain ⟨lo, hi, S1, S2, S3', S4, S5'⟩ := SQ
          rw [← eX] at hHeld ⊢
          clear eX
          go_wp2_with fail
          go_meet
          exact ⟨wr2.heap.size, Aq, cq, lo, hi, rfl, rfl, rfl, (by first | with_reducible assumption | exact Nat.le_refl _ | (simp; done) | (simp; omega) | omega), x0, x1, x2, S1, S2, S3', S4, S5', hHeld⟩
        refine AllReadyH.cons rfl (fun K hK => ?_) AllReadyH.nil
        go_simp
        refine hK.out _ _ ?_ (fun hHeld => ?_)
        · exact reg_alloc hHeld (Nat.le_refl _) _
        clear hK K
        (try simp only [put_lit, List.set_cons_zero, List.set_cons_succ])
        refine wpAnyH_ready (rs := [3]) (by kernel_rfl) (by simp) ?_
        refine AllReadyH.cons rfl (fun K hK => ?_) AllReadyH.nil
        go_simp
        refine (toHeads_any _ _ _ _).mono ?_
        rintro e wr15 ⟨rfl, hbr15⟩
        have HQ2 : Hid (DevAt wr15 (some ⟨gq, 0, none⟩) n ds) := Lib.hid (by first | exact HQ1.out.keep hbr15 | exact (HQ1.out.keep (bel_1 _ _)).keep hbr15)
        have hnr15 : w1.heap.size ≤ wr15.heap.size := Nat.le_trans hHeld.size hbr15.size
        have hGar15 : ∀ o, wr15.cell? ⟨wr1.heap.size, o, none⟩ = (#[.int .i64 0, .int .i64 0, .int .i64 0] : Array Value)[o]? := fun o => ((bcell hbr15).1 _ o (by simp)).trans (by simp [go_sem])
        have hGar15f : ∀ o, wr15.frozen? ⟨wr1.heap.size, o, none⟩ = false := fun o => ((bcell hbr15).2 _ o (by simp)).trans (by simp [go_sem])
        have hGar15s : wr1.heap.size < wr15.heap.size := Nat.lt_of_lt_of_le (by simp) hbr15.size
        go_wp2_with fail
        refine hK.out _ _ ?_ (fun hHeld => ?_)
        · exact reg_call hHeld hbr15 (Nat.le_refl _)
        clear hK K
        (try simp only [put_lit, List.set_cons_zero, List.set_cons_succ])
        refine wpAnyH_ready (rs := [6]) (by kernel_rfl) (by simp) ?_
        refine AllReadyH.cons rfl (fun K hK => ?_) AllReadyH.nil
        go_simp
        refine (toPage_any _ _ _ _ _ _).mono ?_
        rintro e wr16 ⟨rfl, hbr16⟩
        have HQ3 : Hid (DevAt wr16 (some ⟨gq, 0, none⟩) n ds) := Lib.hid (by first | exact HQ2.out.keep hbr16 | exact (HQ2.out.keep (bel_1 _ _)).keep hbr16)
        have hnr16 : w1.heap.size ≤ wr16.heap.size := Nat.le_trans hHeld.size hbr16.size
        have hGar16 : ∀ o, wr16.cell? ⟨wr1.heap.size, o, none⟩ = (#[.int .i64 0, .int .i64 0, .int .i64 0] : Array Value)[o]? := fun o => ((bcell hbr16).1 _ o hGar15s).trans (hGar15 o)
        have hGar16f : ∀ o, wr16.frozen? ⟨wr1.heap.size, o, none⟩ = false := fun o => ((bcell hbr16).2 _ o hGar15s).trans (hGar15f o)
        have hGar16s : wr1.heap.size < wr16.heap.size := Nat.lt_of_lt_of_le hGar15s hbr16.size
        go_wp2_with fail
        refine hK.out _ _ ?_ (fun hHeld => ?_)
        · exact reg_call hHeld hbr16 (Nat.le_refl _)
        clear hK K
        (try simp only [put_lit, List.set_cons_zero, List.set_cons_succ])
        refine wpAnyH_ready (rs := [7]) (by kernel_rfl) (by simp) ?_
        refine AllReadyH.cons rfl (fun K hK => ?_) AllReadyH.nil
        go_simp
        refine (sAppendPage _ _ _ ds _ _ _ _ _ _ _ _ _ _ (by first | exact HQ3.out | exact HQ3.out.keep (bel_1 _ _))).mono ?_
        rw [HE.out]
        simp only []
        have hlo := hHeld.size
        rintro e wr17 ⟨vq, rfl, hOq, hbr17⟩
        obtain ⟨Aq, cq, rfl, hTq⟩ := devout hOq
        have HTQ := Lib.hid hTq
        clear hOq hTq
        have hlh := hbr17.size
        have hnr17 : w1.heap.size ≤ wr17.heap.size := Nat.le_trans hHeld.size hbr17.size
        have hGar17 : ∀ o, wr17.cell? ⟨wr1.heap.size, o, none⟩ = (#[.int .i64 0, .int .i64 0, .int .i64 0] : Array Value)[o]? := fun o => ((bcell hbr17).1 _ o hGar16s).trans (hGar16 o)
        have hGar17f : ∀ o, wr17.frozen? ⟨wr1.heap.size, o, none⟩ = false := fun o => ((bcell hbr17).2 _ o hGar16s).trans (hGar16f o)
        have hGar17s : wr1.heap.size < wr17.heap.size := Nat.lt_of_lt_of_le hGar16s hbr17.size
        go_wp2_with fail
        refine hK.out _ _ ?_ (fun hHeld => ?_)
        · exact reg_call hHeld hbr17 (Nat.le_refl _)
        clear hK K
        (try simp only [put_lit, List.set_cons_zero, List.set_cons_succ])
        refine reg_take 8 28 (v := ?_) rfl rfl (by kernel_rfl) (by kernel_rfl) (by kernel_rfl) (fun _ _ _ h => h) (Or.inl ⟨by rfl, ?_⟩) hHeld ?_
        rotate_left 1
        · intro wS hSw; go_simp <;> with_reducible rfl
        simp only [put_lit, List.set_cons_zero, List.set_cons_succ]
        refine reg_take 9 37 (v := ?_) rfl rfl (by kernel_rfl) (by kernel_rfl) (by kernel_rfl) (fun _ _ _ h => h) (Or.inl ⟨by rfl, ?_⟩) hHeld ?_
        rotate_left 1
        · intro wS hSw; go_simp <;> with_reducible rfl
        simp only [put_lit, List.set_cons_zero, List.set_cons_succ]
        refine reg_take 10 38 (v := ?_) rfl rfl (by kernel_rfl) (by kernel_rfl) (by kernel_rfl) (fun _ _ _ h => h) (Or.inl ⟨by rfl, ?_⟩) hHeld ?_
        rotate_left 1
        · intro wS hSw; go_simp <;> with_reducible rfl
        simp only [put_lit, List.set_cons_zero, List.set_cons_succ]
        refine reg_take 11 39 (v := ?_) rfl rfl (by kernel_rfl) (by kernel_rfl) (by kernel_rfl) (fun _ _ _ h => h) (Or.inl ⟨by rfl, ?_⟩) hHeld ?_
        rotate_left 1
        · intro wS hSw; go_simp <;> with_reducible rfl
        simp only [put_lit, List.set_cons_zero, List.set_cons_succ]
        refine reg_take 13 10 (v := ?_) rfl rfl (by kernel_rfl) (by kernel_rfl) (by kernel_rfl) (fun _ _ _ h => h) (Or.inl ⟨by rfl, ?_⟩) hHeld ?_
        rotate_left 1
        · intro wS hSw; go_simp <;> with_reducible rfl
        simp only [put_lit, List.set_cons_zero, List.set_cons_succ]
        refine wpAnyH_ready (rs := [14]) (by kernel_rfl) (by simp) ?_
        refine AllReadyH.cons rfl (fun K hK => ?_) AllReadyH.nil
        go_simp
        refine hK.out _ _ ?_ (fun hHeld => ?_)
        · first | exact reg_swap hHeld (by first | with_reducible assumption | exact Nat.le_refl _ | (simp; done) | (simp; omega) | omega) _ | exact ((hHeld.setCell (p := ⟨_, 0, none⟩) (by first | with_reducible assumption | exact Nat.le_refl _ | (simp; done) | (simp; omega) | omega) _).setCell (p := ⟨_, 1, none⟩) (by first | with_reducible assumption | exact Nat.le_refl _ | (simp; done) | (simp; omega) | omega) _).setCell (p := ⟨_, 2, none⟩) (by first | with_reducible assumption | exact Nat.le_refl _ | (simp; done) | (simp; omega) | omega) _
        clear hK K
        (try simp only [put_lit, List.set_cons_zero, List.set_cons_succ])
        refine reg_take 15 12 (v := ?_) rfl rfl (by kernel_rfl) (by kernel_rfl) (by kernel_rfl) (fun _ _ _ h => h) (Or.inl ⟨by rfl, ?_⟩) hHeld ?_
        rotate_left 1
        · intro wS hSw; go_simp <;> with_reducible rfl
        simp only [put_lit, List.set_cons_zero, List.set_cons_succ]
        refine wpAnyH_done (by kernel_rfl) ?_ _
        obtain ⟨X, eX⟩ := leafW hHeld
        have x0 : X.cell? ⟨wr1.heap.size, 0, none⟩ = some (.int .i64 g') := by rw [eX]; go_simp
        have x1 : X.cell? ⟨wr1.heap.size, 1, none⟩ = some (.int .i64 h') := by rw [eX]; go_simp
        have x2 : X.cell? ⟨wr1.heap.size, 2, none⟩ = some (.int .i64 k') := by rw [eX]; go_simp
        have SQ : ∃ lo hi, DvO X lo hi Aq E.length E ∧ w1.heap.size ≤ lo ∧ lo ≤ hi ∧ hi ≤ X.heap.size ∧ (wr1.heap.size < lo ∨ hi ≤ wr1.heap.size) := by rw [eX]; first | exact ⟨_, _, HTQ.out.keep (bel_1 _ _), hlo, hlh, by simp, Or.inr (Nat.le_refl _)⟩ | exact ⟨_, _, ((HTQ.out.setLow (a := ⟨wr1.heap.size, 0, none⟩) (by first | with_reducible assumption | exact Nat.le_refl _ | (simp; done) | (simp; omega) | omega) _).setLow (a := ⟨wr1.heap.size, 1, none⟩) (by first | with_reducible assumption | exact Nat.le_refl _ | (simp; done) | (simp; omega) | omega) _).setLow (a := ⟨wr1.heap.size, 2, none⟩) (by first | with_reducible assumption | exact Nat.le_refl _ | (simp; done) | (simp; omega) | omega) _, hlo, hlh, by simp [World.size_setCell], Or.inl (by first | with_reducible assumption | exact Nat.le_refl _ | (simp; done) | (simp; omega) | omega)⟩
        obtain ⟨lo, hi, S1, S2, S3', S4, S5'⟩ := SQ
        rw [← eX] at hHeld ⊢
        clear eX
        go_wp2_with fail
        go_meet
        exact ⟨wr1.heap.size, Aq, cq, lo, hi, rfl, rfl, rfl, (by first | with_reducible assumption | exact Nat.le_refl _ | (simp; done) | (simp; omega) | omega), x0, x1, x2, S1, S2, S3', S4, S5', hHeld⟩
      refine AllReadyH.cons rfl (fun K hK => ?_) AllReadyH.nil
      go_simp
      refine hK.out _ _ ?_ (fun hHeld => ?_)
      · exact reg_alloc hHeld (Nat.le_refl _) _
      clear hK K
      (try simp only [put_lit, List.set_cons_zero, List.set_cons_succ])
      refine wpAnyH_ready (rs := [1]) (by kernel_rfl) (by simp) ?_
      refine AllReadyH.cons rfl (fun K hK => ?_) AllReadyH.nil
      go_simp
      refine (toBlockS_any _ _ _ ds _ (HP.out.keep (bel_t HB1.out hHeld)) hn HS.out).mono ?_
      rintro e wr20 ⟨gq, Gq, rfl, hRq, hbr20⟩
      have HQ1 : Hid (DevAt wr20 (some ⟨gq, 0, none⟩) n ds) := Lib.hid (hRq.at hm)
      clear hRq
      have hnr20 : w1.heap.size ≤ wr20.heap.size := Nat.le_trans hHeld.size hbr20.size
      have hGar20 : ∀ o, wr20.cell? ⟨w1.heap.size, o, none⟩ = (#[.int .i64 0, .int .i64 0, .int .i64 0] : Array Value)[o]? := fun o => ((bcell hbr20).1 _ o (by simp)).trans (by simp [go_sem])
      have hGar20f : ∀ o, wr20.frozen? ⟨w1.heap.size, o, none⟩ = false := fun o => ((bcell hbr20).2 _ o (by simp)).trans (by simp [go_sem])
      have hGar20s : w1.heap.size < wr20.heap.size := Nat.lt_of_lt_of_le (by simp) hbr20.size
      go_wp2_with fail
      refine hK.out _ _ ?_ (fun hHeld => ?_)
      · exact reg_call hHeld hbr20 (Nat.le_refl _)
      clear hK K
      (try simp only [put_lit, List.set_cons_zero, List.set_cons_succ])
      refine wpAnyH_ready (rs := [3]) (by kernel_rfl) (by simp) ?_
      refine AllReadyH.cons rfl (fun K hK => ?_) AllReadyH.nil
      go_simp
      refine (toHeads_any _ _ _ _).mono ?_
      rintro e wr21 ⟨rfl, hbr21⟩
      have HQ2 : Hid (DevAt wr21 (some ⟨gq, 0, none⟩) n ds) := Lib.hid (by first | exact HQ1.out.keep hbr21 | exact (HQ1.out.keep (bel_1 _ _)).keep hbr21)
      have hnr21 : w1.heap.size ≤ wr21.heap.size := Nat.le_trans hHeld.size hbr21.size
      have hGar21 : ∀ o, wr21.cell? ⟨w1.heap.size, o, none⟩ = (#[.int .i64 0, .int .i64 0, .int .i64 0] : Array Value)[o]? := fun o => ((bcell hbr21).1 _ o hGar20s).trans (hGar20 o)
      have hGar21f : ∀ o, wr21.frozen? ⟨w1.heap.size, o, none⟩ = false := fun o => ((bcell hbr21).2 _ o hGar20s).trans (hGar20f o)
      have hGar21s : w1.heap.size < wr21.heap.size := Nat.lt_of_lt_of_le hGar20s hbr21.size
      go_wp2_with fail
      refine hK.out _ _ ?_ (fun hHeld => ?_)
      · exact reg_call hHeld hbr21 (Nat.le_refl _)
      clear hK K
      (try simp only [put_lit, List.set_cons_zero, List.set_cons_succ])
      refine wpAnyH_ready (rs := [6]) (by kernel_rfl) (by simp) ?_
      refine AllReadyH.cons rfl (fun K hK => ?_) AllReadyH.nil
      go_simp
      refine (toPage_any _ _ _ _ _ _).mono ?_
      rintro e wr22 ⟨rfl, hbr22⟩
      have HQ3 : Hid (DevAt wr22 (some ⟨gq, 0, none⟩) n ds) := Lib.hid (by first | exact HQ2.out.keep hbr22 | exact (HQ2.out.keep (bel_1 _ _)).keep hbr22)
      have hnr22 : w1.heap.size ≤ wr22.heap.size := Nat.le_trans hHeld.size hbr22.size
      have hGar22 : ∀ o, wr22.cell? ⟨w1.heap.size, o, none⟩ = (#[.int .i64 0, .int .i64 0, .int .i64 0] : Array Value)[o]? := fun o => ((bcell hbr22).1 _ o hGar21s).trans (hGar21 o)
      have hGar22f : ∀ o, wr22.frozen? ⟨w1.heap.size, o, none⟩ = false := fun o => ((bcell hbr22).2 _ o hGar21s).trans (hGar21f o)
      have hGar22s : w1.heap.size < wr22.heap.size := Nat.lt_of_lt_of_le hGar21s hbr22.size
      go_wp2_with fail
      refine hK.out _ _ ?_ (fun hHeld => ?_)
      · exact reg_call hHeld hbr22 (Nat.le_refl _)
      clear hK K
      (try simp only [put_lit, List.set_cons_zero, List.set_cons_succ])
      refine wpAnyH_ready (rs := [7]) (by kernel_rfl) (by simp) ?_
      refine AllReadyH.cons rfl (fun K hK => ?_) AllReadyH.nil
      go_simp
      refine (sAppendPage _ _ _ ds _ _ _ _ _ _ _ _ _ _ (by first | exact HQ3.out | exact HQ3.out.keep (bel_1 _ _))).mono ?_
      rw [HE.out]
      simp only []
      have hlo := hHeld.size
      rintro e wr23 ⟨vq, rfl, hOq, hbr23⟩
      obtain ⟨Aq, cq, rfl, hTq⟩ := devout hOq
      have HTQ := Lib.hid hTq
      clear hOq hTq
      have hlh := hbr23.size
      have hnr23 : w1.heap.size ≤ wr23.heap.size := Nat.le_trans hHeld.size hbr23.size
      have hGar23 : ∀ o, wr23.cell? ⟨w1.heap.size, o, none⟩ = (#[.int .i64 0, .int .i64 0, .int .i64 0] : Array Value)[o]? := fun o => ((bcell hbr23).1 _ o hGar22s).trans (hGar22 o)
      have hGar23f : ∀ o, wr23.frozen? ⟨w1.heap.size, o, none⟩ = false := fun o => ((bcell hbr23).2 _ o hGar22s).trans (hGar22f o)
      have hGar23s : w1.heap.size < wr23.heap.size := Nat.lt_of_lt_of_le hGar22s hbr23.size
      go_wp2_with fail
      refine hK.out _ _ ?_ (fun hHeld => ?_)
      · exact reg_call hHeld hbr23 (Nat.le_refl _)
      clear hK K
      (try simp only [put_lit, List.set_cons_zero, List.set_cons_succ])
      refine reg_take 8 28 (v := ?_) rfl rfl (by kernel_rfl) (by kernel_rfl) (by kernel_rfl) (fun _ _ _ h => h) (Or.inl ⟨by rfl, ?_⟩) hHeld ?_
      rotate_left 1
      · intro wS hSw; go_simp <;> with_reducible rfl
      simp only [put_lit, List.set_cons_zero, List.set_cons_succ]
      refine reg_take 9 37 (v := ?_) rfl rfl (by kernel_rfl) (by kernel_rfl) (by kernel_rfl) (fun _ _ _ h => h) (Or.inl ⟨by rfl, ?_⟩) hHeld ?_
      rotate_left 1
      · intro wS hSw; go_simp <;> with_reducible rfl
      simp only [put_lit, List.set_cons_zero, List.set_cons_succ]
      refine reg_take 10 38 (v := ?_) rfl rfl (by kernel_rfl) (by kernel_rfl) (by kernel_rfl) (fun _ _ _ h => h) (Or.inl ⟨by rfl, ?_⟩) hHeld ?_
      rotate_left 1
      · intro wS hSw; go_simp <;> with_reducible rfl
      simp only [put_lit, List.set_cons_zero, List.set_cons_succ]
      refine reg_take 11 39 (v := ?_) rfl rfl (by kernel_rfl) (by kernel_rfl) (by kernel_rfl) (fun _ _ _ h => h) (Or.inl ⟨by rfl, ?_⟩) hHeld ?_
      rotate_left 1
      · intro wS hSw; go_simp <;> with_reducible rfl
      simp only [put_lit, List.set_cons_zero, List.set_cons_succ]
      refine reg_take 13 10 (v := ?_) rfl rfl (by kernel_rfl) (by kernel_rfl) (by kernel_rfl) (fun _ _ _ h => h) (Or.inl ⟨by rfl, ?_⟩) hHeld ?_
      rotate_left 1
      · intro wS hSw; go_simp <;> with_reducible rfl
      simp only [put_lit, List.set_cons_zero, List.set_cons_succ]
      refine wpAnyH_ready (rs := [14]) (by kernel_rfl) (by simp) ?_
      refine AllReadyH.cons rfl (fun K hK => ?_) AllReadyH.nil
      go_simp
      refine hK.out _ _ ?_ (fun hHeld => ?_)
      · first | exact reg_swap hHeld (by first | with_reducible assumption | exact Nat.le_refl _ | (simp; done) | (simp; omega) | omega) _ | exact ((hHeld.setCell (p := ⟨_, 0, none⟩) (by first | with_reducible assumption | exact Nat.le_refl _ | (simp; done) | (simp; omega) | omega) _).setCell (p := ⟨_, 1, none⟩) (by first | with_reducible assumption | exact Nat.le_refl _ | (simp; done) | (simp; omega) | omega) _).setCell (p := ⟨_, 2, none⟩) (by first | with_reducible assumption | exact Nat.le_refl _ | (simp; done) | (simp; omega) | omega) _
      clear hK K
      (try simp only [put_lit, List.set_cons_zero, List.set_cons_succ])
      refine reg_take 15 12 (v := ?_) rfl rfl (by kernel_rfl) (by kernel_rfl) (by kernel_rfl) (fun _ _ _ h => h) (Or.inl ⟨by rfl, ?_⟩) hHeld ?_
      rotate_left 1
      · intro wS hSw; go_simp <;> with_reducible rfl
      simp only [put_lit, List.set_cons_zero, List.set_cons_succ]
      refine wpAnyH_done (by kernel_rfl) ?_ _
      obtain ⟨X, eX⟩ := leafW hHeld
      have x0 : X.cell? ⟨w1.heap.size, 0, none⟩ = some (.int .i64 g') := by rw [eX]; go_simp
      have x1 : X.cell? ⟨w1.heap.size, 1, none⟩ = some (.int .i64 h') := by rw [eX]; go_simp
      have x2 : X.cell? ⟨w1.heap.size, 2, none⟩ = some (.int .i64 k') := by rw [eX]; go_simp
      have SQ : ∃ lo hi, DvO X lo hi Aq E.length E ∧ w1.heap.size ≤ lo ∧ lo ≤ hi ∧ hi ≤ X.heap.size ∧ (w1.heap.size < lo ∨ hi ≤ w1.heap.size) := by rw [eX]; first | exact ⟨_, _, HTQ.out.keep (bel_1 _ _), hlo, hlh, by simp, Or.inr (Nat.le_refl _)⟩ | exact ⟨_, _, ((HTQ.out.setLow (a := ⟨w1.heap.size, 0, none⟩) (by first | with_reducible assumption | exact Nat.le_refl _ | (simp; done) | (simp; omega) | omega) _).setLow (a := ⟨w1.heap.size, 1, none⟩) (by first | with_reducible assumption | exact Nat.le_refl _ | (simp; done) | (simp; omega) | omega) _).setLow (a := ⟨w1.heap.size, 2, none⟩) (by first | with_reducible assumption | exact Nat.le_refl _ | (simp; done) | (simp; omega) | omega) _, hlo, hlh, by simp [World.size_setCell], Or.inl (by first | with_reducible assumption | exact Nat.le_refl _ | (simp; done) | (simp; omega) | omega)⟩
      obtain ⟨lo, hi, S1, S2, S3', S4, S5'⟩ := SQ
      rw [← eX] at hHeld ⊢
      clear eX
      go_wp2_with fail
      go_meet
      exact ⟨w1.heap.size, Aq, cq, lo, hi, rfl, rfl, rfl, (by first | with_reducible assumption | exact Nat.le_refl _ | (simp; done) | (simp; omega) | omega), x0, x1, x2, S1, S2, S3', S4, S5', hHeld⟩
    case rest =>
      obtain ⟨Gaa, Aaa, caa, loaa, hiaa, rfl, rfl, rfl, hcb⟩ := hcut
      obtain ⟨w2, rfl⟩ : ∃ x, x = wc := ⟨_, rfl⟩
      obtain ⟨hGaa, aa0, aa1, aa2, hTaa, hl1aa, hl2aa, hl3aa, hl4aa, hbk⟩ := hcb
      have HV2 := Lib.hid hbk
      have HB2 := Lib.hid (bel_t HB1.out HV2.out)
      have hs2 : w1.heap.size ≤ w2.heap.size := HV2.out.size
      replace q0 := stays_below HV2.out _ _ _ q0
      replace q1 := stays_below HV2.out _ _ _ q1
      replace q2 := stays_below HV2.out _ _ _ q2
      replace p0 := stays_below HV2.out _ _ _ p0
      replace p1 := stays_below HV2.out _ _ _ p1
      replace p2 := stays_below HV2.out _ _ _ p2
      replace p3 := stays_below HV2.out _ _ _ p3
      replace p4 := stays_below HV2.out _ _ _ p4
      have zq_2 : w.heap.size < w2.heap.size := block_lt_of_cell q0
      have zp_2 : w.heap.size + 1 < w2.heap.size := block_lt_of_cell p0
      clear hbk
      have S3 := Lib.hid hTaa
      clear hTaa
      have zaa_2 : Gaa < w2.heap.size := block_lt_of_cell aa0
      go_wp2_with fail
      refine (toBlockS_any _ _ _ ds _ (HP.out.keep HB2.out) hn HS.out).mono ?_
      rintro e w3 ⟨g3, G3, rfl, hR3, hb3⟩
      have HV3 := Lib.hid hb3
      have HB3 := Lib.hid (bel_t HB2.out HV3.out)
      have hs3 : w2.heap.size ≤ w3.heap.size := HV3.out.size
      replace q0 := stays_below HV3.out _ _ _ q0
      replace q1 := stays_below HV3.out _ _ _ q1
      replace q2 := stays_below HV3.out _ _ _ q2
      replace p0 := stays_below HV3.out _ _ _ p0
      replace p1 := stays_below HV3.out _ _ _ p1
      replace p2 := stays_below HV3.out _ _ _ p2
      replace p3 := stays_below HV3.out _ _ _ p3
      replace p4 := stays_below HV3.out _ _ _ p4
      replace aa0 := stays_below HV3.out _ _ _ aa0
      replace aa1 := stays_below HV3.out _ _ _ aa1
      replace aa2 := stays_below HV3.out _ _ _ aa2
      replace S3 := Lib.hid (S3.out.keep HV3.out)
      have zq_3 : w.heap.size < w3.heap.size := block_lt_of_cell q0
      have zp_3 : w.heap.size + 1 < w3.heap.size := block_lt_of_cell p0
      have zaa_3 : Gaa < w3.heap.size := block_lt_of_cell aa0
      clear hb3
      have SX := Lib.hid (dvrow_o hR3)
      clear hR3
      go_upto_region 7 with fail
      go_cut [14, 15, 16] (fun xa xb xc wx => ∃ (G : Nat) (A' : Option Addr) (c' lo hi : Nat), xa = .slice A' E.length c' ∧ xb = .pointer (some ⟨G, 0, none⟩) ∧ xc = .int .i64 at_ ∧ CutD w3 wx G A' E g' h' k' lo hi)
      case first =>
        refine reg_begin (by kernel_rfl) (fun hHeld => ?_)
        refine reg_take 0 43 (v := ?_) rfl rfl (by kernel_rfl) (by kernel_rfl) (by kernel_rfl) (fun _ _ _ h => h) (Or.inl ⟨by rfl, ?_⟩) hHeld ?_
        rotate_left 1
        · intro wS hSw; go_simp <;> with_reducible rfl
        simp only [put_lit, List.set_cons_zero, List.set_cons_succ]
        refine reg_take 1 44 (v := ?_) rfl rfl (by kernel_rfl) (by kernel_rfl) (by kernel_rfl) (fun _ _ _ h => h) (Or.inl ⟨by rfl, ?_⟩) hHeld ?_
        rotate_left 1
        · intro wS hSw; have hqS := bcellB hSw; go_simp <;> with_reducible rfl
        simp only [put_lit, List.set_cons_zero, List.set_cons_succ]
        refine reg_take 3 46 (v := ?_) rfl rfl (by kernel_rfl) (by kernel_rfl) (by kernel_rfl) (fun _ _ _ h => h) (Or.inl ⟨by rfl, ?_⟩) hHeld ?_
        rotate_left 1
        · intro wS hSw; go_simp <;> with_reducible rfl
        simp only [put_lit, List.set_cons_zero, List.set_cons_succ]
        refine reg_take 4 47 (v := ?_) rfl rfl (by kernel_rfl) (by kernel_rfl) (by kernel_rfl) (fun _ _ _ h => h) (Or.inl ⟨by rfl, ?_⟩) hHeld ?_
        rotate_left 1
        · intro wS hSw; have hqS := bcellB hSw; go_simp <;> with_reducible rfl
        simp only [put_lit, List.set_cons_zero, List.set_cons_succ]
        refine wpAnyH_ready (rs := [2, 11]) (by kernel_rfl) (by simp) ?_
        refine AllReadyH.cons rfl (fun K hK => ?_) ?_
        · skip
          go_simp
          refine (toHeads_any _ _ _ _).mono ?_
          rintro e wr1 ⟨rfl, hbr1⟩
          have hnr1 : w3.heap.size ≤ wr1.heap.size := Nat.le_trans hHeld.size hbr1.size
          go_wp2_with fail
          refine hK.out _ _ ?_ (fun hHeld => ?_)
          · exact reg_call hHeld hbr1 (Nat.le_refl _)
          clear hK K
          (try simp only [put_lit, List.set_cons_zero, List.set_cons_succ])
          refine wpAnyH_ready (rs := [5, 11]) (by kernel_rfl) (by simp) ?_
          refine AllReadyH.cons rfl (fun K hK => ?_) ?_
          · skip
            go_simp
            refine (toPage_any _ _ _ _ _ _).mono ?_
            rintro e wr2 ⟨rfl, hbr2⟩
            have hnr2 : w3.heap.size ≤ wr2.heap.size := Nat.le_trans hHeld.size hbr2.size
            go_wp2_with fail
            refine hK.out _ _ ?_ (fun hHeld => ?_)
            · exact reg_call hHeld hbr2 (Nat.le_refl _)
            clear hK K
            (try simp only [put_lit, List.set_cons_zero, List.set_cons_succ])
            refine wpAnyH_ready (rs := [6, 11]) (by kernel_rfl) (by simp) ?_
            refine AllReadyH.cons rfl (fun K hK => ?_) ?_
            · skip
              go_simp
              refine (iAppendPage _ _ _ ds _ _ _ _ _ _ _ _ _ _ ((SX.out.at hm).keep hHeld)).mono ?_
              rw [HE.out]
              simp only []
              have hlo := hHeld.size
              rintro e wr3 ⟨vq, rfl, hOq, hbr3⟩
              obtain ⟨Aq, cq, rfl, hTq⟩ := devout hOq
              have HTQ := Lib.hid hTq
              clear hOq hTq
              have hlh := hbr3.size
              have hnr3 : w3.heap.size ≤ wr3.heap.size := Nat.le_trans hHeld.size hbr3.size
              go_wp2_with fail
              refine hK.out _ _ ?_ (fun hHeld => ?_)
              · exact reg_call hHeld hbr3 (Nat.le_refl _)
              clear hK K
              (try simp only [put_lit, List.set_cons_zero, List.set_cons_succ])
              refine reg_take 7 42 (v := ?_) rfl rfl (by kernel_rfl) (by kernel_rfl) (by kernel_rfl) (fun _ _ _ h => h) (Or.inl ⟨by rfl, ?_⟩) hHeld ?_
              rotate_left 1
              · intro wS hSw; go_simp <;> with_reducible rfl
              simp only [put_lit, List.set_cons_zero, List.set_cons_succ]
              refine reg_take 8 50 (v := ?_) rfl rfl (by kernel_rfl) (by kernel_rfl) (by kernel_rfl) (fun _ _ _ h => h) (Or.inl ⟨by rfl, ?_⟩) hHeld ?_
              rotate_left 1
              · intro wS hSw; go_simp <;> with_reducible rfl
              simp only [put_lit, List.set_cons_zero, List.set_cons_succ]
              refine reg_take 9 51 (v := ?_) rfl rfl (by kernel_rfl) (by kernel_rfl) (by kernel_rfl) (fun _ _ _ h => h) (Or.inl ⟨by rfl, ?_⟩) hHeld ?_
              rotate_left 1
              · intro wS hSw; go_simp <;> with_reducible rfl
              simp only [put_lit, List.set_cons_zero, List.set_cons_succ]
              refine reg_take 10 52 (v := ?_) rfl rfl (by kernel_rfl) (by kernel_rfl) (by kernel_rfl) (fun _ _ _ h => h) (Or.inl ⟨by rfl, ?_⟩) hHeld ?_
              rotate_left 1
              · intro wS hSw; go_simp <;> with_reducible rfl
              simp only [put_lit, List.set_cons_zero, List.set_cons_succ]
              refine wpAnyH_ready (rs := [11]) (by kernel_rfl) (by simp) ?_
              refine AllReadyH.cons rfl (fun K hK => ?_) AllReadyH.nil
              go_simp
              refine hK.out _ _ ?_ (fun hHeld => ?_)
              · exact reg_alloc hHeld (Nat.le_refl _) _
              clear hK K
              (try simp only [put_lit, List.set_cons_zero, List.set_cons_succ])
              refine reg_take 12 14 (v := ?_) rfl rfl (by kernel_rfl) (by kernel_rfl) (by kernel_rfl) (fun _ _ _ h => h) (Or.inl ⟨by rfl, ?_⟩) hHeld ?_
              rotate_left 1
              · intro wS hSw; go_simp <;> with_reducible rfl
              simp only [put_lit, List.set_cons_zero, List.set_cons_succ]
              refine wpAnyH_ready (rs := [13]) (by kernel_rfl) (by simp) ?_
              refine AllReadyH.cons rfl (fun K hK => ?_) AllReadyH.nil
              go_simp
              refine hK.out _ _ ?_ (fun hHeld => ?_)
              · first | exact reg_swap hHeld (by first | with_reducible assumption | exact Nat.le_refl _ | (simp; done) | (simp; omega) | omega) _ | exact ((hHeld.setCell (p := ⟨_, 0, none⟩) (by first | with_reducible assumption | exact Nat.le_refl _ | (simp; done) | (simp; omega) | omega) _).setCell (p := ⟨_, 1, none⟩) (by first | with_reducible assumption | exact Nat.le_refl _ | (simp; done) | (simp; omega) | omega) _).setCell (p := ⟨_, 2, none⟩) (by first | with_reducible assumption | exact Nat.le_refl _ | (simp; done) | (simp; omega) | omega) _
              clear hK K
              (try simp only [put_lit, List.set_cons_zero, List.set_cons_succ])
              refine reg_take 14 16 (v := ?_) rfl rfl (by kernel_rfl) (by kernel_rfl) (by kernel_rfl) (fun _ _ _ h => h) (Or.inl ⟨by rfl, ?_⟩) hHeld ?_
              rotate_left 1
              · intro wS hSw; go_simp <;> with_reducible rfl
              simp only [put_lit, List.set_cons_zero, List.set_cons_succ]
              refine wpAnyH_done (by kernel_rfl) ?_ _
              obtain ⟨X, eX⟩ := leafW hHeld
              have x0 : X.cell? ⟨wr3.heap.size, 0, none⟩ = some (.int .i64 g') := by rw [eX]; go_simp
              have x1 : X.cell? ⟨wr3.heap.size, 1, none⟩ = some (.int .i64 h') := by rw [eX]; go_simp
              have x2 : X.cell? ⟨wr3.heap.size, 2, none⟩ = some (.int .i64 k') := by rw [eX]; go_simp
              have SQ : ∃ lo hi, DvO X lo hi Aq E.length E ∧ w3.heap.size ≤ lo ∧ lo ≤ hi ∧ hi ≤ X.heap.size ∧ (wr3.heap.size < lo ∨ hi ≤ wr3.heap.size) := by rw [eX]; first | exact ⟨_, _, HTQ.out.keep (bel_1 _ _), hlo, hlh, by simp, Or.inr (Nat.le_refl _)⟩ | exact ⟨_, _, ((HTQ.out.setLow (a := ⟨wr3.heap.size, 0, none⟩) (by first | with_reducible assumption | exact Nat.le_refl _ | (simp; done) | (simp; omega) | omega) _).setLow (a := ⟨wr3.heap.size, 1, none⟩) (by first | with_reducible assumption | exact Nat.le_refl _ | (simp; done) | (simp; omega) | omega) _).setLow (a := ⟨wr3.heap.size, 2, none⟩) (by first | with_reducible assumption | exact Nat.le_refl _ | (simp; done) | (simp; omega) | omega) _, hlo, hlh, by simp [World.size_setCell], Or.inl (by first | with_reducible assumption | exact Nat.le_refl _ | (simp; done) | (simp; omega) | omega)⟩
              obtain ⟨lo, hi, S1, S2, S3', S4, S5'⟩ := SQ
              rw [← eX] at hHeld ⊢
              clear eX
              go_wp2_with fail
              go_meet
              exact ⟨wr3.heap.size, Aq, cq, lo, hi, rfl, rfl, rfl, (by first | with_reducible assumption | exact Nat.le_refl _ | (simp; done) | (simp; omega) | omega), x0, x1, x2, S1, S2, S3', S4, S5', hHeld⟩
            refine AllReadyH.cons rfl (fun K hK => ?_) AllReadyH.nil
            go_simp
            refine hK.out _ _ ?_ (fun hHeld => ?_)
            · exact reg_alloc hHeld (Nat.le_refl _) _
            clear hK K
            (try simp only [put_lit, List.set_cons_zero, List.set_cons_succ])
            refine wpAnyH_ready (rs := [6]) (by kernel_rfl) (by simp) ?_
            refine AllReadyH.cons rfl (fun K hK => ?_) AllReadyH.nil
            go_simp
            refine (iAppendPage _ _ _ ds _ _ _ _ _ _ _ _ _ _ ((SX.out.at hm).keep hHeld)).mono ?_
            rw [HE.out]
            simp only []
            have hlo := hHeld.size
            rintro e wr7 ⟨vq, rfl, hOq, hbr7⟩
            obtain ⟨Aq, cq, rfl, hTq⟩ := devout hOq
            have HTQ := Lib.hid hTq
            clear hOq hTq
            have hlh := hbr7.size
            have hnr7 : w3.heap.size ≤ wr7.heap.size := Nat.le_trans hHeld.size hbr7.size
            have hGar7 : ∀ o, wr7.cell? ⟨wr2.heap.size, o, none⟩ = (#[.int .i64 0, .int .i64 0, .int .i64 0] : Array Value)[o]? := fun o => ((bcell hbr7).1 _ o (by simp)).trans (by simp [go_sem])
            have hGar7f : ∀ o, wr7.frozen? ⟨wr2.heap.size, o, none⟩ = false := fun o => ((bcell hbr7).2 _ o (by simp)).trans (by simp [go_sem])
            have hGar7s : wr2.heap.size < wr7.heap.size := Nat.lt_of_lt_of_le (by simp) hbr7.size
            go_wp2_with fail
            refine hK.out _ _ ?_ (fun hHeld => ?_)
            · exact reg_call hHeld hbr7 (Nat.le_refl _)
            clear hK K
            (try simp only [put_lit, List.set_cons_zero, List.set_cons_succ])
            refine reg_take 7 42 (v := ?_) rfl rfl (by kernel_rfl) (by kernel_rfl) (by kernel_rfl) (fun _ _ _ h => h) (Or.inl ⟨by rfl, ?_⟩) hHeld ?_
            rotate_left 1
            · intro wS hSw; go_simp <;> with_reducible rfl
            simp only [put_lit, List.set_cons_zero, List.set_cons_succ]
            refine reg_take 8 50 (v := ?_) rfl rfl (by kernel_rfl) (by kernel_rfl) (by kernel_rfl) (fun _ _ _ h => h) (Or.inl ⟨by rfl, ?_⟩) hHeld ?_
            rotate_left 1
            · intro wS hSw; go_simp <;> with_reducible rfl
            simp only [put_lit, List.set_cons_zero, List.set_cons_succ]
            refine reg_take 9 51 (v := ?_) rfl rfl (by kernel_rfl) (by kernel_rfl) (by kernel_rfl) (fun _ _ _ h => h) (Or.inl ⟨by rfl, ?_⟩) hHeld ?_
            rotate_left 1
            · intro wS hSw; go_simp <;> with_reducible rfl
            simp only [put_lit, List.set_cons_zero, List.set_cons_succ]
            refine reg_take 10 52 (v := ?_) rfl rfl (by kernel_rfl) (by kernel_rfl) (by kernel_rfl) (fun _ _ _ h => h) (Or.inl ⟨by rfl, ?_⟩) hHeld ?_
            rotate_left 1
            · intro wS hSw; go_simp <;> with_reducible rfl
            simp only [put_lit, List.set_cons_zero, List.set_cons_succ]
            refine reg_take 12 14 (v := ?_) rfl rfl (by kernel_rfl) (by kernel_rfl) (by kernel_rfl) (fun _ _ _ h => h) (Or.inl ⟨by rfl, ?_⟩) hHeld ?_
            rotate_left 1
            · intro wS hSw; go_simp <;> with_reducible rfl
            simp only [put_lit, List.set_cons_zero, List.set_cons_succ]
            refine wpAnyH_ready (rs := [13]) (by kernel_rfl) (by simp) ?_
            refine AllReadyH.cons rfl (fun K hK => ?_) AllReadyH.nil
            go_simp
            refine hK.out _ _ ?_ (fun hHeld => ?_)
            · first | exact reg_swap hHeld (by first | with_reducible assumption | exact Nat.le_refl _ | (simp; done) | (simp; omega) | omega) _ | exact ((hHeld.setCell (p := ⟨_, 0, none⟩) (by first | with_reducible assumption | exact Nat.le_refl _ | (simp; done) | (simp; omega) | omega) _).setCell (p := ⟨_, 1, none⟩) (by first | with_reducible assumption | exact Nat.le_refl _ | (simp; done) | (simp; omega) | omega) _).setCell (p := ⟨_, 2, none⟩) (by first | with_reducible assumption | exact Nat.le_refl _ | (simp; done) | (simp; omega) | omega) _
            clear hK K
            (try simp only [put_lit, List.set_cons_zero, List.set_cons_succ])
            refine reg_take 14 16 (v := ?_) rfl rfl (by kernel_rfl) (by kernel_rfl) (by kernel_rfl) (fun _ _ _ h => h) (Or.inl ⟨by rfl, ?_⟩) hHeld ?_
            rotate_left 1
            · intro wS hSw; go_simp <;> with_reducible rfl
            simp only [put_lit, List.set_cons_zero, List.set_cons_succ]
            refine wpAnyH_done (by kernel_rfl) ?_ _
            obtain ⟨X, eX⟩ := leafW hHeld
            have x0 : X.cell? ⟨wr2.heap.size, 0, none⟩ = some (.int .i64 g') := by rw [eX]; go_simp
            have x1 : X.cell? ⟨wr2.heap.size, 1, none⟩ = some (.int .i64 h') := by rw [eX]; go_simp
            have x2 : X.cell? ⟨wr2.heap.size, 2, none⟩ = some (.int .i64 k') := by rw [eX]; go_simp
            have SQ : ∃ lo hi, DvO X lo hi Aq E.length E ∧ w3.heap.size ≤ lo ∧ lo ≤ hi ∧ hi ≤ X.heap.size ∧ (wr2.heap.size < lo ∨ hi ≤ wr2.heap.size) := by rw [eX]; first | exact ⟨_, _, HTQ.out.keep (bel_1 _ _), hlo, hlh, by simp, Or.inr (Nat.le_refl _)⟩ | exact ⟨_, _, ((HTQ.out.setLow (a := ⟨wr2.heap.size, 0, none⟩) (by first | with_reducible assumption | exact Nat.le_refl _ | (simp; done) | (simp; omega) | omega) _).setLow (a := ⟨wr2.heap.size, 1, none⟩) (by first | with_reducible assumption | exact Nat.le_refl _ | (simp; done) | (simp; omega) | omega) _).setLow (a := ⟨wr2.heap.size, 2, none⟩) (by first | with_reducible assumption | exact Nat.le_refl _ | (simp; done) | (simp; omega) | omega) _, hlo, hlh, by simp [World.size_setCell], Or.inl (by first | with_reducible assumption | exact Nat.le_refl _ | (simp; done) | (simp; omega) | omega)⟩
            obtain ⟨lo, hi, S1, S2, S3', S4, S5'⟩ := SQ
            rw [← eX] at hHeld ⊢
            clear eX
            go_wp2_with fail
            go_meet
            exact ⟨wr2.heap.size, Aq, cq, lo, hi, rfl, rfl, rfl, (by first | with_reducible assumption | exact Nat.le_refl _ | (simp; done) | (simp; omega) | omega), x0, x1, x2, S1, S2, S3', S4, S5', hHeld⟩
          refine AllReadyH.cons rfl (fun K hK => ?_) AllReadyH.nil
          go_simp
          refine hK.out _ _ ?_ (fun hHeld => ?_)
          · exact reg_alloc hHeld (Nat.le_refl _) _
          clear hK K
          (try simp only [put_lit, List.set_cons_zero, List.set_cons_succ])
          refine wpAnyH_ready (rs := [5]) (by kernel_rfl) (by simp) ?_
          refine AllReadyH.cons rfl (fun K hK => ?_) AllReadyH.nil
          go_simp
          refine (toPage_any _ _ _ _ _ _).mono ?_
          rintro e wr10 ⟨rfl, hbr10⟩
          have hnr10 : w3.heap.size ≤ wr10.heap.size := Nat.le_trans hHeld.size hbr10.size
          have hGar10 : ∀ o, wr10.cell? ⟨wr1.heap.size, o, none⟩ = (#[.int .i64 0, .int .i64 0, .int .i64 0] : Array Value)[o]? := fun o => ((bcell hbr10).1 _ o (by simp)).trans (by simp [go_sem])
          have hGar10f : ∀ o, wr10.frozen? ⟨wr1.heap.size, o, none⟩ = false := fun o => ((bcell hbr10).2 _ o (by simp)).trans (by simp [go_sem])
          have hGar10s : wr1.heap.size < wr10.heap.size := Nat.lt_of_lt_of_le (by simp) hbr10.size
          go_wp2_with fail
          refine hK.out _ _ ?_ (fun hHeld => ?_)
          · exact reg_call hHeld hbr10 (Nat.le_refl _)
          clear hK K
          (try simp only [put_lit, List.set_cons_zero, List.set_cons_succ])
          refine wpAnyH_ready (rs := [6]) (by kernel_rfl) (by simp) ?_
          refine AllReadyH.cons rfl (fun K hK => ?_) AllReadyH.nil
          go_simp
          refine (iAppendPage _ _ _ ds _ _ _ _ _ _ _ _ _ _ ((SX.out.at hm).keep hHeld)).mono ?_
          rw [HE.out]
          simp only []
          have hlo := hHeld.size
          rintro e wr11 ⟨vq, rfl, hOq, hbr11⟩
          obtain ⟨Aq, cq, rfl, hTq⟩ := devout hOq
          have HTQ := Lib.hid hTq
          clear hOq hTq
          have hlh := hbr11.size
          have hnr11 : w3.heap.size ≤ wr11.heap.size := Nat.le_trans hHeld.size hbr11.size
          have hGar11 : ∀ o, wr11.cell? ⟨wr1.heap.size, o, none⟩ = (#[.int .i64 0, .int .i64 0, .int .i64 0] : Array Value)[o]? := fun o => ((bcell hbr11).1 _ o hGar10s).trans (hGar10 o)
          have hGar11f : ∀ o, wr11.frozen? ⟨wr1.heap.size, o, none⟩ = false := fun o => ((bcell hbr11).2 _ o hGar10s).trans (hGar10f o)
          have hGar11s : wr1.heap.size < wr11.heap.size := Nat.lt_of_lt_of_le hGar10s hbr11.size
          go_wp2_with fail
          refine hK.out _ _ ?_ (fun hHeld => ?_)
          · exact reg_call hHeld hbr11 (Nat.le_refl _)
          clear hK K
          (try simp only [put_lit, List.set_cons_zero, List.set_cons_succ])
          refine reg_take 7 42 (v := ?_) rfl rfl (by kernel_rfl) (by kernel_rfl) (by kernel_rfl) (fun _ _ _ h => h) (Or.inl ⟨by rfl, ?_⟩) hHeld ?_
          rotate_left 1
          · intro wS hSw; go_simp <;> with_reducible rfl
          simp only [put_lit, List.set_cons_zero, List.set_cons_succ]
          refine reg_take 8 50 (v := ?_) rfl rfl (by kernel_rfl) (by kernel_rfl) (by kernel_rfl) (fun _ _ _ h => h) (Or.inl ⟨by rfl, ?_⟩) hHeld ?_
          rotate_left 1
          · intro wS hSw; go_simp <;> with_reducible rfl
          simp only [put_lit, List.set_cons_zero, List.set_cons_succ]
          refine reg_take 9 51 (v := ?_) rfl rfl (by kernel_rfl) (by kernel_rfl) (by kernel_rfl) (fun _ _ _ h => h) (Or.inl ⟨by rfl, ?_⟩) hHeld ?_
          rotate_left 1
          · intro wS hSw; go_simp <;> with_reducible rfl
          simp only [put_lit, List.set_cons_zero, List.set_cons_succ]
          refine reg_take 10 52 (v := ?_) rfl rfl (by kernel_rfl) (by kernel_rfl) (by kernel_rfl) (fun _ _ _ h => h) (Or.inl ⟨by rfl, ?_⟩) hHeld ?_
          rotate_left 1
          · intro wS hSw; go_simp <;> with_reducible rfl
          simp only [put_lit, List.set_cons_zero, List.set_cons_succ]
          refine reg_take 12 14 (v := ?_) rfl rfl (by kernel_rfl) (by kernel_rfl) (by kernel_rfl) (fun _ _ _ h => h) (Or.inl ⟨by rfl, ?_⟩) hHeld ?_
          rotate_left 1
          · intro wS hSw; go_simp <;> with_reducible rfl
          simp only [put_lit, List.set_cons_zero, List.set_cons_succ]
          refine wpAnyH_ready (rs := [13]) (by kernel_rfl) (by simp) ?_
          refine AllReadyH.cons rfl (fun K hK => ?_) AllReadyH.nil
          go_simp
          refine hK.out _ _ ?_ (fun hHeld => ?_)
          · first | exact reg_swap hHeld (by first | with_reducible assumption | exact Nat.le_refl _ | (simp; done) | (simp; omega) | omega) _ | exact ((hHeld.setCell (p := ⟨_, 0, none⟩) (by first | with_reducible assumption | exact Nat.le_refl _ | (simp; done) | (simp; omega) | omega) _).setCell (p := ⟨_, 1, none⟩) (by first | with_reducible assumption | exact Nat.le_refl _ | (simp; done) | (simp; omega) | omega) _).setCell (p := ⟨_, 2, none⟩) (by first | with_reducible assumption | exact Nat.le_refl _ | (simp; done) | (simp; omega) | omega) _
          clear hK K
          (try simp only [put_lit, List.set_cons_zero, List.set_cons_succ])
          refine reg_take 14 16 (v := ?_) rfl rfl (by kernel_rfl) (by kernel_rfl) (by kernel_rfl) (fun _ _ _ h => h) (Or.inl ⟨by rfl, ?_⟩) hHeld ?_
          rotate_left 1
          · intro wS hSw; go_simp <;> with_reducible rfl
          simp only [put_lit, List.set_cons_zero, List.set_cons_succ]
          refine wpAnyH_done (by kernel_rfl) ?_ _
          obtain ⟨X, eX⟩ := leafW hHeld
          have x0 : X.cell? ⟨wr1.heap.size, 0, none⟩ = some (.int .i64 g') := by rw [eX]; go_simp
          have x1 : X.cell? ⟨wr1.heap.size, 1, none⟩ = some (.int .i64 h') := by rw [eX]; go_simp
          have x2 : X.cell? ⟨wr1.heap.size, 2, none⟩ = some (.int .i64 k') := by rw [eX]; go_simp
          have SQ : ∃ lo hi, DvO X lo hi Aq E.length E ∧ w3.heap.size ≤ lo ∧ lo ≤ hi ∧ hi ≤ X.heap.size ∧ (wr1.heap.size < lo ∨ hi ≤ wr1.heap.size) := by rw [eX]; first | exact ⟨_, _, HTQ.out.keep (bel_1 _ _), hlo, hlh, by simp, Or.inr (Nat.le_refl _)⟩ | exact ⟨_, _, ((HTQ.out.setLow (a := ⟨wr1.heap.size, 0, none⟩) (by first | with_reducible assumption | exact Nat.le_refl _ | (simp; done) | (simp; omega) | omega) _).setLow (a := ⟨wr1.heap.size, 1, none⟩) (by first | with_reducible assumption | exact Nat.le_refl _ | (simp; done) | (simp; omega) | omega) _).setLow (a := ⟨wr1.heap.size, 2, none⟩) (by first | with_reducible assumption | exact Nat.le_refl _ | (simp; done) | (simp; omega) | omega) _, hlo, hlh, by simp [World.size_setCell], Or.inl (by first | with_reducible assumption | exact Nat.le_refl _ | (simp; done) | (simp; omega) | omega)⟩
          obtain ⟨lo, hi, S1, S2, S3', S4, S5'⟩ := SQ
          rw [← eX] at hHeld ⊢
          clear eX
          go_wp2_with fail
          go_meet
          exact ⟨wr1.heap.size, Aq, cq, lo, hi, rfl, rfl, rfl, (by first | with_reducible assumption | exact Nat.le_refl _ | (simp; done) | (simp; omega) | omega), x0, x1, x2, S1, S2, S3', S4, S5', hHeld⟩
        refine AllReadyH.cons rfl (fun K hK => ?_) AllReadyH.nil
        go_simp
        refine hK.out _ _ ?_ (fun hHeld => ?_)
        · exact reg_alloc hHeld (Nat.le_refl _) _
        clear hK K
        (try simp only [put_lit, List.set_cons_zero, List.set_cons_succ])
        refine wpAnyH_ready (rs := [2]) (by kernel_rfl) (by simp) ?_
        refine AllReadyH.cons rfl (fun K hK => ?_) AllReadyH.nil
        go_simp
        refine (toHeads_any _ _ _ _).mono ?_
        rintro e wr14 ⟨rfl, hbr14⟩
        have hnr14 : w3.heap.size ≤ wr14.heap.size := Nat.le_trans hHeld.size hbr14.size
        have hGar14 : ∀ o, wr14.cell? ⟨w3.heap.size, o, none⟩ = (#[.int .i64 0, .int .i64 0, .int .i64 0] : Array Value)[o]? := fun o => ((bcell hbr14).1 _ o (by simp)).trans (by simp [go_sem])
        have hGar14f : ∀ o, wr14.frozen? ⟨w3.heap.size, o, none⟩ = false := fun o => ((bcell hbr14).2 _ o (by simp)).trans (by simp [go_sem])
        have hGar14s : w3.heap.size < wr14.heap.size := Nat.lt_of_lt_of_le (by simp) hbr14.size
        go_wp2_with fail
        refine hK.out _ _ ?_ (fun hHeld => ?_)
        · exact reg_call hHeld hbr14 (Nat.le_refl _)
        clear hK K
        (try simp only [put_lit, List.set_cons_zero, List.set_cons_succ])
        refine wpAnyH_ready (rs := [5]) (by kernel_rfl) (by simp) ?_
        refine AllReadyH.cons rfl (fun K hK => ?_) AllReadyH.nil
        go_simp
        refine (toPage_any _ _ _ _ _ _).mono ?_
        rintro e wr15 ⟨rfl, hbr15⟩
        have hnr15 : w3.heap.size ≤ wr15.heap.size := Nat.le_trans hHeld.size hbr15.size
        have hGar15 : ∀ o, wr15.cell? ⟨w3.heap.size, o, none⟩ = (#[.int .i64 0, .int .i64 0, .int .i64 0] : Array Value)[o]? := fun o => ((bcell hbr15).1 _ o hGar14s).trans (hGar14 o)
        have hGar15f : ∀ o, wr15.frozen? ⟨w3.heap.size, o, none⟩ = false := fun o => ((bcell hbr15).2 _ o hGar14s).trans (hGar14f o)
        have hGar15s : w3.heap.size < wr15.heap.size := Nat.lt_of_lt_of_le hGar14s hbr15.size
        go_wp2_with fail
        refine hK.out _ _ ?_ (fun hHeld => ?_)
        · exact reg_call hHeld hbr15 (Nat.le_refl _)
        clear hK K
        (try simp only [put_lit, List.set_cons_zero, List.set_cons_succ])
        refine wpAnyH_ready (rs := [6]) (by kernel_rfl) (by simp) ?_
        refine AllReadyH.cons rfl (fun K hK => ?_) AllReadyH.nil
        go_simp
        refine (iAppendPage _ _ _ ds _ _ _ _ _ _ _ _ _ _ ((SX.out.at hm).keep hHeld)).mono ?_
        rw [HE.out]
        simp only []
        have hlo := hHeld.size
        rintro e wr16 ⟨vq, rfl, hOq, hbr16⟩
        obtain ⟨Aq, cq, rfl, hTq⟩ := devout hOq
        have HTQ := Lib.hid hTq
        clear hOq hTq
        have hlh := hbr16.size
        have hnr16 : w3.heap.size ≤ wr16.heap.size := Nat.le_trans hHeld.size hbr16.size
        have hGar16 : ∀ o, wr16.cell? ⟨w3.heap.size, o, none⟩ = (#[.int .i64 0, .int .i64 0, .int .i64 0] : Array Value)[o]? := fun o => ((bcell hbr16).1 _ o hGar15s).trans (hGar15 o)
        have hGar16f : ∀ o, wr16.frozen? ⟨w3.heap.size, o, none⟩ = false := fun o => ((bcell hbr16).2 _ o hGar15s).trans (hGar15f o)
        have hGar16s : w3.heap.size < wr16.heap.size := Nat.lt_of_lt_of_le hGar15s hbr16.size
        go_wp2_with fail
        refine hK.out _ _ ?_ (fun hHeld => ?_)
        · exact reg_call hHeld hbr16 (Nat.le_refl _)
        clear hK K
        (try simp only [put_lit, List.set_cons_zero, List.set_cons_succ])
        refine reg_take 7 42 (v := ?_) rfl rfl (by kernel_rfl) (by kernel_rfl) (by kernel_rfl) (fun _ _ _ h => h) (Or.inl ⟨by rfl, ?_⟩) hHeld ?_
        rotate_left 1
        · intro wS hSw; go_simp <;> with_reducible rfl
        simp only [put_lit, List.set_cons_zero, List.set_cons_succ]
        refine reg_take 8 50 (v := ?_) rfl rfl (by kernel_rfl) (by kernel_rfl) (by kernel_rfl) (fun _ _ _ h => h) (Or.inl ⟨by rfl, ?_⟩) hHeld ?_
        rotate_left 1
        · intro wS hSw; go_simp <;> with_reducible rfl
        simp only [put_lit, List.set_cons_zero, List.set_cons_succ]
        refine reg_take 9 51 (v := ?_) rfl rfl (by kernel_rfl) (by kernel_rfl) (by kernel_rfl) (fun _ _ _ h => h) (Or.inl ⟨by rfl, ?_⟩) hHeld ?_
        rotate_left 1
        · intro wS hSw; go_simp <;> with_reducible rfl
        simp only [put_lit, List.set_cons_zero, List.set_cons_succ]
        refine reg_take 10 52 (v := ?_) rfl rfl (by kernel_rfl) (by kernel_rfl) (by kernel_rfl) (fun _ _ _ h => h) (Or.inl ⟨by rfl, ?_⟩) hHeld ?_
        rotate_left 1
        · intro wS hSw; go_simp <;> with_reducible rfl
        simp only [put_lit, List.set_cons_zero, List.set_cons_succ]
        refine reg_take 12 14 (v := ?_) rfl rfl (by kernel_rfl) (by kernel_rfl) (by kernel_rfl) (fun _ _ _ h => h) (Or.inl ⟨by rfl, ?_⟩) hHeld ?_
        rotate_left 1
        · intro wS hSw; go_simp <;> with_reducible rfl
        simp only [put_lit, List.set_cons_zero, List.set_cons_succ]
        refine wpAnyH_ready (rs := [13]) (by kernel_rfl) (by simp) ?_
        refine AllReadyH.cons rfl (fun K hK => ?_) AllReadyH.nil
        go_simp
        refine hK.out _ _ ?_ (fun hHeld => ?_)
        · first | exact reg_swap hHeld (by first | with_reducible assumption | exact Nat.le_refl _ | (simp; done) | (simp; omega) | omega) _ | exact ((hHeld.setCell (p := ⟨_, 0, none⟩) (by first | with_reducible assumption | exact Nat.le_refl _ | (simp; done) | (simp; omega) | omega) _).setCell (p := ⟨_, 1, none⟩) (by first | with_reducible assumption | exact Nat.le_refl _ | (simp; done) | (simp; omega) | omega) _).setCell (p := ⟨_, 2, none⟩) (by first | with_reducible assumption | exact Nat.le_refl _ | (simp; done) | (simp; omega) | omega) _
        clear hK K
        (try simp only [put_lit, List.set_cons_zero, List.set_cons_succ])
        refine reg_take 14 16 (v := ?_) rfl rfl (by kernel_rfl) (by kernel_rfl) (by kernel_rfl) (fun _ _ _ h => h) (Or.inl ⟨by rfl, ?_⟩) hHeld ?_
        rotate_left 1
        · intro wS hSw; go_simp <;> with_reducible rfl
        simp only [put_lit, List.set_cons_zero, List.set_cons_succ]
        refine wpAnyH_done (by kernel_rfl) ?_ _
        obtain ⟨X, eX⟩ := leafW hHeld
        have x0 : X.cell? ⟨w3.heap.size, 0, none⟩ = some (.int .i64 g') := by rw [eX]; go_simp
        have x1 : X.cell? ⟨w3.heap.size, 1, none⟩ = some (.int .i64 h') := by rw [eX]; go_simp
        have x2 : X.cell? ⟨w3.heap.size, 2, none⟩ = some (.int .i64 k') := by rw [eX]; go_simp
        have SQ : ∃ lo hi, DvO X lo hi Aq E.length E ∧ w3.heap.size ≤ lo ∧ lo ≤ hi ∧ hi ≤ X.heap.size ∧ (w3.heap.size < lo ∨ hi ≤ w3.heap.size) := by rw [eX]; first | exact ⟨_, _, HTQ.out.keep (bel_1 _ _), hlo, hlh, by simp, Or.inr (Nat.le_refl _)⟩ | exact ⟨_, _, ((HTQ.out.setLow (a := ⟨w3.heap.size, 0, none⟩) (by first | with_reducible assumption | exact Nat.le_refl _ | (simp; done) | (simp; omega) | omega) _).setLow (a := ⟨w3.heap.size, 1, none⟩) (by first | with_reducible assumption | exact Nat.le_refl _ | (simp; done) | (simp; omega) | omega) _).setLow (a := ⟨w3.heap.size, 2, none⟩) (by first | with_reducible assumption | exact Nat.le_refl _ | (simp; done) | (simp; omega) | omega) _, hlo, hlh, by simp [World.size_setCell], Or.inl (by first | with_reducible assumption | exact Nat.le_refl _ | (simp; done) | (simp; omega) | omega)⟩
        obtain ⟨lo, hi, S1, S2, S3', S4, S5'⟩ := SQ
        rw [← eX] at hHeld ⊢
        clear eX
        go_wp2_with fail
        go_meet
        exact ⟨w3.heap.size, Aq, cq, lo, hi, rfl, rfl, rfl, (by first | with_reducible assumption | exact Nat.le_refl _ | (simp; done) | (simp; omega) | omega), x0, x1, x2, S1, S2, S3', S4, S5', hHeld⟩
      case rest =>
        obtain ⟨Ggg, Agg, cgg, logg, higg, rfl, rfl, rfl, hcb⟩ := hcut
        obtain ⟨w4, rfl⟩ : ∃ x, x = wc := ⟨_, rfl⟩
        obtain ⟨hGgg, gg0, gg1, gg2, hTgg, hl1gg, hl2gg, hl3gg, hl4gg, hbk⟩ := hcb
        have HV4 := Lib.hid hbk
        have HB4 := Lib.hid (bel_t HB3.out HV4.out)
        have hs4 : w3.heap.size ≤ w4.heap.size := HV4.out.size
        replace q0 := stays_below HV4.out _ _ _ q0
        replace q1 := stays_below HV4.out _ _ _ q1
        replace q2 := stays_below HV4.out _ _ _ q2
        replace p0 := stays_below HV4.out _ _ _ p0
        replace p1 := stays_below HV4.out _ _ _ p1
        replace p2 := stays_below HV4.out _ _ _ p2
        replace p3 := stays_below HV4.out _ _ _ p3
        replace p4 := stays_below HV4.out _ _ _ p4
        replace aa0 := stays_below HV4.out _ _ _ aa0
        replace aa1 := stays_below HV4.out _ _ _ aa1
        replace aa2 := stays_below HV4.out _ _ _ aa2
        replace S3 := Lib.hid (S3.out.keep HV4.out)
        replace SX := Lib.hid (SX.out.keep HV4.out)
        have zq_4 : w.heap.size < w4.heap.size := block_lt_of_cell q0
        have zp_4 : w.heap.size + 1 < w4.heap.size := block_lt_of_cell p0
        have zaa_4 : Gaa < w4.heap.size := block_lt_of_cell aa0
        clear hbk
        have S5 := Lib.hid hTgg
        clear hTgg
        have zgg_4 : Ggg < w4.heap.size := block_lt_of_cell gg0
        go_wp2_with fail
        refine (eqBlockS_refl _ _ _ _ _ E _ (S5.out.at hmE) (S3.out.at hmE)).mono ?_
        rintro e w5 ⟨rfl, hb5⟩
        have HV5 := Lib.hid hb5
        have HB5 := Lib.hid (bel_t HB4.out HV5.out)
        have hs5 : w4.heap.size ≤ w5.heap.size := HV5.out.size
        replace q0 := stays_below HV5.out _ _ _ q0
        replace q1 := stays_below HV5.out _ _ _ q1
        replace q2 := stays_below HV5.out _ _ _ q2
        replace p0 := stays_below HV5.out _ _ _ p0
        replace p1 := stays_below HV5.out _ _ _ p1
        replace p2 := stays_below HV5.out _ _ _ p2
        replace p3 := stays_below HV5.out _ _ _ p3
        replace p4 := stays_below HV5.out _ _ _ p4
        replace aa0 := stays_below HV5.out _ _ _ aa0
        replace aa1 := stays_below HV5.out _ _ _ aa1
        replace aa2 := stays_below HV5.out _ _ _ aa2
        replace gg0 := stays_below HV5.out _ _ _ gg0
        replace gg1 := stays_below HV5.out _ _ _ gg1
        replace gg2 := stays_below HV5.out _ _ _ gg2
        replace S3 := Lib.hid (S3.out.keep HV5.out)
        replace SX := Lib.hid (SX.out.keep HV5.out)
        replace S5 := Lib.hid (S5.out.keep HV5.out)
        have zq_5 : w.heap.size < w5.heap.size := block_lt_of_cell q0
        have zp_5 : w.heap.size + 1 < w5.heap.size := block_lt_of_cell p0
        have zaa_5 : Gaa < w5.heap.size := block_lt_of_cell aa0
        have zgg_5 : Ggg < w5.heap.size := block_lt_of_cell gg0
        clear hb5
        go_wp2_with fail
        refine (eqHeads_refl _ _ _ _).mono ?_
        rintro e w6 ⟨rfl, hb6⟩
        have HV6 := Lib.hid hb6
        have HB6 := Lib.hid (bel_t HB5.out HV6.out)
        have hs6 : w5.heap.size ≤ w6.heap.size := HV6.out.size
        replace q0 := stays_below HV6.out _ _ _ q0
        replace q1 := stays_below HV6.out _ _ _ q1
        replace q2 := stays_below HV6.out _ _ _ q2
        replace p0 := stays_below HV6.out _ _ _ p0
        replace p1 := stays_below HV6.out _ _ _ p1
        replace p2 := stays_below HV6.out _ _ _ p2
        replace p3 := stays_below HV6.out _ _ _ p3
        replace p4 := stays_below HV6.out _ _ _ p4
        replace aa0 := stays_below HV6.out _ _ _ aa0
        replace aa1 := stays_below HV6.out _ _ _ aa1
        replace aa2 := stays_below HV6.out _ _ _ aa2
        replace gg0 := stays_below HV6.out _ _ _ gg0
        replace gg1 := stays_below HV6.out _ _ _ gg1
        replace gg2 := stays_below HV6.out _ _ _ gg2
        replace S3 := Lib.hid (S3.out.keep HV6.out)
        replace SX := Lib.hid (SX.out.keep HV6.out)
        replace S5 := Lib.hid (S5.out.keep HV6.out)
        have zq_6 : w.heap.size < w6.heap.size := block_lt_of_cell q0
        have zp_6 : w.heap.size + 1 < w6.heap.size := block_lt_of_cell p0
        have zaa_6 : Gaa < w6.heap.size := block_lt_of_cell aa0
        have zgg_6 : Ggg < w6.heap.size := block_lt_of_cell gg0
        clear hb6
        go_wp2_with fail
        refine (toBlockS_any _ _ _ ds _ (HP.out.keep HB6.out) hn HS.out).mono ?_
        rintro e w7 ⟨g7, G7, rfl, hR7, hb7⟩
        have HV7 := Lib.hid hb7
        have HB7 := Lib.hid (bel_t HB6.out HV7.out)
        have hs7 : w6.heap.size ≤ w7.heap.size := HV7.out.size
        replace q0 := stays_below HV7.out _ _ _ q0
        replace q1 := stays_below HV7.out _ _ _ q1
        replace q2 := stays_below HV7.out _ _ _ q2
        replace p0 := stays_below HV7.out _ _ _ p0
        replace p1 := stays_below HV7.out _ _ _ p1
        replace p2 := stays_below HV7.out _ _ _ p2
        replace p3 := stays_below HV7.out _ _ _ p3
        replace p4 := stays_below HV7.out _ _ _ p4
        replace aa0 := stays_below HV7.out _ _ _ aa0
        replace aa1 := stays_below HV7.out _ _ _ aa1
        replace aa2 := stays_below HV7.out _ _ _ aa2
        replace gg0 := stays_below HV7.out _ _ _ gg0
        replace gg1 := stays_below HV7.out _ _ _ gg1
        replace gg2 := stays_below HV7.out _ _ _ gg2
        replace S3 := Lib.hid (S3.out.keep HV7.out)
        replace SX := Lib.hid (SX.out.keep HV7.out)
        replace S5 := Lib.hid (S5.out.keep HV7.out)
        have zq_7 : w.heap.size < w7.heap.size := block_lt_of_cell q0
        have zp_7 : w.heap.size + 1 < w7.heap.size := block_lt_of_cell p0
        have zaa_7 : Gaa < w7.heap.size := block_lt_of_cell aa0
        have zgg_7 : Ggg < w7.heap.size := block_lt_of_cell gg0
        clear hb7
        have SP := Lib.hid (dvrow_o hR7)
        clear hR7
        go_wp2_with fail
        refine (eqBlockS_refl _ _ _ _ _ ds _ (SX.out.at hm) (SP.out.at hm)).mono ?_
        rintro e w8 ⟨rfl, hb8⟩
        have HV8 := Lib.hid hb8
        have HB8 := Lib.hid (bel_t HB7.out HV8.out)
        have hs8 : w7.heap.size ≤ w8.heap.size := HV8.out.size
        replace q0 := stays_below HV8.out _ _ _ q0
        replace q1 := stays_below HV8.out _ _ _ q1
        replace q2 := stays_below HV8.out _ _ _ q2
        replace p0 := stays_below HV8.out _ _ _ p0
        replace p1 := stays_below HV8.out _ _ _ p1
        replace p2 := stays_below HV8.out _ _ _ p2
        replace p3 := stays_below HV8.out _ _ _ p3
        replace p4 := stays_below HV8.out _ _ _ p4
        replace aa0 := stays_below HV8.out _ _ _ aa0
        replace aa1 := stays_below HV8.out _ _ _ aa1
        replace aa2 := stays_below HV8.out _ _ _ aa2
        replace gg0 := stays_below HV8.out _ _ _ gg0
        replace gg1 := stays_below HV8.out _ _ _ gg1
        replace gg2 := stays_below HV8.out _ _ _ gg2
        replace S3 := Lib.hid (S3.out.keep HV8.out)
        replace SX := Lib.hid (SX.out.keep HV8.out)
        replace S5 := Lib.hid (S5.out.keep HV8.out)
        replace SP := Lib.hid (SP.out.keep HV8.out)
        have zq_8 : w.heap.size < w8.heap.size := block_lt_of_cell q0
        have zp_8 : w.heap.size + 1 < w8.heap.size := block_lt_of_cell p0
        have zaa_8 : Gaa < w8.heap.size := block_lt_of_cell aa0
        have zgg_8 : Ggg < w8.heap.size := block_lt_of_cell gg0
        clear hb8
        clear SP
        go_wp2_with fail
        refine (markO_any _ _ _ w2.heap.size w3.heap.size ds _ SX.out hn HS.out).mono ?_
        rintro e w9 ⟨rfl, hS9, hC9⟩
        have HB9 := Lib.hid (hC9.2.2.2 _ _ HB8.out (by omega))
        have hs9 : w9.heap.size = w8.heap.size := hC9.1
        replace q0 := (hC9.2.1 _ _ (by omega)).trans q0
        replace q1 := (hC9.2.1 _ _ (by omega)).trans q1
        replace q2 := (hC9.2.1 _ _ (by omega)).trans q2
        replace p0 := (hC9.2.1 _ _ (by omega)).trans p0
        replace p1 := (hC9.2.1 _ _ (by omega)).trans p1
        replace p2 := (hC9.2.1 _ _ (by omega)).trans p2
        replace p3 := (hC9.2.1 _ _ (by omega)).trans p3
        replace p4 := (hC9.2.1 _ _ (by omega)).trans p4
        replace aa0 := (hC9.2.1 _ _ (by omega)).trans aa0
        replace aa1 := (hC9.2.1 _ _ (by omega)).trans aa1
        replace aa2 := (hC9.2.1 _ _ (by omega)).trans aa2
        replace gg0 := (hC9.2.1 _ _ (by omega)).trans gg0
        replace gg1 := (hC9.2.1 _ _ (by omega)).trans gg1
        replace gg2 := (hC9.2.1 _ _ (by omega)).trans gg2
        replace S3 := Lib.hid (S3.out.chgI (by omega) hC9)
        replace S5 := Lib.hid (S5.out.chgI (by omega) hC9)
        replace SX := Lib.hid hS9
        clear hS9 hC9
        have zq_9 : w.heap.size < w9.heap.size := block_lt_of_cell q0
        have zp_9 : w.heap.size + 1 < w9.heap.size := block_lt_of_cell p0
        have zaa_9 : Gaa < w9.heap.size := block_lt_of_cell aa0
        have zgg_9 : Ggg < w9.heap.size := block_lt_of_cell gg0
        have hr0 : ¬ (yAt ds 1 n < 0) := by have := (yAt_b ds 1 n n HS.out (Nat.le_refl _)).1; omega
        clear SX
        go_wp2_with fail
        refine (eqBlockS_refl _ _ _ _ _ E _ (S5.out.at hmE) (S3.out.at hmE)).mono ?_
        rintro e w10 ⟨rfl, hb10⟩
        have HV10 := Lib.hid hb10
        have HB10 := Lib.hid (bel_t HB9.out HV10.out)
        have hs10 : w9.heap.size ≤ w10.heap.size := HV10.out.size
        replace q0 := stays_below HV10.out _ _ _ q0
        replace q1 := stays_below HV10.out _ _ _ q1
        replace q2 := stays_below HV10.out _ _ _ q2
        replace p0 := stays_below HV10.out _ _ _ p0
        replace p1 := stays_below HV10.out _ _ _ p1
        replace p2 := stays_below HV10.out _ _ _ p2
        replace p3 := stays_below HV10.out _ _ _ p3
        replace p4 := stays_below HV10.out _ _ _ p4
        replace aa0 := stays_below HV10.out _ _ _ aa0
        replace aa1 := stays_below HV10.out _ _ _ aa1
        replace aa2 := stays_below HV10.out _ _ _ aa2
        replace gg0 := stays_below HV10.out _ _ _ gg0
        replace gg1 := stays_below HV10.out _ _ _ gg1
        replace gg2 := stays_below HV10.out _ _ _ gg2
        replace S3 := Lib.hid (S3.out.keep HV10.out)
        replace S5 := Lib.hid (S5.out.keep HV10.out)
        have zq_10 : w.heap.size < w10.heap.size := block_lt_of_cell q0
        have zp_10 : w.heap.size + 1 < w10.heap.size := block_lt_of_cell p0
        have zaa_10 : Gaa < w10.heap.size := block_lt_of_cell aa0
        have zgg_10 : Ggg < w10.heap.size := block_lt_of_cell gg0
        clear hb10
        go_wp2_with fail
        refine (eqHeads_refl _ _ _ _).mono ?_
        rintro e w11 ⟨rfl, hb11⟩
        have HV11 := Lib.hid hb11
        have HB11 := Lib.hid (bel_t HB10.out HV11.out)
        have hs11 : w10.heap.size ≤ w11.heap.size := HV11.out.size
        replace q0 := stays_below HV11.out _ _ _ q0
        replace q1 := stays_below HV11.out _ _ _ q1
        replace q2 := stays_below HV11.out _ _ _ q2
        replace p0 := stays_below HV11.out _ _ _ p0
        replace p1 := stays_below HV11.out _ _ _ p1
        replace p2 := stays_below HV11.out _ _ _ p2
        replace p3 := stays_below HV11.out _ _ _ p3
        replace p4 := stays_below HV11.out _ _ _ p4
        replace aa0 := stays_below HV11.out _ _ _ aa0
        replace aa1 := stays_below HV11.out _ _ _ aa1
        replace aa2 := stays_below HV11.out _ _ _ aa2
        replace gg0 := stays_below HV11.out _ _ _ gg0
        replace gg1 := stays_below HV11.out _ _ _ gg1
        replace gg2 := stays_below HV11.out _ _ _ gg2
        replace S3 := Lib.hid (S3.out.keep HV11.out)
        replace S5 := Lib.hid (S5.out.keep HV11.out)
        have zq_11 : w.heap.size < w11.heap.size := block_lt_of_cell q0
        have zp_11 : w.heap.size + 1 < w11.heap.size := block_lt_of_cell p0
        have zaa_11 : Gaa < w11.heap.size := block_lt_of_cell aa0
        have zgg_11 : Ggg < w11.heap.size := block_lt_of_cell gg0
        clear hb11
        go_wp2_with fail
        refine (markO_any _ _ _ logg higg E _ S5.out hnE HSE.out).mono ?_
        rintro e w12 ⟨rfl, hS12, hC12⟩
        have HB12 := Lib.hid (hC12.2.2.2 _ _ HB11.out (by omega))
        have hs12 : w12.heap.size = w11.heap.size := hC12.1
        replace q0 := (hC12.2.1 _ _ (by omega)).trans q0
        replace q1 := (hC12.2.1 _ _ (by omega)).trans q1
        replace q2 := (hC12.2.1 _ _ (by omega)).trans q2
        replace p0 := (hC12.2.1 _ _ (by omega)).trans p0
        replace p1 := (hC12.2.1 _ _ (by omega)).trans p1
        replace p2 := (hC12.2.1 _ _ (by omega)).trans p2
        replace p3 := (hC12.2.1 _ _ (by omega)).trans p3
        replace p4 := (hC12.2.1 _ _ (by omega)).trans p4
        replace aa0 := (hC12.2.1 _ _ (by omega)).trans aa0
        replace aa1 := (hC12.2.1 _ _ (by omega)).trans aa1
        replace aa2 := (hC12.2.1 _ _ (by omega)).trans aa2
        replace gg0 := (hC12.2.1 _ _ (by omega)).trans gg0
        replace gg1 := (hC12.2.1 _ _ (by omega)).trans gg1
        replace gg2 := (hC12.2.1 _ _ (by omega)).trans gg2
        replace S3 := Lib.hid (S3.out.chgI (by omega) hC12)
        replace S5 := Lib.hid hS12
        clear hS12 hC12
        have zq_12 : w.heap.size < w12.heap.size := block_lt_of_cell q0
        have zp_12 : w.heap.size + 1 < w12.heap.size := block_lt_of_cell p0
        have zaa_12 : Gaa < w12.heap.size := block_lt_of_cell aa0
        have zgg_12 : Ggg < w12.heap.size := block_lt_of_cell gg0
        have hr1 : ¬ (yAt E 1 E.length < 0) := by have := (yAt_b E 1 E.length E.length HSE.out (Nat.le_refl _)).1; omega
        go_wp2_with fail
        refine (heldBlockS_any _ _ _ E _ (S5.out.at hmE) hnE HSE.out).mono ?_
        rintro e w13 ⟨rfl, hb13⟩
        have HV13 := Lib.hid hb13
        have HB13 := Lib.hid (bel_t HB12.out HV13.out)
        have hs13 : w12.heap.size ≤ w13.heap.size := HV13.out.size
        replace q0 := stays_below HV13.out _ _ _ q0
        replace q1 := stays_below HV13.out _ _ _ q1
        replace q2 := stays_below HV13.out _ _ _ q2
        replace p0 := stays_below HV13.out _ _ _ p0
        replace p1 := stays_below HV13.out _ _ _ p1
        replace p2 := stays_below HV13.out _ _ _ p2
        replace p3 := stays_below HV13.out _ _ _ p3
        replace p4 := stays_below HV13.out _ _ _ p4
        replace aa0 := stays_below HV13.out _ _ _ aa0
        replace aa1 := stays_below HV13.out _ _ _ aa1
        replace aa2 := stays_below HV13.out _ _ _ aa2
        replace gg0 := stays_below HV13.out _ _ _ gg0
        replace gg1 := stays_below HV13.out _ _ _ gg1
        replace gg2 := stays_below HV13.out _ _ _ gg2
        replace S3 := Lib.hid (S3.out.keep HV13.out)
        replace S5 := Lib.hid (S5.out.keep HV13.out)
        have zq_13 : w.heap.size < w13.heap.size := block_lt_of_cell q0
        have zp_13 : w.heap.size + 1 < w13.heap.size := block_lt_of_cell p0
        have zaa_13 : Gaa < w13.heap.size := block_lt_of_cell aa0
        have zgg_13 : Ggg < w13.heap.size := block_lt_of_cell gg0
        clear hb13
        go_upto_region 24 with fail
        go_cut [20, 21, 22] (fun xa xb xc wx => ∃ (G : Nat) (A' : Option Addr) (c' lo hi : Nat), xa = .slice A' E.length c' ∧ xb = .pointer (some ⟨G, 0, none⟩) ∧ xc = .int .i64 at_ ∧ CutD w13 wx G A' E g' h' k' lo hi)
        case first =>
          refine reg_begin (by kernel_rfl) (fun hHeld => ?_)
          refine reg_take 0 107 (v := ?_) rfl rfl (by kernel_rfl) (by kernel_rfl) (by kernel_rfl) (fun _ _ _ h => h) (Or.inl ⟨by rfl, ?_⟩) hHeld ?_
          rotate_left 1
          · intro wS hSw; go_simp <;> with_reducible rfl
          simp only [put_lit, List.set_cons_zero, List.set_cons_succ]
          refine reg_take 2 109 (v := ?_) rfl rfl (by kernel_rfl) (by kernel_rfl) (by kernel_rfl) (fun _ _ _ h => h) (Or.inl ⟨by rfl, ?_⟩) hHeld ?_
          rotate_left 1
          · intro wS hSw; have hqS := bcellB hSw; go_simp <;> with_reducible rfl
          simp only [put_lit, List.set_cons_zero, List.set_cons_succ]
          refine reg_take 4 111 (v := ?_) rfl rfl (by kernel_rfl) (by kernel_rfl) (by kernel_rfl) (fun _ _ _ h => h) (Or.inl ⟨by rfl, ?_⟩) hHeld ?_
          rotate_left 1
          · intro wS hSw; go_simp <;> with_reducible rfl
          simp only [put_lit, List.set_cons_zero, List.set_cons_succ]
          refine reg_take 5 112 (v := ?_) rfl rfl (by kernel_rfl) (by kernel_rfl) (by kernel_rfl) (fun _ _ _ h => h) (Or.inl ⟨by rfl, ?_⟩) hHeld ?_
          rotate_left 1
          · intro wS hSw; have hqS := bcellB hSw; go_simp <;> with_reducible rfl
          simp only [put_lit, List.set_cons_zero, List.set_cons_succ]
          refine wpAnyH_ready (rs := [1, 12]) (by kernel_rfl) (by simp) ?_
          refine AllReadyH.cons rfl (fun K hK => ?_) ?_
          · skip
            go_simp
            refine (toBlockS_any _ _ _ ds _ (HP.out.keep (bel_t HB13.out hHeld)) hn HS.out).mono ?_
            rintro e wr1 ⟨gq, Gq, rfl, hRq, hbr1⟩
            have HQ1 : Hid (DevAt wr1 (some ⟨gq, 0, none⟩) n ds) := Lib.hid (hRq.at hm)
            clear hRq
            have hnr1 : w13.heap.size ≤ wr1.heap.size := Nat.le_trans hHeld.size hbr1.size
            go_wp2_with fail
            refine hK.out _ _ ?_ (fun hHeld => ?_)
            · exact reg_call hHeld hbr1 (Nat.le_refl _)
            clear hK K
            (try simp only [put_lit, List.set_cons_zero, List.set_cons_succ])
            refine wpAnyH_ready (rs := [3, 12]) (by kernel_rfl) (by simp) ?_
            refine AllReadyH.cons rfl (fun K hK => ?_) ?_
            · skip
              go_simp
              refine (toHeads_any _ _ _ _).mono ?_
              rintro e wr2 ⟨rfl, hbr2⟩
              have HQ2 : Hid (DevAt wr2 (some ⟨gq, 0, none⟩) n ds) := Lib.hid (by first | exact HQ1.out.keep hbr2 | exact (HQ1.out.keep (bel_1 _ _)).keep hbr2)
              have hnr2 : w13.heap.size ≤ wr2.heap.size := Nat.le_trans hHeld.size hbr2.size
              go_wp2_with fail
              refine hK.out _ _ ?_ (fun hHeld => ?_)
              · exact reg_call hHeld hbr2 (Nat.le_refl _)
              clear hK K
              (try simp only [put_lit, List.set_cons_zero, List.set_cons_succ])
              refine wpAnyH_ready (rs := [6, 12]) (by kernel_rfl) (by simp) ?_
              refine AllReadyH.cons rfl (fun K hK => ?_) ?_
              · skip
                go_simp
                refine (toPage_any _ _ _ _ _ _).mono ?_
                rintro e wr3 ⟨rfl, hbr3⟩
                have HQ3 : Hid (DevAt wr3 (some ⟨gq, 0, none⟩) n ds) := Lib.hid (by first | exact HQ2.out.keep hbr3 | exact (HQ2.out.keep (bel_1 _ _)).keep hbr3)
                have hnr3 : w13.heap.size ≤ wr3.heap.size := Nat.le_trans hHeld.size hbr3.size
                go_wp2_with fail
                refine hK.out _ _ ?_ (fun hHeld => ?_)
                · exact reg_call hHeld hbr3 (Nat.le_refl _)
                clear hK K
                (try simp only [put_lit, List.set_cons_zero, List.set_cons_succ])
                refine wpAnyH_ready (rs := [7, 12]) (by kernel_rfl) (by simp) ?_
                refine AllReadyH.cons rfl (fun K hK => ?_) ?_
                · skip
                  go_simp
                  refine (iAppendPage _ _ _ ds _ _ _ _ _ _ _ _ _ _ (by first | exact HQ3.out | exact HQ3.out.keep (bel_1 _ _))).mono ?_
                  rw [HE.out]
                  simp only []
                  have hlo := hHeld.size
                  rintro e wr4 ⟨vq, rfl, hOq, hbr4⟩
                  obtain ⟨Aq, cq, rfl, hTq⟩ := devout hOq
                  have HTQ := Lib.hid hTq
                  clear hOq hTq
                  have hlh := hbr4.size
                  have hnr4 : w13.heap.size ≤ wr4.heap.size := Nat.le_trans hHeld.size hbr4.size
                  go_wp2_with fail
                  refine hK.out _ _ ?_ (fun hHeld => ?_)
                  · exact reg_call hHeld hbr4 (Nat.le_refl _)
                  clear hK K
                  (try simp only [put_lit, List.set_cons_zero, List.set_cons_succ])
                  refine reg_take 8 106 (v := ?_) rfl rfl (by kernel_rfl) (by kernel_rfl) (by kernel_rfl) (fun _ _ _ h => h) (Or.inl ⟨by rfl, ?_⟩) hHeld ?_
                  rotate_left 1
                  · intro wS hSw; go_simp <;> with_reducible rfl
                  simp only [put_lit, List.set_cons_zero, List.set_cons_succ]
                  refine reg_take 9 115 (v := ?_) rfl rfl (by kernel_rfl) (by kernel_rfl) (by kernel_rfl) (fun _ _ _ h => h) (Or.inl ⟨by rfl, ?_⟩) hHeld ?_
                  rotate_left 1
                  · intro wS hSw; go_simp <;> with_reducible rfl
                  simp only [put_lit, List.set_cons_zero, List.set_cons_succ]
                  refine reg_take 10 116 (v := ?_) rfl rfl (by kernel_rfl) (by kernel_rfl) (by kernel_rfl) (fun _ _ _ h => h) (Or.inl ⟨by rfl, ?_⟩) hHeld ?_
                  rotate_left 1
                  · intro wS hSw; go_simp <;> with_reducible rfl
                  simp only [put_lit, List.set_cons_zero, List.set_cons_succ]
                  refine reg_take 11 117 (v := ?_) rfl rfl (by kernel_rfl) (by kernel_rfl) (by kernel_rfl) (fun _ _ _ h => h) (Or.inl ⟨by rfl, ?_⟩) hHeld ?_
                  rotate_left 1
                  · intro wS hSw; go_simp <;> with_reducible rfl
                  simp only [put_lit, List.set_cons_zero, List.set_cons_succ]
                  refine wpAnyH_ready (rs := [12]) (by kernel_rfl) (by simp) ?_
                  refine AllReadyH.cons rfl (fun K hK => ?_) AllReadyH.nil
                  go_simp
                  refine hK.out _ _ ?_ (fun hHeld => ?_)
                  · exact reg_alloc hHeld (Nat.le_refl _) _
                  clear hK K
                  (try simp only [put_lit, List.set_cons_zero, List.set_cons_succ])
                  refine reg_take 13 20 (v := ?_) rfl rfl (by kernel_rfl) (by kernel_rfl) (by kernel_rfl) (fun _ _ _ h => h) (Or.inl ⟨by rfl, ?_⟩) hHeld ?_
                  rotate_left 1
                  · intro wS hSw; go_simp <;> with_reducible rfl
                  simp only [put_lit, List.set_cons_zero, List.set_cons_succ]
                  refine wpAnyH_ready (rs := [14]) (by kernel_rfl) (by simp) ?_
                  refine AllReadyH.cons rfl (fun K hK => ?_) AllReadyH.nil
                  go_simp
                  refine hK.out _ _ ?_ (fun hHeld => ?_)
                  · first | exact reg_swap hHeld (by first | with_reducible assumption | exact Nat.le_refl _ | (simp; done) | (simp; omega) | omega) _ | exact ((hHeld.setCell (p := ⟨_, 0, none⟩) (by first | with_reducible assumption | exact Nat.le_refl _ | (simp; done) | (simp; omega) | omega) _).setCell (p := ⟨_, 1, none⟩) (by first | with_reducible assumption | exact Nat.le_refl _ | (simp; done) | (simp; omega) | omega) _).setCell (p := ⟨_, 2, none⟩) (by first | with_reducible assumption | exact Nat.le_refl _ | (simp; done) | (simp; omega) | omega) _
                  clear hK K
                  (try simp only [put_lit, List.set_cons_zero, List.set_cons_succ])
                  refine reg_take 15 22 (v := ?_) rfl rfl (by kernel_rfl) (by kernel_rfl) (by kernel_rfl) (fun _ _ _ h => h) (Or.inl ⟨by rfl, ?_⟩) hHeld ?_
                  rotate_left 1
                  · intro wS hSw; go_simp <;> with_reducible rfl
                  simp only [put_lit, List.set_cons_zero, List.set_cons_succ]
                  refine wpAnyH_done (by kernel_rfl) ?_ _
                  obtain ⟨X, eX⟩ := leafW hHeld
                  have x0 : X.cell? ⟨wr4.heap.size, 0, none⟩ = some (.int .i64 g') := by rw [eX]; go_simp
                  have x1 : X.cell? ⟨wr4.heap.size, 1, none⟩ = some (.int .i64 h') := by rw [eX]; go_simp
                  have x2 : X.cell? ⟨wr4.heap.size, 2, none⟩ = some (.int .i64 k') := by rw [eX]; go_simp
                  have SQ : ∃ lo hi, DvO X lo hi Aq E.length E ∧ w13.heap.size ≤ lo ∧ lo ≤ hi ∧ hi ≤ X.heap.size ∧ (wr4.heap.size < lo ∨ hi ≤ wr4.heap.size) := by rw [eX]; first | exact ⟨_, _, HTQ.out.keep (bel_1 _ _), hlo, hlh, by simp, Or.inr (Nat.le_refl _)⟩ | exact ⟨_, _, ((HTQ.out.setLow (a := ⟨wr4.heap.size, 0, none⟩) (by first | with_reducible assumption | exact Nat.le_refl _ | (simp; done) | (simp; omega) | omega) _).setLow (a := ⟨wr4.heap.size, 1, none⟩) (by first | with_reducible assumption | exact Nat.le_refl _ | (simp; done) | (simp; omega) | omega) _).setLow (a := ⟨wr4.heap.size, 2, none⟩) (by first | with_reducible assumption | exact Nat.le_refl _ | (simp; done) | (simp; omega) | omega) _, hlo, hlh, by simp [World.size_setCell], Or.inl (by first | with_reducible assumption | exact Nat.le_refl _ | (simp; done) | (simp; omega) | omega)⟩
                  obtain ⟨lo, hi, S1, S2, S3', S4, S5'⟩ := SQ
                  rw [← eX] at hHeld ⊢
                  clear eX
                  go_wp2_with fail
                  go_meet
                  exact ⟨wr4.heap.size, Aq, cq, lo, hi, rfl, rfl, rfl, (by first | with_reducible assumption | exact Nat.le_refl _ | (simp; done) | (simp; omega) | omega), x0, x1, x2, S1, S2, S3', S4, S5', hHeld⟩
                refine AllReadyH.cons rfl (fun K hK => ?_) AllReadyH.nil
                go_simp
                refine hK.out _ _ ?_ (fun hHeld => ?_)
                · exact reg_alloc hHeld (Nat.le_refl _) _
                clear hK K
                (try simp only [put_lit, List.set_cons_zero, List.set_cons_succ])
                refine wpAnyH_ready (rs := [7]) (by kernel_rfl) (by simp) ?_
                refine AllReadyH.cons rfl (fun K hK => ?_) AllReadyH.nil
                go_simp
                refine (iAppendPage _ _ _ ds _ _ _ _ _ _ _ _ _ _ (by first | exact HQ3.out | exact HQ3.out.keep (bel_1 _ _))).mono ?_
                rw [HE.out]
                simp only []
                have hlo := hHeld.size
                rintro e wr8 ⟨vq, rfl, hOq, hbr8⟩
                obtain ⟨Aq, cq, rfl, hTq⟩ := devout hOq
                have HTQ := Lib.hid hTq
                clear hOq hTq
                have hlh := hbr8.size
                have hnr8 : w13.heap.size ≤ wr8.heap.size := Nat.le_trans hHeld.size hbr8.size
                have hGar8 : ∀ o, wr8.cell? ⟨wr3.heap.size, o, none⟩ = (#[.int .i64 0, .int .i64 0, .int .i64 0] : Array Value)[o]? := fun o => ((bcell hbr8).1 _ o (by simp)).trans (by simp [go_sem])
                have hGar8f : ∀ o, wr8.frozen? ⟨wr3.heap.size, o, none⟩ = false := fun o => ((bcell hbr8).2 _ o (by simp)).trans (by simp [go_sem])
                have hGar8s : wr3.heap.size < wr8.heap.size := Nat.lt_of_lt_of_le (by simp) hbr8.size
                go_wp2_with fail
                refine hK.out _ _ ?_ (fun hHeld => ?_)
                · exact reg_call hHeld hbr8 (Nat.le_refl _)
                clear hK K
                (try simp only [put_lit, List.set_cons_zero, List.set_cons_succ])
                refine reg_take 8 106 (v := ?_) rfl rfl (by kernel_rfl) (by kernel_rfl) (by kernel_rfl) (fun _ _ _ h => h) (Or.inl ⟨by rfl, ?_⟩) hHeld ?_
                rotate_left 1
                · intro wS hSw; go_simp <;> with_reducible rfl
                simp only [put_lit, List.set_cons_zero, List.set_cons_succ]
                refine reg_take 9 115 (v := ?_) rfl rfl (by kernel_rfl) (by kernel_rfl) (by kernel_rfl) (fun _ _ _ h => h) (Or.inl ⟨by rfl, ?_⟩) hHeld ?_
                rotate_left 1
                · intro wS hSw; go_simp <;> with_reducible rfl
                simp only [put_lit, List.set_cons_zero, List.set_cons_succ]
                refine reg_take 10 116 (v := ?_) rfl rfl (by kernel_rfl) (by kernel_rfl) (by kernel_rfl) (fun _ _ _ h => h) (Or.inl ⟨by rfl, ?_⟩) hHeld ?_
                rotate_left 1
                · intro wS hSw; go_simp <;> with_reducible rfl
                simp only [put_lit, List.set_cons_zero, List.set_cons_succ]
                refine reg_take 11 117 (v := ?_) rfl rfl (by kernel_rfl) (by kernel_rfl) (by kernel_rfl) (fun _ _ _ h => h) (Or.inl ⟨by rfl, ?_⟩) hHeld ?_
                rotate_left 1
                · intro wS hSw; go_simp <;> with_reducible rfl
                simp only [put_lit, List.set_cons_zero, List.set_cons_succ]
                refine reg_take 13 20 (v := ?_) rfl rfl (by kernel_rfl) (by kernel_rfl) (by kernel_rfl) (fun _ _ _ h => h) (Or.inl ⟨by rfl, ?_⟩) hHeld ?_
                rotate_left 1
                · intro wS hSw; go_simp <;> with_reducible rfl
                simp only [put_lit, List.set_cons_zero, List.set_cons_succ]
                refine wpAnyH_ready (rs := [14]) (by kernel_rfl) (by simp) ?_
                refine AllReadyH.cons rfl (fun K hK => ?_) AllReadyH.nil
                go_simp
                refine hK.out _ _ ?_ (fun hHeld => ?_)
                · first | exact reg_swap hHeld (by first | with_reducible assumption | exact Nat.le_refl _ | (simp; done) | (simp; omega) | omega) _ | exact ((hHeld.setCell (p := ⟨_, 0, none⟩) (by first | with_reducible assumption | exact Nat.le_refl _ | (simp; done) | (simp; omega) | omega) _).setCell (p := ⟨_, 1, none⟩) (by first | with_reducible assumption | exact Nat.le_refl _ | (simp; done) | (simp; omega) | omega) _).setCell (p := ⟨_, 2, none⟩) (by first | with_reducible assumption | exact Nat.le_refl _ | (simp; done) | (simp; omega) | omega) _
                clear hK K
                (try simp only [put_lit, List.set_cons_zero, List.set_cons_succ])
                refine reg_take 15 22 (v := ?_) rfl rfl (by kernel_rfl) (by kernel_rfl) (by kernel_rfl) (fun _ _ _ h => h) (Or.inl ⟨by rfl, ?_⟩) hHeld ?_
                rotate_left 1
                · intro wS hSw; go_simp <;> with_reducible rfl
                simp only [put_lit, List.set_cons_zero, List.set_cons_succ]
                refine wpAnyH_done (by kernel_rfl) ?_ _
                obtain ⟨X, eX⟩ := leafW hHeld
                have x0 : X.cell? ⟨wr3.heap.size, 0, none⟩ = some (.int .i64 g') := by rw [eX]; go_simp
                have x1 : X.cell? ⟨wr3.heap.size, 1, none⟩ = some (.int .i64 h') := by rw [eX]; go_simp
                have x2 : X.cell? ⟨wr3.heap.size, 2, none⟩ = some (.int .i64 k') := by rw [eX]; go_simp
                have SQ : ∃ lo hi, DvO X lo hi Aq E.length E ∧ w13.heap.size ≤ lo ∧ lo ≤ hi ∧ hi ≤ X.heap.size ∧ (wr3.heap.size < lo ∨ hi ≤ wr3.heap.size) := by rw [eX]; first | exact ⟨_, _, HTQ.out.keep (bel_1 _ _), hlo, hlh, by simp, Or.inr (Nat.le_refl _)⟩ | exact ⟨_, _, ((HTQ.out.setLow (a := ⟨wr3.heap.size, 0, none⟩) (by first | with_reducible assumption | exact Nat.le_refl _ | (simp; done) | (simp; omega) | omega) _).setLow (a := ⟨wr3.heap.size, 1, none⟩) (by first | with_reducible assumption | exact Nat.le_refl _ | (simp; done) | (simp; omega) | omega) _).setLow (a := ⟨wr3.heap.size, 2, none⟩) (by first | with_reducible assumption | exact Nat.le_refl _ | (simp; done) | (simp; omega) | omega) _, hlo, hlh, by simp [World.size_setCell], Or.inl (by first | with_reducible assumption | exact Nat.le_refl _ | (simp; done) | (simp; omega) | omega)⟩
                obtain ⟨lo, hi, S1, S2, S3', S4, S5'⟩ := SQ
                rw [← eX] at hHeld ⊢
                clear eX
                go_wp2_with fail
                go_meet
                exact ⟨wr3.heap.size, Aq, cq, lo, hi, rfl, rfl, rfl, (by first | with_reducible assumption | exact Nat.le_refl _ | (simp; done) | (simp; omega) | omega), x0, x1, x2, S1, S2, S3', S4, S5', hHeld⟩
              refine AllReadyH.cons rfl (fun K hK => ?_) AllReadyH.nil
              go_simp
              refine hK.out _ _ ?_ (fun hHeld => ?_)
              · exact reg_alloc hHeld (Nat.le_refl _) _
              clear hK K
              (try simp only [put_lit, List.set_cons_zero, List.set_cons_succ])
              refine wpAnyH_ready (rs := [6]) (by kernel_rfl) (by simp) ?_
              refine AllReadyH.cons rfl (fun K hK => ?_) AllReadyH.nil
              go_simp
              refine (toPage_any _ _ _ _ _ _).mono ?_
              rintro e wr11 ⟨rfl, hbr11⟩
              have HQ3 : Hid (DevAt wr11 (some ⟨gq, 0, none⟩) n ds) := Lib.hid (by first | exact HQ2.out.keep hbr11 | exact (HQ2.out.keep (bel_1 _ _)).keep hbr11)
              have hnr11 : w13.heap.size ≤ wr11.heap.size := Nat.le_trans hHeld.size hbr11.size
              have hGar11 : ∀ o, wr11.cell? ⟨wr2.heap.size, o, none⟩ = (#[.int .i64 0, .int .i64 0, .int .i64 0] : Array Value)[o]? := fun o => ((bcell hbr11).1 _ o (by simp)).trans (by simp [go_sem])
              have hGar11f : ∀ o, wr11.frozen? ⟨wr2.heap.size, o, none⟩ = false := fun o => ((bcell hbr11).2 _ o (by simp)).trans (by simp [go_sem])
              have hGar11s : wr2.heap.size < wr11.heap.size := Nat.lt_of_lt_of_le (by simp) hbr11.size
              go_wp2_with fail
              refine hK.out _ _ ?_ (fun hHeld => ?_)
              · exact reg_call hHeld hbr11 (Nat.le_refl _)
              clear hK K
              (try simp only [put_lit, List.set_cons_zero, List.set_cons_succ])
              refine wpAnyH_ready (rs := [7]) (by kernel_rfl) (by simp) ?_
              refine AllReadyH.cons rfl (fun K hK => ?_) AllReadyH.nil
              go_simp
              refine (iAppendPage _ _ _ ds _ _ _ _ _ _ _ _ _ _ (by first | exact HQ3.out | exact HQ3.out.keep (bel_1 _ _))).mono ?_
              rw [HE.out]
              simp only []
              have hlo := hHeld.size
              rintro e wr12 ⟨vq, rfl, hOq, hbr12⟩
              obtain ⟨Aq, cq, rfl, hTq⟩ := devout hOq
              have HTQ := Lib.hid hTq
              clear hOq hTq
              have hlh := hbr12.size
              have hnr12 : w13.heap.size ≤ wr12.heap.size := Nat.le_trans hHeld.size hbr12.size
              have hGar12 : ∀ o, wr12.cell? ⟨wr2.heap.size, o, none⟩ = (#[.int .i64 0, .int .i64 0, .int .i64 0] : Array Value)[o]? := fun o => ((bcell hbr12).1 _ o hGar11s).trans (hGar11 o)
              have hGar12f : ∀ o, wr12.frozen? ⟨wr2.heap.size, o, none⟩ = false := fun o => ((bcell hbr12).2 _ o hGar11s).trans (hGar11f o)
              have hGar12s : wr2.heap.size < wr12.heap.size := Nat.lt_of_lt_of_le hGar11s hbr12.size
              go_wp2_with fail
              refine hK.out _ _ ?_ (fun hHeld => ?_)
              · exact reg_call hHeld hbr12 (Nat.le_refl _)
              clear hK K
              (try simp only [put_lit, List.set_cons_zero, List.set_cons_succ])
              refine reg_take 8 106 (v := ?_) rfl rfl (by kernel_rfl) (by kernel_rfl) (by kernel_rfl) (fun _ _ _ h => h) (Or.inl ⟨by rfl, ?_⟩) hHeld ?_
              rotate_left 1
              · intro wS hSw; go_simp <;> with_reducible rfl
              simp only [put_lit, List.set_cons_zero, List.set_cons_succ]
              refine reg_take 9 115 (v := ?_) rfl rfl (by kernel_rfl) (by kernel_rfl) (by kernel_rfl) (fun _ _ _ h => h) (Or.inl ⟨by rfl, ?_⟩) hHeld ?_
              rotate_left 1
              · intro wS hSw; go_simp <;> with_reducible rfl
              simp only [put_lit, List.set_cons_zero, List.set_cons_succ]
              refine reg_take 10 116 (v := ?_) rfl rfl (by kernel_rfl) (by kernel_rfl) (by kernel_rfl) (fun _ _ _ h => h) (Or.inl ⟨by rfl, ?_⟩) hHeld ?_
              rotate_left 1
              · intro wS hSw; go_simp <;> with_reducible rfl
              simp only [put_lit, List.set_cons_zero, List.set_cons_succ]
              refine reg_take 11 117 (v := ?_) rfl rfl (by kernel_rfl) (by kernel_rfl) (by kernel_rfl) (fun _ _ _ h => h) (Or.inl ⟨by rfl, ?_⟩) hHeld ?_
              rotate_left 1
              · intro wS hSw; go_simp <;> with_reducible rfl
              simp only [put_lit, List.set_cons_zero, List.set_cons_succ]
              refine reg_take 13 20 (v := ?_) rfl rfl (by kernel_rfl) (by kernel_rfl) (by kernel_rfl) (fun _ _ _ h => h) (Or.inl ⟨by rfl, ?_⟩) hHeld ?_
              rotate_left 1
              · intro wS hSw; go_simp <;> with_reducible rfl
              simp only [put_lit, List.set_cons_zero, List.set_cons_succ]
              refine wpAnyH_ready (rs := [14]) (by kernel_rfl) (by simp) ?_
              refine AllReadyH.cons rfl (fun K hK => ?_) AllReadyH.nil
              go_simp
              refine hK.out _ _ ?_ (fun hHeld => ?_)
              · first | exact reg_swap hHeld (by first | with_reducible assumption | exact Nat.le_refl _ | (simp; done) | (simp; omega) | omega) _ | exact ((hHeld.setCell (p := ⟨_, 0, none⟩) (by first | with_reducible assumption | exact Nat.le_refl _ | (simp; done) | (simp; omega) | omega) _).setCell (p := ⟨_, 1, none⟩) (by first | with_reducible assumption | exact Nat.le_refl _ | (simp; done) | (simp; omega) | omega) _).setCell (p := ⟨_, 2, none⟩) (by first | with_reducible assumption | exact Nat.le_refl _ | (simp; done) | (simp; omega) | omega) _
              clear hK K
              (try simp only [put_lit, List.set_cons_zero, List.set_cons_succ])
              refine reg_take 15 22 (v := ?_) rfl rfl (by kernel_rfl) (by kernel_rfl) (by kernel_rfl) (fun _ _ _ h => h) (Or.inl ⟨by rfl, ?_⟩) hHeld ?_
              rotate_left 1
              · intro wS hSw; go_simp <;> with_reducible rfl
              simp only [put_lit, List.set_cons_zero, List.set_cons_succ]
              refine wpAnyH_done (by kernel_rfl) ?_ _
              obtain ⟨X, eX⟩ := leafW hHeld
              have x0 : X.cell? ⟨wr2.heap.size, 0, none⟩ = some (.int .i64 g') := by rw [eX]; go_simp
              have x1 : X.cell? ⟨wr2.heap.size, 1, none⟩ = some (.int .i64 h') := by rw [eX]; go_simp
              have x2 : X.cell? ⟨wr2.heap.size, 2, none⟩ = some (.int .i64 k') := by rw [eX]; go_simp
              have SQ : ∃ lo hi, DvO X lo hi Aq E.length E ∧ w13.heap.size ≤ lo ∧ lo ≤ hi ∧ hi ≤ X.heap.size ∧ (wr2.heap.size < lo ∨ hi ≤ wr2.heap.size) := by rw [eX]; first | exact ⟨_, _, HTQ.out.keep (bel_1 _ _), hlo, hlh, by simp, Or.inr (Nat.le_refl _)⟩ | exact ⟨_, _, ((HTQ.out.setLow (a := ⟨wr2.heap.size, 0, none⟩) (by first | with_reducible assumption | exact Nat.le_refl _ | (simp; done) | (simp; omega) | omega) _).setLow (a := ⟨wr2.heap.size, 1, none⟩) (by first | with_reducible assumption | exact Nat.le_refl _ | (simp; done) | (simp; omega) | omega) _).setLow (a := ⟨wr2.heap.size, 2, none⟩) (by first | with_reducible assumption | exact Nat.le_refl _ | (simp; done) | (simp; omega) | omega) _, hlo, hlh, by simp [World.size_setCell], Or.inl (by first | with_reducible assumption | exact Nat.le_refl _ | (simp; done) | (simp; omega) | omega)⟩
              obtain ⟨lo, hi, S1, S2, S3', S4, S5'⟩ := SQ
              rw [← eX] at hHeld ⊢
              clear eX
              go_wp2_with fail
              go_meet
              exact ⟨wr2.heap.size, Aq, cq, lo, hi, rfl, rfl, rfl, (by first | with_reducible assumption | exact Nat.le_refl _ | (simp; done) | (simp; omega) | omega), x0, x1, x2, S1, S2, S3', S4, S5', hHeld⟩
            refine AllReadyH.cons rfl (fun K hK => ?_) AllReadyH.nil
            go_simp
            refine hK.out _ _ ?_ (fun hHeld => ?_)
            · exact reg_alloc hHeld (Nat.le_refl _) _
            clear hK K
            (try simp only [put_lit, List.set_cons_zero, List.set_cons_succ])
            refine wpAnyH_ready (rs := [3]) (by kernel_rfl) (by simp) ?_
            refine AllReadyH.cons rfl (fun K hK => ?_) AllReadyH.nil
            go_simp
            refine (toHeads_any _ _ _ _).mono ?_
            rintro e wr15 ⟨rfl, hbr15⟩
            have HQ2 : Hid (DevAt wr15 (some ⟨gq, 0, none⟩) n ds) := Lib.hid (by first | exact HQ1.out.keep hbr15 | exact (HQ1.out.keep (bel_1 _ _)).keep hbr15)
            have hnr15 : w13.heap.size ≤ wr15.heap.size := Nat.le_trans hHeld.size hbr15.size
            have hGar15 : ∀ o, wr15.cell? ⟨wr1.heap.size, o, none⟩ = (#[.int .i64 0, .int .i64 0, .int .i64 0] : Array Value)[o]? := fun o => ((bcell hbr15).1 _ o (by simp)).trans (by simp [go_sem])
            have hGar15f : ∀ o, wr15.frozen? ⟨wr1.heap.size, o, none⟩ = false := fun o => ((bcell hbr15).2 _ o (by simp)).trans (by simp [go_sem])
            have hGar15s : wr1.heap.size < wr15.heap.size := Nat.lt_of_lt_of_le (by simp) hbr15.size
            go_wp2_with fail
            refine hK.out _ _ ?_ (fun hHeld => ?_)
            · exact reg_call hHeld hbr15 (Nat.le_refl _)
            clear hK K
            (try simp only [put_lit, List.set_cons_zero, List.set_cons_succ])
            refine wpAnyH_ready (rs := [6]) (by kernel_rfl) (by simp) ?_
            refine AllReadyH.cons rfl (fun K hK => ?_) AllReadyH.nil
            go_simp
            refine (toPage_any _ _ _ _ _ _).mono ?_
            rintro e wr16 ⟨rfl, hbr16⟩
            have HQ3 : Hid (DevAt wr16 (some ⟨gq, 0, none⟩) n ds) := Lib.hid (by first | exact HQ2.out.keep hbr16 | exact (HQ2.out.keep (bel_1 _ _)).keep hbr16)
            have hnr16 : w13.heap.size ≤ wr16.heap.size := Nat.le_trans hHeld.size hbr16.size
            have hGar16 : ∀ o, wr16.cell? ⟨wr1.heap.size, o, none⟩ = (#[.int .i64 0, .int .i64 0, .int .i64 0] : Array Value)[o]? := fun o => ((bcell hbr16).1 _ o hGar15s).trans (hGar15 o)
            have hGar16f : ∀ o, wr16.frozen? ⟨wr1.heap.size, o, none⟩ = false := fun o => ((bcell hbr16).2 _ o hGar15s).trans (hGar15f o)
            have hGar16s : wr1.heap.size < wr16.heap.size := Nat.lt_of_lt_of_le hGar15s hbr16.size
            go_wp2_with fail
            refine hK.out _ _ ?_ (fun hHeld => ?_)
            · exact reg_call hHeld hbr16 (Nat.le_refl _)
            clear hK K
            (try simp only [put_lit, List.set_cons_zero, List.set_cons_succ])
            refine wpAnyH_ready (rs := [7]) (by kernel_rfl) (by simp) ?_
            refine AllReadyH.cons rfl (fun K hK => ?_) AllReadyH.nil
            go_simp
            refine (iAppendPage _ _ _ ds _ _ _ _ _ _ _ _ _ _ (by first | exact HQ3.out | exact HQ3.out.keep (bel_1 _ _))).mono ?_
            rw [HE.out]
            simp only []
            have hlo := hHeld.size
            rintro e wr17 ⟨vq, rfl, hOq, hbr17⟩
            obtain ⟨Aq, cq, rfl, hTq⟩ := devout hOq
            have HTQ := Lib.hid hTq
            clear hOq hTq
            have hlh := hbr17.size
            have hnr17 : w13.heap.size ≤ wr17.heap.size := Nat.le_trans hHeld.size hbr17.size
            have hGar17 : ∀ o, wr17.cell? ⟨wr1.heap.size, o, none⟩ = (#[.int .i64 0, .int .i64 0, .int .i64 0] : Array Value)[o]? := fun o => ((bcell hbr17).1 _ o hGar16s).trans (hGar16 o)
            have hGar17f : ∀ o, wr17.frozen? ⟨wr1.heap.size, o, none⟩ = false := fun o => ((bcell hbr17).2 _ o hGar16s).trans (hGar16f o)
            have hGar17s : wr1.heap.size < wr17.heap.size := Nat.lt_of_lt_of_le hGar16s hbr17.size
            go_wp2_with fail
            refine hK.out _ _ ?_ (fun hHeld => ?_)
            · exact reg_call hHeld hbr17 (Nat.le_refl _)
            clear hK K
            (try simp only [put_lit, List.set_cons_zero, List.set_cons_succ])
            refine reg_take 8 106 (v := ?_) rfl rfl (by kernel_rfl) (by kernel_rfl) (by kernel_rfl) (fun _ _ _ h => h) (Or.inl ⟨by rfl, ?_⟩) hHeld ?_
            rotate_left 1
            · intro wS hSw; go_simp <;> with_reducible rfl
            simp only [put_lit, List.set_cons_zero, List.set_cons_succ]
            refine reg_take 9 115 (v := ?_) rfl rfl (by kernel_rfl) (by kernel_rfl) (by kernel_rfl) (fun _ _ _ h => h) (Or.inl ⟨by rfl, ?_⟩) hHeld ?_
            rotate_left 1
            · intro wS hSw; go_simp <;> with_reducible rfl
            simp only [put_lit, List.set_cons_zero, List.set_cons_succ]
            refine reg_take 10 116 (v := ?_) rfl rfl (by kernel_rfl) (by kernel_rfl) (by kernel_rfl) (fun _ _ _ h => h) (Or.inl ⟨by rfl, ?_⟩) hHeld ?_
            rotate_left 1
            · intro wS hSw; go_simp <;> with_reducible rfl
            simp only [put_lit, List.set_cons_zero, List.set_cons_succ]
            refine reg_take 11 117 (v := ?_) rfl rfl (by kernel_rfl) (by kernel_rfl) (by kernel_rfl) (fun _ _ _ h => h) (Or.inl ⟨by rfl, ?_⟩) hHeld ?_
            rotate_left 1
            · intro wS hSw; go_simp <;> with_reducible rfl
            simp only [put_lit, List.set_cons_zero, List.set_cons_succ]
            refine reg_take 13 20 (v := ?_) rfl rfl (by kernel_rfl) (by kernel_rfl) (by kernel_rfl) (fun _ _ _ h => h) (Or.inl ⟨by rfl, ?_⟩) hHeld ?_
            rotate_left 1
            · intro wS hSw; go_simp <;> with_reducible rfl
            simp only [put_lit, List.set_cons_zero, List.set_cons_succ]
            refine wpAnyH_ready (rs := [14]) (by kernel_rfl) (by simp) ?_
            refine AllReadyH.cons rfl (fun K hK => ?_) AllReadyH.nil
            go_simp
            refine hK.out _ _ ?_ (fun hHeld => ?_)
            · first | exact reg_swap hHeld (by first | with_reducible assumption | exact Nat.le_refl _ | (simp; done) | (simp; omega) | omega) _ | exact ((hHeld.setCell (p := ⟨_, 0, none⟩) (by first | with_reducible assumption | exact Nat.le_refl _ | (simp; done) | (simp; omega) | omega) _).setCell (p := ⟨_, 1, none⟩) (by first | with_reducible assumption | exact Nat.le_refl _ | (simp; done) | (simp; omega) | omega) _).setCell (p := ⟨_, 2, none⟩) (by first | with_reducible assumption | exact Nat.le_refl _ | (simp; done) | (simp; omega) | omega) _
            clear hK K
            (try simp only [put_lit, List.set_cons_zero, List.set_cons_succ])
            refine reg_take 15 22 (v := ?_) rfl rfl (by kernel_rfl) (by kernel_rfl) (by kernel_rfl) (fun _ _ _ h => h) (Or.inl ⟨by rfl, ?_⟩) hHeld ?_
            rotate_left 1
            · intro wS hSw; go_simp <;> with_reducible rfl
            simp only [put_lit, List.set_cons_zero, List.set_cons_succ]
            refine wpAnyH_done (by kernel_rfl) ?_ _
            obtain ⟨X, eX⟩ := leafW hHeld
            have x0 : X.cell? ⟨wr1.heap.size, 0, none⟩ = some (.int .i64 g') := by rw [eX]; go_simp
            have x1 : X.cell? ⟨wr1.heap.size, 1, none⟩ = some (.int .i64 h') := by rw [eX]; go_simp
            have x2 : X.cell? ⟨wr1.heap.size, 2, none⟩ = some (.int .i64 k') := by rw [eX]; go_simp
            have SQ : ∃ lo hi, DvO X lo hi Aq E.length E ∧ w13.heap.size ≤ lo ∧ lo ≤ hi ∧ hi ≤ X.heap.size ∧ (wr1.heap.size < lo ∨ hi ≤ wr1.heap.size) := by rw [eX]; first | exact ⟨_, _, HTQ.out.keep (bel_1 _ _), hlo, hlh, by simp, Or.inr (Nat.le_refl _)⟩ | exact ⟨_, _, ((HTQ.out.setLow (a := ⟨wr1.heap.size, 0, none⟩) (by first | with_reducible assumption | exact Nat.le_refl _ | (simp; done) | (simp; omega) | omega) _).setLow (a := ⟨wr1.heap.size, 1, none⟩) (by first | with_reducible assumption | exact Nat.le_refl _ | (simp; done) | (simp; omega) | omega) _).setLow (a := ⟨wr1.heap.size, 2, none⟩) (by first | with_reducible assumption | exact Nat.le_refl _ | (simp; done) | (simp; omega) | omega) _, hlo, hlh, by simp [World.size_setCell], Or.inl (by first | with_reducible assumption | exact Nat.le_refl _ | (simp; done) | (simp; omega) | omega)⟩
            obtain ⟨lo, hi, S1, S2, S3', S4, S5'⟩ := SQ
            rw [← eX] at hHeld ⊢
            clear eX
            go_wp2_with fail
            go_meet
            exact ⟨wr1.heap.size, Aq, cq, lo, hi, rfl, rfl, rfl, (by first | with_reducible assumption | exact Nat.le_refl _ | (simp; done) | (simp; omega) | omega), x0, x1, x2, S1, S2, S3', S4, S5', hHeld⟩
          refine AllReadyH.cons rfl (fun K hK => ?_) AllReadyH.nil
          go_simp
          refine hK.out _ _ ?_ (fun hHeld => ?_)
          · exact reg_alloc hHeld (Nat.le_refl _) _
          clear hK K
          (try simp only [put_lit, List.set_cons_zero, List.set_cons_succ])
          refine wpAnyH_ready (rs := [1]) (by kernel_rfl) (by simp) ?_
          refine AllReadyH.cons rfl (fun K hK => ?_) AllReadyH.nil
          go_simp
          refine (toBlockS_any _ _ _ ds _ (HP.out.keep (bel_t HB13.out hHeld)) hn HS.out).mono ?_
          rintro e wr20 ⟨gq, Gq, rfl, hRq, hbr20⟩
          have HQ1 : Hid (DevAt wr20 (some ⟨gq, 0, none⟩) n ds) := Lib.hid (hRq.at hm)
          clear hRq
          have hnr20 : w13.heap.size ≤ wr20.heap.size := Nat.le_trans hHeld.size hbr20.size
          have hGar20 : ∀ o, wr20.cell? ⟨w13.heap.size, o, none⟩ = (#[.int .i64 0, .int .i64 0, .int .i64 0] : Array Value)[o]? := fun o => ((bcell hbr20).1 _ o (by simp)).trans (by simp [go_sem])
          have hGar20f : ∀ o, wr20.frozen? ⟨w13.heap.size, o, none⟩ = false := fun o => ((bcell hbr20).2 _ o (by simp)).trans (by simp [go_sem])
          have hGar20s : w13.heap.size < wr20.heap.size := Nat.lt_of_lt_of_le (by simp) hbr20.size
          go_wp2_with fail
          refine hK.out _ _ ?_ (fun hHeld => ?_)
          · exact reg_call hHeld hbr20 (Nat.le_refl _)
          clear hK K
          (try simp only [put_lit, List.set_cons_zero, List.set_cons_succ])
          refine wpAnyH_ready (rs := [3]) (by kernel_rfl) (by simp) ?_
          refine AllReadyH.cons rfl (fun K hK => ?_) AllReadyH.nil
          go_simp
          refine (toHeads_any _ _ _ _).mono ?_
          rintro e wr21 ⟨rfl, hbr21⟩
          have HQ2 : Hid (DevAt wr21 (some ⟨gq, 0, none⟩) n ds) := Lib.hid (by first | exact HQ1.out.keep hbr21 | exact (HQ1.out.keep (bel_1 _ _)).keep hbr21)
          have hnr21 : w13.heap.size ≤ wr21.heap.size := Nat.le_trans hHeld.size hbr21.size
          have hGar21 : ∀ o, wr21.cell? ⟨w13.heap.size, o, none⟩ = (#[.int .i64 0, .int .i64 0, .int .i64 0] : Array Value)[o]? := fun o => ((bcell hbr21).1 _ o hGar20s).trans (hGar20 o)
          have hGar21f : ∀ o, wr21.frozen? ⟨w13.heap.size, o, none⟩ = false := fun o => ((bcell hbr21).2 _ o hGar20s).trans (hGar20f o)
          have hGar21s : w13.heap.size < wr21.heap.size := Nat.lt_of_lt_of_le hGar20s hbr21.size
          go_wp2_with fail
          refine hK.out _ _ ?_ (fun hHeld => ?_)
          · exact reg_call hHeld hbr21 (Nat.le_refl _)
          clear hK K
          (try simp only [put_lit, List.set_cons_zero, List.set_cons_succ])
          refine wpAnyH_ready (rs := [6]) (by kernel_rfl) (by simp) ?_
          refine AllReadyH.cons rfl (fun K hK => ?_) AllReadyH.nil
          go_simp
          refine (toPage_any _ _ _ _ _ _).mono ?_
          rintro e wr22 ⟨rfl, hbr22⟩
          have HQ3 : Hid (DevAt wr22 (some ⟨gq, 0, none⟩) n ds) := Lib.hid (by first | exact HQ2.out.keep hbr22 | exact (HQ2.out.keep (bel_1 _ _)).keep hbr22)
          have hnr22 : w13.heap.size ≤ wr22.heap.size := Nat.le_trans hHeld.size hbr22.size
          have hGar22 : ∀ o, wr22.cell? ⟨w13.heap.size, o, none⟩ = (#[.int .i64 0, .int .i64 0, .int .i64 0] : Array Value)[o]? := fun o => ((bcell hbr22).1 _ o hGar21s).trans (hGar21 o)
          have hGar22f : ∀ o, wr22.frozen? ⟨w13.heap.size, o, none⟩ = false := fun o => ((bcell hbr22).2 _ o hGar21s).trans (hGar21f o)
          have hGar22s : w13.heap.size < wr22.heap.size := Nat.lt_of_lt_of_le hGar21s hbr22.size
          go_wp2_with fail
          refine hK.out _ _ ?_ (fun hHeld => ?_)
          · exact reg_call hHeld hbr22 (Nat.le_refl _)
          clear hK K
          (try simp only [put_lit, List.set_cons_zero, List.set_cons_succ])
          refine wpAnyH_ready (rs := [7]) (by kernel_rfl) (by simp) ?_
          refine AllReadyH.cons rfl (fun K hK => ?_) AllReadyH.nil
          go_simp
          refine (iAppendPage _ _ _ ds _ _ _ _ _ _ _ _ _ _ (by first | exact HQ3.out | exact HQ3.out.keep (bel_1 _ _))).mono ?_
          rw [HE.out]
          simp only []
          have hlo := hHeld.size
          rintro e wr23 ⟨vq, rfl, hOq, hbr23⟩
          obtain ⟨Aq, cq, rfl, hTq⟩ := devout hOq
          have HTQ := Lib.hid hTq
          clear hOq hTq
          have hlh := hbr23.size
          have hnr23 : w13.heap.size ≤ wr23.heap.size := Nat.le_trans hHeld.size hbr23.size
          have hGar23 : ∀ o, wr23.cell? ⟨w13.heap.size, o, none⟩ = (#[.int .i64 0, .int .i64 0, .int .i64 0] : Array Value)[o]? := fun o => ((bcell hbr23).1 _ o hGar22s).trans (hGar22 o)
          have hGar23f : ∀ o, wr23.frozen? ⟨w13.heap.size, o, none⟩ = false := fun o => ((bcell hbr23).2 _ o hGar22s).trans (hGar22f o)
          have hGar23s : w13.heap.size < wr23.heap.size := Nat.lt_of_lt_of_le hGar22s hbr23.size
          go_wp2_with fail
          refine hK.out _ _ ?_ (fun hHeld => ?_)
          · exact reg_call hHeld hbr23 (Nat.le_refl _)
          clear hK K
          (try simp only [put_lit, List.set_cons_zero, List.set_cons_succ])
          refine reg_take 8 106 (v := ?_) rfl rfl (by kernel_rfl) (by kernel_rfl) (by kernel_rfl) (fun _ _ _ h => h) (Or.inl ⟨by rfl, ?_⟩) hHeld ?_
          rotate_left 1
          · intro wS hSw; go_simp <;> with_reducible rfl
          simp only [put_lit, List.set_cons_zero, List.set_cons_succ]
          refine reg_take 9 115 (v := ?_) rfl rfl (by kernel_rfl) (by kernel_rfl) (by kernel_rfl) (fun _ _ _ h => h) (Or.inl ⟨by rfl, ?_⟩) hHeld ?_
          rotate_left 1
          · intro wS hSw; go_simp <;> with_reducible rfl
          simp only [put_lit, List.set_cons_zero, List.set_cons_succ]
          refine reg_take 10 116 (v := ?_) rfl rfl (by kernel_rfl) (by kernel_rfl) (by kernel_rfl) (fun _ _ _ h => h) (Or.inl ⟨by rfl, ?_⟩) hHeld ?_
          rotate_left 1
          · intro wS hSw; go_simp <;> with_reducible rfl
          simp only [put_lit, List.set_cons_zero, List.set_cons_succ]
          refine reg_take 11 117 (v := ?_) rfl rfl (by kernel_rfl) (by kernel_rfl) (by kernel_rfl) (fun _ _ _ h => h) (Or.inl ⟨by rfl, ?_⟩) hHeld ?_
          rotate_left 1
          · intro wS hSw; go_simp <;> with_reducible rfl
          simp only [put_lit, List.set_cons_zero, List.set_cons_succ]
          refine reg_take 13 20 (v := ?_) rfl rfl (by kernel_rfl) (by kernel_rfl) (by kernel_rfl) (fun _ _ _ h => h) (Or.inl ⟨by rfl, ?_⟩) hHeld ?_
          rotate_left 1
          · intro wS hSw; go_simp <;> with_reducible rfl
          simp only [put_lit, List.set_cons_zero, List.set_cons_succ]
          refine wpAnyH_ready (rs := [14]) (by kernel_rfl) (by simp) ?_
          refine AllReadyH.cons rfl (fun K hK => ?_) AllReadyH.nil
          go_simp
          refine hK.out _ _ ?_ (fun hHeld => ?_)
          · first | exact reg_swap hHeld (by first | with_reducible assumption | exact Nat.le_refl _ | (simp; done) | (simp; omega) | omega) _ | exact ((hHeld.setCell (p := ⟨_, 0, none⟩) (by first | with_reducible assumption | exact Nat.le_refl _ | (simp; done) | (simp; omega) | omega) _).setCell (p := ⟨_, 1, none⟩) (by first | with_reducible assumption | exact Nat.le_refl _ | (simp; done) | (simp; omega) | omega) _).setCell (p := ⟨_, 2, none⟩) (by first | with_reducible assumption | exact Nat.le_refl _ | (simp; done) | (simp; omega) | omega) _
          clear hK K
          (try simp only [put_lit, List.set_cons_zero, List.set_cons_succ])
          refine reg_take 15 22 (v := ?_) rfl rfl (by kernel_rfl) (by kernel_rfl) (by kernel_rfl) (fun _ _ _ h => h) (Or.inl ⟨by rfl, ?_⟩) hHeld ?_
          rotate_left 1
          · intro wS hSw; go_simp <;> with_reducible rfl
          simp only [put_lit, List.set_cons_zero, List.set_cons_succ]
          refine wpAnyH_done (by kernel_rfl) ?_ _
          obtain ⟨X, eX⟩ := leafW hHeld
          have x0 : X.cell? ⟨w13.heap.size, 0, none⟩ = some (.int .i64 g') := by rw [eX]; go_simp
          have x1 : X.cell? ⟨w13.heap.size, 1, none⟩ = some (.int .i64 h') := by rw [eX]; go_simp
          have x2 : X.cell? ⟨w13.heap.size, 2, none⟩ = some (.int .i64 k') := by rw [eX]; go_simp
          have SQ : ∃ lo hi, DvO X lo hi Aq E.length E ∧ w13.heap.size ≤ lo ∧ lo ≤ hi ∧ hi ≤ X.heap.size ∧ (w13.heap.size < lo ∨ hi ≤ w13.heap.size) := by rw [eX]; first | exact ⟨_, _, HTQ.out.keep (bel_1 _ _), hlo, hlh, by simp, Or.inr (Nat.le_refl _)⟩ | exact ⟨_, _, ((HTQ.out.setLow (a := ⟨w13.heap.size, 0, none⟩) (by first | with_reducible assumption | exact Nat.le_refl _ | (simp; done) | (simp; omega) | omega) _).setLow (a := ⟨w13.heap.size, 1, none⟩) (by first | with_reducible assumption | exact Nat.le_refl _ | (simp; done) | (simp; omega) | omega) _).setLow (a := ⟨w13.heap.size, 2, none⟩) (by first | with_reducible assumption | exact Nat.le_refl _ | (simp; done) | (simp; omega) | omega) _, hlo, hlh, by simp [World.size_setCell], Or.inl (by first | with_reducible assumption | exact Nat.le_refl _ | (simp; done) | (simp; omega) | omega)⟩
          obtain ⟨lo, hi, S1, S2, S3', S4, S5'⟩ := SQ
          rw [← eX] at hHeld ⊢
          clear eX
          go_wp2_with fail
          go_meet
          exact ⟨w13.heap.size, Aq, cq, lo, hi, rfl, rfl, rfl, (by first | with_reducible assumption | exact Nat.le_refl _ | (simp; done) | (simp; omega) | omega), x0, x1, x2, S1, S2, S3', S4, S5', hHeld⟩
        case rest =>
          obtain ⟨Ghh, Ahh, chh, lohh, hihh, rfl, rfl, rfl, hcb⟩ := hcut
          obtain ⟨w14, rfl⟩ : ∃ x, x = wc := ⟨_, rfl⟩
          obtain ⟨hGhh, hh0, hh1, hh2, hThh, hl1hh, hl2hh, hl3hh, hl4hh, hbk⟩ := hcb
          have HV14 := Lib.hid hbk
          have HB14 := Lib.hid (bel_t HB13.out HV14.out)
          have hs14 : w13.heap.size ≤ w14.heap.size := HV14.out.size
          replace q0 := stays_below HV14.out _ _ _ q0
          replace q1 := stays_below HV14.out _ _ _ q1
          replace q2 := stays_below HV14.out _ _ _ q2
          replace p0 := stays_below HV14.out _ _ _ p0
          replace p1 := stays_below HV14.out _ _ _ p1
          replace p2 := stays_below HV14.out _ _ _ p2
          replace p3 := stays_below HV14.out _ _ _ p3
          replace p4 := stays_below HV14.out _ _ _ p4
          replace aa0 := stays_below HV14.out _ _ _ aa0
          replace aa1 := stays_below HV14.out _ _ _ aa1
          replace aa2 := stays_below HV14.out _ _ _ aa2
          replace gg0 := stays_below HV14.out _ _ _ gg0
          replace gg1 := stays_below HV14.out _ _ _ gg1
          replace gg2 := stays_below HV14.out _ _ _ gg2
          replace S3 := Lib.hid (S3.out.keep HV14.out)
          replace S5 := Lib.hid (S5.out.keep HV14.out)
          have zq_14 : w.heap.size < w14.heap.size := block_lt_of_cell q0
          have zp_14 : w.heap.size + 1 < w14.heap.size := block_lt_of_cell p0
          have zaa_14 : Gaa < w14.heap.size := block_lt_of_cell aa0
          have zgg_14 : Ggg < w14.heap.size := block_lt_of_cell gg0
          clear hbk
          have S14 := Lib.hid hThh
          clear hThh
          have zhh_14 : Ghh < w14.heap.size := block_lt_of_cell hh0
          go_wp2_with fail
          refine (eqBlockS_refl _ _ _ _ _ E _ (S14.out.at hmE) (S3.out.at hmE)).mono ?_
          rintro e w15 ⟨rfl, hb15⟩
          have HV15 := Lib.hid hb15
          have HB15 := Lib.hid (bel_t HB14.out HV15.out)
          have hs15 : w14.heap.size ≤ w15.heap.size := HV15.out.size
          replace q0 := stays_below HV15.out _ _ _ q0
          replace q1 := stays_below HV15.out _ _ _ q1
          replace q2 := stays_below HV15.out _ _ _ q2
          replace p0 := stays_below HV15.out _ _ _ p0
          replace p1 := stays_below HV15.out _ _ _ p1
          replace p2 := stays_below HV15.out _ _ _ p2
          replace p3 := stays_below HV15.out _ _ _ p3
          replace p4 := stays_below HV15.out _ _ _ p4
          replace aa0 := stays_below HV15.out _ _ _ aa0
          replace aa1 := stays_below HV15.out _ _ _ aa1
          replace aa2 := stays_below HV15.out _ _ _ aa2
          replace gg0 := stays_below HV15.out _ _ _ gg0
          replace gg1 := stays_below HV15.out _ _ _ gg1
          replace gg2 := stays_below HV15.out _ _ _ gg2
          replace hh0 := stays_below HV15.out _ _ _ hh0
          replace hh1 := stays_below HV15.out _ _ _ hh1
          replace hh2 := stays_below HV15.out _ _ _ hh2
          replace S3 := Lib.hid (S3.out.keep HV15.out)
          replace S5 := Lib.hid (S5.out.keep HV15.out)
          replace S14 := Lib.hid (S14.out.keep HV15.out)
          have zq_15 : w.heap.size < w15.heap.size := block_lt_of_cell q0
          have zp_15 : w.heap.size + 1 < w15.heap.size := block_lt_of_cell p0
          have zaa_15 : Gaa < w15.heap.size := block_lt_of_cell aa0
          have zgg_15 : Ggg < w15.heap.size := block_lt_of_cell gg0
          have zhh_15 : Ghh < w15.heap.size := block_lt_of_cell hh0
          clear hb15
          go_wp2_with fail
          refine (eqHeads_refl _ _ _ _).mono ?_
          rintro e w16 ⟨rfl, hb16⟩
          have HV16 := Lib.hid hb16
          have HB16 := Lib.hid (bel_t HB15.out HV16.out)
          have hs16 : w15.heap.size ≤ w16.heap.size := HV16.out.size
          replace q0 := stays_below HV16.out _ _ _ q0
          replace q1 := stays_below HV16.out _ _ _ q1
          replace q2 := stays_below HV16.out _ _ _ q2
          replace p0 := stays_below HV16.out _ _ _ p0
          replace p1 := stays_below HV16.out _ _ _ p1
          replace p2 := stays_below HV16.out _ _ _ p2
          replace p3 := stays_below HV16.out _ _ _ p3
          replace p4 := stays_below HV16.out _ _ _ p4
          replace aa0 := stays_below HV16.out _ _ _ aa0
          replace aa1 := stays_below HV16.out _ _ _ aa1
          replace aa2 := stays_below HV16.out _ _ _ aa2
          replace gg0 := stays_below HV16.out _ _ _ gg0
          replace gg1 := stays_below HV16.out _ _ _ gg1
          replace gg2 := stays_below HV16.out _ _ _ gg2
          replace hh0 := stays_below HV16.out _ _ _ hh0
          replace hh1 := stays_below HV16.out _ _ _ hh1
          replace hh2 := stays_below HV16.out _ _ _ hh2
          replace S3 := Lib.hid (S3.out.keep HV16.out)
          replace S5 := Lib.hid (S5.out.keep HV16.out)
          replace S14 := Lib.hid (S14.out.keep HV16.out)
          have zq_16 : w.heap.size < w16.heap.size := block_lt_of_cell q0
          have zp_16 : w.heap.size + 1 < w16.heap.size := block_lt_of_cell p0
          have zaa_16 : Gaa < w16.heap.size := block_lt_of_cell aa0
          have zgg_16 : Ggg < w16.heap.size := block_lt_of_cell gg0
          have zhh_16 : Ghh < w16.heap.size := block_lt_of_cell hh0
          clear hb16
          go_wp2_with fail
          refine (heldBlockS_any _ _ _ E _ (S5.out.at hmE) hnE HSE.out).mono ?_
          rintro e w17 ⟨rfl, hb17⟩
          have HV17 := Lib.hid hb17
          have HB17 := Lib.hid (bel_t HB16.out HV17.out)
          have hs17 : w16.heap.size ≤ w17.heap.size := HV17.out.size
          replace q0 := stays_below HV17.out _ _ _ q0
          replace q1 := stays_below HV17.out _ _ _ q1
          replace q2 := stays_below HV17.out _ _ _ q2
          replace p0 := stays_below HV17.out _ _ _ p0
          replace p1 := stays_below HV17.out _ _ _ p1
          replace p2 := stays_below HV17.out _ _ _ p2
          replace p3 := stays_below HV17.out _ _ _ p3
          replace p4 := stays_below HV17.out _ _ _ p4
          replace aa0 := stays_below HV17.out _ _ _ aa0
          replace aa1 := stays_below HV17.out _ _ _ aa1
          replace aa2 := stays_below HV17.out _ _ _ aa2
          replace gg0 := stays_below HV17.out _ _ _ gg0
          replace gg1 := stays_below HV17.out _ _ _ gg1
          replace gg2 := stays_below HV17.out _ _ _ gg2
          replace hh0 := stays_below HV17.out _ _ _ hh0
          replace hh1 := stays_below HV17.out _ _ _ hh1
          replace hh2 := stays_below HV17.out _ _ _ hh2
          replace S3 := Lib.hid (S3.out.keep HV17.out)
          replace S5 := Lib.hid (S5.out.keep HV17.out)
          replace S14 := Lib.hid (S14.out.keep HV17.out)
          have zq_17 : w.heap.size < w17.heap.size := block_lt_of_cell q0
          have zp_17 : w.heap.size + 1 < w17.heap.size := block_lt_of_cell p0
          have zaa_17 : Gaa < w17.heap.size := block_lt_of_cell aa0
          have zgg_17 : Ggg < w17.heap.size := block_lt_of_cell gg0
          have zhh_17 : Ghh < w17.heap.size := block_lt_of_cell hh0
          clear hb17
          go_wp2
          go_ret
          exact ⟨rfl, HB17.out⟩

namespace fnExactAppendPage
open Go.ChangeShapes Go.WideShapes Go.ChangeAt Go.RowKit
theorem own : ownKnob Try.prog.godebug = none := by kernel_rfl
theorem laidOut : laidOutB Try.prog = true := by kernel_rfl
theorem spec_ok : LawSpec Rows.fnExactAppendPageSpec 4 := ⟨rfl, fun H ds h => by
  match ds, h with
  | [_, _, _, _], _ => exact ⟨rfl, rfl, rfl⟩⟩
theorem rd26 : Try.prog.readableRec 26 = true ∧ 26 < Try.prog.types.size := ⟨by kernel_rfl, of_decide_eq_true (by kernel_rfl)⟩
theorem rd3 : Try.prog.readableRec 3 = true ∧ 3 < Try.prog.types.size := ⟨by kernel_rfl, of_decide_eq_true (by kernel_rfl)⟩
theorem rd39 : Try.prog.readableRec 39 = true ∧ 39 < Try.prog.types.size := ⟨by kernel_rfl, of_decide_eq_true (by kernel_rfl)⟩
theorem rd41 : Try.prog.readableRec 41 = true ∧ 41 < Try.prog.types.size := ⟨by kernel_rfl, of_decide_eq_true (by kernel_rfl)⟩
set_option maxRecDepth 100000 in
theorem lifted (os : Os) (started : os.Started) (H : Type) (enc : TypeId × Value → H) :
    ReturnsInHanded {} Try.checked os 4 .any (Rows.fnExactAppendPageSpec.pre6 enc Try.prog Try.f4 Rows.fnExactAppendPageRow.domain false) (Rows.fnExactAppendPageSpec.post enc Try.prog Try.f4 false true false false) := by
  refine law_lifted (C := Try.checked) (tb := 4) own started (by kernel_rfl) Try.func4 laidOut ?_ spec_ok (by rfl) Try.underlying4
    (ChangeSpec.witness6 (enc := enc) (C := Try.checked) false ⟨#[], #[.slice none 0 0, .agg #[.int .i64 0, .int .i64 0, .int .i64 0], .int .i64 0, .agg #[.bool false, .int .i64 0, .int .i64 0, .int .i64 0, .int .i64 0]], []⟩ 8 (by kernel_rfl) (by kernel_rfl) (by kernel_rfl) (by kernel_rfl)) ?_
  · rw [Try.params4]
    intro t ht
    simp only [List.mem_cons, List.not_mem_nil, or_false] at ht
    rcases ht with rfl | rfl | rfl | rfl
    · exact rd39
    · exact rd41
    · exact rd3
    · exact rd26
  · intro W base args ds ps hval0 hA0
    have hval : ∀ (j : Nat) t v, Try.f4.params[j]? = some t → args[j]? = some v → Value.okWide Try.prog W .any base t v := hval0
    have hA : DataW.TrodAll enc Try.prog W 0 (fun _ => true) true Try.f4.params.toList args.toList ds ps := hA0
    clear hval0 hA0
    rw [Try.params4] at hA hval
    obtain ⟨v0, vs0, d0, ds0, p0, q0, hargs, rfl, rfl, h0, r0⟩ := trodAll_cons hA
    obtain ⟨v1, vs1, d1, ds1, p1, q1, rfl, rfl, rfl, h1, r1⟩ := trodAll_cons r0
    obtain ⟨v2, vs2, d2, ds2, p2, q2, rfl, rfl, rfl, h2, r2⟩ := trodAll_cons r1
    obtain ⟨v3, vs3, d3, ds3, p3, q3, rfl, rfl, rfl, h3, r3⟩ := trodAll_cons r2
    obtain ⟨rfl, rfl, rfl⟩ := trodAll_nil r3
    obtain rfl : args = #[v0, v1, v2, v3] := by cases args; simp_all
    obtain ⟨x0, rfl, hx0⟩ := open_D Try.underlying39 tyLB (hval 0 39 v0 rfl rfl) h0
    obtain ⟨x1, rfl, hx1⟩ := open_H tyLH (hval 1 41 v1 rfl rfl) h1
    obtain ⟨a2, rfl, rfl, rfl, w2⟩ := open_int Try.underlying3 (hval 2 3 v2 rfl rfl) h2
    obtain ⟨a3, rfl⟩ := open_page Try.underlying26 (by kernel_rfl) (by kernel_rfl) Try.underlying4 Try.underlying3 (hval 3 26 v3 rfl rfl) h3
    exact walk_FnExactAppendPage x0 x1 a2 a3 W hx0 hx1 w2

theorem over : Rows.fnExactAppendPageRow.holds Try.pinned (OpenSpec.ofChange Rows.fnExactAppendPageSpec) :=
  OpenClaim.holds_of_wide 4 Try.f4 rfl rfl rfl rfl rfl rfl rfl ⟨rfl, rfl, rfl, rfl, rfl⟩ rfl rfl rfl rfl rfl (by kernel_rfl) Try.func4 (by kernel_rfl)
    (of_decide_eq_true (by kernel_rfl)) (by unfold Func.isWrapper; first | (rw [if_pos (by decide +kernel)]; kernel_rfl) | (rw [if_neg (by decide +kernel)]; exact ⟨rfl, rfl⟩))
    (fun os started H enc _ => lifted os started H enc)

theorem proved : Rows.FnExactAppendPageSaid :=
  over
#print axioms proved
end fnExactAppendPage
end Go.Proofs.Ytjphehapnhfecaa
