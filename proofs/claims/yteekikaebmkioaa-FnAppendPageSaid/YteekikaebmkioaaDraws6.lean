/- What the draws of the laws on devices give, for every code. -/
import Derived.Test.YteekikaebmkioaaDrawD
namespace Go.Proofs.Yteekikaebmkioaa
open Go.RowKit
set_option linter.unusedVariables false
attribute [local go_sem ↓] Go.wp_at_zero Go.wp_at_succ

/-- some device that can be read -/
def DevR (w w' : World) (A : Option Addr) (m c : Nat) (ds : List Bl) : Prop := m ≤ c ∧ m ≤ 13 ∧ DevAt w' A m ds ∧ Below w.heap.size w w'
def GotD (w : World) (e : Ending) (w' : World) : Prop := ∃ (A : Option Addr) (m c : Nat) (ds : List Bl), e = .returned (.slice A m c) ∧ DevR w w' A m c ds
def GotDI (w : World) (e : Ending) (w' : World) : Prop := ∃ (A : Option Addr) (m c : Nat) (ds : List Bl) (a : Int), e = .returned (.tuple #[.slice A m c, .int .i64 a]) ∧ DevR w w' A m c ds
def GotDIP (w : World) (e : Ending) (w' : World) : Prop := ∃ (A : Option Addr) (m c : Nat) (ds : List Bl) (a : Int) (p : Pg), e = .returned (.tuple #[.slice A m c, .int .i64 a, p.val]) ∧ DevR w w' A m c ds
def GotDH (w : World) (e : Ending) (w' : World) : Prop := ∃ (A : Option Addr) (m c : Nat) (ds : List Bl) (g h k : Int), e = .returned (.tuple #[.slice A m c, .agg #[.int .i64 g, .int .i64 h, .int .i64 k]]) ∧ DevR w w' A m c ds
def GotDHI (w : World) (e : Ending) (w' : World) : Prop := ∃ (A : Option Addr) (m c : Nat) (ds : List Bl) (g h k a : Int), e = .returned (.tuple #[.slice A m c, .agg #[.int .i64 g, .int .i64 h, .int .i64 k], .int .i64 a]) ∧ DevR w w' A m c ds
def GotDHIP (w : World) (e : Ending) (w' : World) : Prop := ∃ (A : Option Addr) (m c : Nat) (ds : List Bl) (g h k a : Int) (p : Pg), e = .returned (.tuple #[.slice A m c, .agg #[.int .i64 g, .int .i64 h, .int .i64 k], .int .i64 a, p.val]) ∧ DevR w w' A m c ds
def nine (m : Int) : Array Value := #[.int .i64 1, .int .i64 1, .int .i64 (-1), .int .i64 m, .int .i64 (-1), .int .i64 (-1), .int .i64 (-2), .int .i64 (-1), .int .i64 (-1)]
theorem get9 {w : World} {B : Nat} {m : Int} (h : ∀ o, w.cell? ⟨B, o, none⟩ = (nine m)[o]?) (y : Nat) (hy : y < 3) :
    ∃ a b c, w.cell? ⟨B, y * 3, none⟩ = some (.int .i64 a) ∧ w.cell? ⟨B, y * 3 + 1, none⟩ = some (.int .i64 b) ∧ w.cell? ⟨B, y * 3 + 2, none⟩ = some (.int .i64 c) := by
  rw [h, h, h]
  match y, hy with
  | 0, _ => exact ⟨_, _, _, rfl, rfl, rfl⟩
  | 1, _ => exact ⟨_, _, _, rfl, rfl, rfl⟩
  | 2, _ => exact ⟨_, _, _, rfl, rfl, rfl⟩
theorem new9 (w : World) (m : Int) (t : TypeId) : ∀ o, (w.alloc (.cells (nine m) t)).cell? ⟨w.heap.size, o, none⟩ = (nine m)[o]? := fun o => by simp [go_sem]
theorem new9h (w : World) (m : Int) : ∀ o, (w.alloc (.cells (nine m) 54)).cell? ⟨w.heap.size, o, none⟩ = (nine m)[o]? := new9 w m 54

theorem DevFr.lower {w : World} {lo lo' n : Nat} {A : Option Addr} {ds : List Bl} (h : DevFr w lo A n ds) (hl : lo' ≤ lo) : DevFr w lo' A n ds :=
  ⟨h.1, h.2.1, fun hn => by
    obtain ⟨b, o, e, h1, hz, hc⟩ := h.2.2 hn
    refine ⟨b, o, e, Nat.le_trans hl h1, hz, fun i hi => ?_⟩
    obtain ⟨A', m, c', q1, q2, q3⟩ := hc i hi
    exact ⟨A', m, c', q1, q2, q3.lower hl⟩⟩

theorem drawnE {w wx : World} {g n c M M' M0 : Nat} {A : Option Addr} (h0 : Rdr w g A n c M0) (hR : Rdr wx g A n c M') (hK : Kp g w wx) {A' : Option Addr} {m c' : Nat} {ds : List Bl} (hmc : m ≤ c') (hd : DevFr wx (w.heap.size + 1) A' m ds) (hM : M' ≤ M) (a b k : Int) :
    DrawnD g A n c M w (.returned (.tuple #[.slice A' m c', .agg #[.int .i64 a, .int .i64 b, .int .i64 k]])) (t3 wx w.heap.size a b k) := by
  have hg := h0.lt
  have kk : Kp g w (t3 wx w.heap.size a b k) := ((hK.setCell (p := ⟨w.heap.size, 0, none⟩) (Or.inr (Nat.le_refl _)) _).setCell (p := ⟨w.heap.size, 1, none⟩) (Or.inr (Nat.le_refl _)) _).setCell (p := ⟨w.heap.size, 2, none⟩) (Or.inr (Nat.le_refl _)) _
  have hr : (t3 wx w.heap.size a b k).heap[g]? = wx.heap[g]? := by
    unfold t3
    rw [Below.heap_setCell _ _ _ _ (by simp; omega), Below.heap_setCell _ _ _ _ (by simp; omega), Below.heap_setCell _ _ _ _ (by simp; omega)]
  exact ⟨A', m, c', ds, a, b, k, rfl, hmc, ((hd.setLow (a := ⟨w.heap.size, 0, none⟩) (Nat.lt_succ_self _) _).setLow (a := ⟨w.heap.size, 1, none⟩) (Nat.lt_succ_self _) _).setLow (a := ⟨w.heap.size, 2, none⟩) (Nat.lt_succ_self _) _, (h0.final hR hr kk).mono hM, kk⟩
theorem DrawnD.alloc {g n c M : Nat} {A : Option Addr} {w w' : World} {e : Ending} (h : DrawnD g A n c M w e w') (o : Obj) : DrawnD g A n c M w e (w'.alloc o) := by
  obtain ⟨A', m, c', ds, a, b, k, h1, h2, h3, h4, h5⟩ := h
  exact ⟨A', m, c', ds, a, b, k, h1, h2, h3.keep (bel_1 _ _), h4.keep (bel_1 _ _), h5.alloc o⟩

set_option maxRecDepth 100000 in
set_option maxHeartbeats 4000000 in
theorem heads_any (g : Nat) (A : Option Addr) (n c M : Nat) (N : Int) (w : World) (h : Rdr w g A n c M) (hM : M ≤ 10000) (hN : 0 < N) (hN2 : N ≤ 1000) :
    Calls Try.prog 71 #[.pointer (some ⟨g, 0, none⟩), .int .i64 N] w (DrawnD g A n c (M + 132) w) := by
  have hg := h.lt
  go_enter Try.func71, Try.ntmps71
  go_wp2_with fail
  refine (device_any g A n c M N _ (h.keep (bel_1 _ _)) (by omega) hN hN2).mono ?_
  rintro e w1 ⟨A', m, c', ds, g1, h1, k1, rfl, hmc, hD1, hR1, hK1⟩
  have hm13 := hD1.2.1
  have hsz := hK1.size
  simp only [World.size_alloc] at hsz hD1
  have KK : Kp g w w1 := (Kp.of_below (bel_1 _ _)).trans hK1
  have HIN : Hid (HdSt w (w1.alloc (.cells #[.int .i64 g1, .int .i64 h1, .int .i64 k1] 54)) g A n c (M + 130) w1.heap.size g1 h1 k1) := Lib.hid (by
    have hc1 := kcell hK1 (b := w.heap.size) (by simp) (by omega)
    have hf1 := kfroz hK1 (b := w.heap.size) (by simp) (by omega)
    exact { rd := hR1.keep (bel_1 _ _), kp := KK.trans (Kp.of_below (bel_1 _ _)), r0 := stays_below (bel_1 _ _) _ _ _ (by rw [hc1]; simp [go_sem]), r1 := stays_below (bel_1 _ _) _ _ _ (by rw [hc1]; simp [go_sem]), r2 := stays_below (bel_1 _ _) _ _ _ (by rw [hc1]; simp [go_sem]), fr := (fun j => ((bcell (bel_1 w1 (.cells #[.int .i64 g1, .int .i64 h1, .int .i64 k1] 54))).2 _ _ (by omega)).trans (by rw [hf1]; simp [go_sem])), x0 := (by simp [go_sem]), x1 := (by simp [go_sem]), x2 := (by simp [go_sem]), fh := (fun j => by simp [go_sem]), hH := (by omega), hHs := (by simp) })
  have HK2 : Hid (Kp g w1 (w1.alloc (.cells #[.int .i64 g1, .int .i64 h1, .int .i64 k1] 54))) := Lib.hid (Kp.of_below (bel_1 _ _))
  have HFR := Lib.hid hD1
  clear hD1 hR1 hK1 KK
  go_wp2_with fail
  generalize w1.alloc (.cells #[.int .i64 g1, .int .i64 h1, .int .i64 k1] 54) = w2 at *
  refine (odd_any g A n c (M + 130) N _ HIN.out.rd (by omega) hN hN2).mono ?_
  rintro e w3 ⟨b, rfl, hR3, hK3⟩
  have HS3 := Lib.hid (HIN.out.step hg hK3 hR3)
  have HK3 := Lib.hid (HK2.out.trans hK3)
  clear hR3 hK3 HIN HK2
  have hH := HS3.out.hH
  have hHs := HS3.out.hHs
  cases b
  · go_wp2_with fail
    refine (pick_c g A n c (M + 130 + 1) 4 _ HS3.out.rd (by omega) (by omega)).mono ?_
    rintro e w4 ⟨r4, rfl, h40, h41, hR4, hK4⟩
    have HS4 := Lib.hid (HS3.out.step hg hK4 hR4)
    have HK4 := Lib.hid (HK3.out.trans hK4)
    clear hR4 hK4 HS3 HK3
    by_cases h0 : r4 = 0
    · subst h0
      have y0 := HS4.out.x0
      have y1 := HS4.out.x1
      have y2 := HS4.out.x2
      have v0 := HS4.out.fh 0
      have v1 := HS4.out.fh 1
      have v2 := HS4.out.fh 2
      have HS5 : Hid (HdSt w (((w4.setCell ⟨w1.heap.size, 0, none⟩ (.int .i64 (-1))).setCell ⟨w1.heap.size, 1, none⟩ (.int .i64 (-1))).setCell ⟨w1.heap.size, 2, none⟩ (.int .i64 (-1))) g A n c (M + 130 + 1 + 1) w1.heap.size (-1) (-1) (-1)) := Lib.hid (HS4.out.set h (-1) (-1) (-1))
      have HK5 : Hid (Kp g w1 (((w4.setCell ⟨w1.heap.size, 0, none⟩ (.int .i64 (-1))).setCell ⟨w1.heap.size, 1, none⟩ (.int .i64 (-1))).setCell ⟨w1.heap.size, 2, none⟩ (.int .i64 (-1)))) := Lib.hid (((HK4.out.setCell (p := ⟨w1.heap.size, 0, none⟩) (Or.inr (by simp only []; omega)) _).setCell (p := ⟨w1.heap.size, 1, none⟩) (Or.inr (by simp only []; omega)) _).setCell (p := ⟨w1.heap.size, 2, none⟩) (Or.inr (by simp only []; omega)) _)
      go_wp2_with fail
      clear y0 y1 y2 v0 v1 v2 HS4 HK4
      generalize (((w4.setCell ⟨w1.heap.size, 0, none⟩ (.int .i64 (-1))).setCell ⟨w1.heap.size, 1, none⟩ (.int .i64 (-1))).setCell ⟨w1.heap.size, 2, none⟩ (.int .i64 (-1))) = w5 at *
      have x0 := HS5.out.x0
      have r0 := HS5.out.r0
      have f0 := HS5.out.fr 0
      have x1 := HS5.out.x1
      have r1 := HS5.out.r1
      have f1 := HS5.out.fr 1
      have x2 := HS5.out.x2
      have r2 := HS5.out.r2
      have f2 := HS5.out.fr 2
      have hZ := HS5.out.hH
      have hZs := HS5.out.hHs
      refine reg_beginS (S := fun w' => w'.cell? ⟨w1.heap.size, 0, none⟩ = some (.int .i64 (-1)) ∧ w'.cell? ⟨w1.heap.size, 1, none⟩ = some (.int .i64 (-1)) ∧ w'.cell? ⟨w1.heap.size, 2, none⟩ = some (.int .i64 (-1))) ⟨x0, x1, x2⟩ (by kernel_rfl) (fun hHeld => ?_)
      refine reg_take 0 32 (v := ?_) rfl rfl (by kernel_rfl) (by kernel_rfl) (by kernel_rfl) (fun _ _ _ h => h) (Or.inl ⟨by rfl, ?_⟩) hHeld ?_
      rotate_left 1
      · intro wS hSw; go_simp <;> with_reducible rfl
      simp only [put_lit, List.set_cons_zero, List.set_cons_succ]
      refine reg_take 1 33 (v := ?_) rfl rfl (by kernel_rfl) (by kernel_rfl) (by kernel_rfl) (fun _ _ _ h => h) (Or.inl ⟨by rfl, ?_⟩) hHeld ?_
      rotate_left 1
      · intro wS hSw; obtain ⟨q0, q1, q2⟩ := hSw; go_simp <;> with_reducible rfl
      simp only [put_lit, List.set_cons_zero, List.set_cons_succ]
      refine reg_take 2 4 (v := ?_) rfl rfl (by kernel_rfl) (by kernel_rfl) (by kernel_rfl) (fun _ _ _ h => h) (Or.inl ⟨by rfl, ?_⟩) hHeld ?_
      rotate_left 1
      · intro wS hSw; go_simp <;> with_reducible rfl
      simp only [put_lit, List.set_cons_zero, List.set_cons_succ]
      refine wpAnyH_ready (rs := [3]) (by kernel_rfl) (by simp) ?_
      refine AllReadyH.cons rfl (fun K hK => ?_) AllReadyH.nil
      go_simp
      refine hK.out _ _ ?_ (fun hHeld => ?_)
      · exact ⟨by go_simp, by go_simp, by go_simp⟩
      clear hK K
      (try simp only [put_lit, List.set_cons_zero, List.set_cons_succ])
      refine wpAnyH_done (by kernel_rfl) ?_ _
      go_wp2
      refine bodyPost_ret (v := .tuple #[.slice A' m c', .agg #[.int .i64 (-1), .int .i64 (-1), .int .i64 (-1)]]) (by simp [results, Try.results71, go_sem, r0, r1, r2]) rfl ?_
      exact drawnD h ((HS5.out.step hg ((Kp.refl g _).drewN 1) (HS5.out.rd.keep (Below.refl _ _).drew)).mono (by omega)) hmc ((HFR.out.keepK (HK5.out.trans ((Kp.refl g _).drewN 1)) (by omega)).lower (by omega))
    · have h0b : (r4 == 0) = false := by simpa using h0
      go_wp2_with fail
      have x0 := HS4.out.x0
      have r0 := HS4.out.r0
      have f0 := HS4.out.fr 0
      have x1 := HS4.out.x1
      have r1 := HS4.out.r1
      have f1 := HS4.out.fr 1
      have x2 := HS4.out.x2
      have r2 := HS4.out.r2
      have f2 := HS4.out.fr 2
      have hZ := HS4.out.hH
      have hZs := HS4.out.hHs
      refine reg_beginS (S := fun w' => w'.cell? ⟨w1.heap.size, 0, none⟩ = some (.int .i64 g1) ∧ w'.cell? ⟨w1.heap.size, 1, none⟩ = some (.int .i64 h1) ∧ w'.cell? ⟨w1.heap.size, 2, none⟩ = some (.int .i64 k1)) ⟨x0, x1, x2⟩ (by kernel_rfl) (fun hHeld => ?_)
      refine reg_take 0 32 (v := ?_) rfl rfl (by kernel_rfl) (by kernel_rfl) (by kernel_rfl) (fun _ _ _ h => h) (Or.inl ⟨by rfl, ?_⟩) hHeld ?_
      rotate_left 1
      · intro wS hSw; go_simp <;> with_reducible rfl
      simp only [put_lit, List.set_cons_zero, List.set_cons_succ]
      refine reg_take 1 33 (v := ?_) rfl rfl (by kernel_rfl) (by kernel_rfl) (by kernel_rfl) (fun _ _ _ h => h) (Or.inl ⟨by rfl, ?_⟩) hHeld ?_
      rotate_left 1
      · intro wS hSw; obtain ⟨q0, q1, q2⟩ := hSw; go_simp <;> with_reducible rfl
      simp only [put_lit, List.set_cons_zero, List.set_cons_succ]
      refine reg_take 2 4 (v := ?_) rfl rfl (by kernel_rfl) (by kernel_rfl) (by kernel_rfl) (fun _ _ _ h => h) (Or.inl ⟨by rfl, ?_⟩) hHeld ?_
      rotate_left 1
      · intro wS hSw; go_simp <;> with_reducible rfl
      simp only [put_lit, List.set_cons_zero, List.set_cons_succ]
      refine wpAnyH_ready (rs := [3]) (by kernel_rfl) (by simp) ?_
      refine AllReadyH.cons rfl (fun K hK => ?_) AllReadyH.nil
      go_simp
      refine hK.out _ _ ?_ (fun hHeld => ?_)
      · exact ⟨by go_simp, by go_simp, by go_simp⟩
      clear hK K
      (try simp only [put_lit, List.set_cons_zero, List.set_cons_succ])
      refine wpAnyH_done (by kernel_rfl) ?_ _
      go_wp2
      refine bodyPost_ret (v := .tuple #[.slice A' m c', .agg #[.int .i64 g1, .int .i64 h1, .int .i64 k1]]) (by simp [results, Try.results71, go_sem, r0, r1, r2]) rfl ?_
      exact drawnD h ((HS4.out.step hg ((Kp.refl g _).drewN 1) (HS4.out.rd.keep (Below.refl _ _).drew)).mono (by omega)) hmc ((HFR.out.keepK (HK4.out.trans ((Kp.refl g _).drewN 1)) (by omega)).lower (by omega))
  · go_wp2_with fail
    have x0 := HS3.out.x0
    have r0 := HS3.out.r0
    have f0 := HS3.out.fr 0
    have x1 := HS3.out.x1
    have r1 := HS3.out.r1
    have f1 := HS3.out.fr 1
    have x2 := HS3.out.x2
    have r2 := HS3.out.r2
    have f2 := HS3.out.fr 2
    have HRD : Hid (Rdr w3.drew g A n c (M + 130 + 1)) := Lib.hid (HS3.out.rd.keep (Below.refl _ _).drew)
    refine reg_beginS (S := fun w' => Kp g w w') (HS3.out.kp.trans ((Kp.refl g w3).drewN 1)) (by kernel_rfl) (fun hHeld => ?_)
    refine reg_take 0 17 (v := ?_) rfl rfl (by kernel_rfl) (by kernel_rfl) (by kernel_rfl) (fun _ _ _ h => h) (Or.inl ⟨by rfl, ?_⟩) hHeld ?_
    rotate_left 1
    · intro wS hSw; go_simp <;> with_reducible rfl
    simp only [put_lit, List.set_cons_zero, List.set_cons_succ]
    refine reg_take 1 18 (v := ?_) rfl rfl (by kernel_rfl) (by kernel_rfl) (by kernel_rfl) (fun _ _ _ h => h) (Or.inl ⟨by rfl, ?_⟩) hHeld ?_
    rotate_left 1
    · intro wS hSw; go_simp <;> with_reducible rfl
    simp only [put_lit, List.set_cons_zero, List.set_cons_succ]
    refine reg_take 2 19 (v := ?_) rfl rfl (by kernel_rfl) (by kernel_rfl) (by kernel_rfl) (fun _ _ _ h => h) (Or.inl ⟨by rfl, ?_⟩) hHeld ?_
    rotate_left 1
    · intro wS hSw; go_simp <;> with_reducible rfl
    simp only [put_lit, List.set_cons_zero, List.set_cons_succ]
    refine reg_take 3 20 (v := ?_) rfl rfl (by kernel_rfl) (by kernel_rfl) (by kernel_rfl) (fun _ _ _ h => h) (Or.inl ⟨by rfl, ?_⟩) hHeld ?_
    rotate_left 1
    · intro wS hSw; go_simp <;> with_reducible rfl
    simp only [put_lit, List.set_cons_zero, List.set_cons_succ]
    refine reg_take 4 21 (v := ?_) rfl rfl (by kernel_rfl) (by kernel_rfl) (by kernel_rfl) (fun _ _ _ h => h) (Or.inl ⟨by rfl, ?_⟩) hHeld ?_
    rotate_left 1
    · intro wS hSw; go_simp <;> with_reducible rfl
    simp only [put_lit, List.set_cons_zero, List.set_cons_succ]
    refine reg_take 5 22 (v := ?_) rfl rfl (by kernel_rfl) (by kernel_rfl) (by kernel_rfl) (fun _ _ _ h => h) (Or.inl ⟨by rfl, ?_⟩) hHeld ?_
    rotate_left 1
    · intro wS hSw; go_simp <;> with_reducible rfl
    simp only [put_lit, List.set_cons_zero, List.set_cons_succ]
    refine reg_take 7 24 (v := ?_) rfl rfl (by kernel_rfl) (by kernel_rfl) (by kernel_rfl) (fun _ _ _ h => h) (Or.inl ⟨by rfl, ?_⟩) hHeld ?_
    rotate_left 1
    · intro wS hSw; go_simp <;> with_reducible rfl
    simp only [put_lit, List.set_cons_zero, List.set_cons_succ]
    refine wpAnyH_ready (rs := [6, 8]) (by kernel_rfl) (by simp) ?_
    refine AllReadyH.cons rfl (fun K hK => ?_) ?_
    · skip
      go_simp
      refine hK.out _ _ ?_ (fun hHeld => ?_)
      · exact hHeld.alloc _
      clear hK K
      (try simp only [put_lit, List.set_cons_zero, List.set_cons_succ])
      refine wpAnyH_ready (rs := [8]) (by kernel_rfl) (by simp) ?_
      refine AllReadyH.cons rfl (fun K hK => ?_) AllReadyH.nil
      go_simp
      refine (pick_c g A n c (M + 130 + 1) 3 _ (by first | exact HRD.out | exact HRD.out.keep (bel_1 _ _)) (by omega) (by omega)).mono ?_
      rintro e wh2 ⟨s5, rfl, h50, h51, hR1, hbh2⟩
      have HR1 := Lib.hid hR1
      clear hR1
      obtain ⟨y, rfl⟩ : ∃ y : Nat, s5 = (y : Int) := ⟨s5.toNat, by omega⟩
      have hy : y < 3 := by omega
      have hyI : (y : Int) < 3 := by omega
      have N9 := new9h wh2 (m : Int)
      unfold nine at N9
      have KX : Kp g w3 wh2 := by first | exact ((Kp.refl g w3).drewN 1).trans hbh2 | exact (((Kp.refl g w3).drewN 1).alloc _).trans hbh2
      have HKW := Lib.hid (HS3.out.kp.trans KX)
      have HKD := Lib.hid (HK3.out.trans KX)
      have hnh2 := KX.size
      replace r0 := (KX.cell (by omega) (by omega)).trans r0
      replace r1 := (KX.cell (by omega) (by omega)).trans r1
      replace r2 := (KX.cell (by omega) (by omega)).trans r2
      replace f0 := (kfroz KX (b := w.heap.size) (by omega) (by omega) 0).trans f0
      replace f1 := (kfroz KX (b := w.heap.size) (by omega) (by omega) 1).trans f1
      replace f2 := (kfroz KX (b := w.heap.size) (by omega) (by omega) 2).trans f2
      clear KX
      have hzw : w.heap.size < wh2.heap.size := by omega
      have hGah2 : ∀ o, wh2.cell? ⟨w3.heap.size, o, none⟩ = (#[.int .i64 1, .int .i64 1, .int .i64 (-1), .int .i64 (m : Int), .int .i64 (-1), .int .i64 (-1), .int .i64 (-2), .int .i64 (-1), .int .i64 (-1)] : Array Value)[o]? := fun o => ((kcellB hbh2).1 _ o (by first | (simp; omega) | omega)).trans (by simp [go_sem])
      have hGah2f : ∀ o, wh2.frozen? ⟨w3.heap.size, o, none⟩ = false := fun o => ((kcellB hbh2).2 _ o (by first | (simp; omega) | omega)).trans (by simp [go_sem])
      have hGah2s : w3.heap.size < wh2.heap.size := Nat.lt_of_lt_of_le (by simp) hbh2.size
      first | (have B9 := Lib.hid hGah2; clear hGah2) | have B9 := Lib.hid N9
      go_wp2_with fail
      refine hK.out _ _ ?_ (fun hHeld => ?_)
      · exact hHeld.trans hbh2
      clear hK K
      (try simp only [put_lit, List.set_cons_zero, List.set_cons_succ])
      refine reg_take 9 26 (v := ?_) rfl rfl (by kernel_rfl) (by kernel_rfl) (by kernel_rfl) (fun _ _ _ h => h) (Or.inl ⟨by rfl, ?_⟩) hHeld ?_
      rotate_left 1
      · intro wS hSw; go_simp <;> with_reducible rfl
      simp only [put_lit, List.set_cons_zero, List.set_cons_succ]
      refine reg_take 11 4 (v := ?_) rfl rfl (by kernel_rfl) (by kernel_rfl) (by kernel_rfl) (fun _ _ _ h => h) (Or.inl ⟨by rfl, ?_⟩) hHeld ?_
      rotate_left 1
      · intro wS hSw; go_simp <;> with_reducible rfl
      simp only [put_lit, List.set_cons_zero, List.set_cons_succ]
      refine wpAnyH_ready (rs := [10]) (by kernel_rfl) (by simp) ?_
      refine AllReadyH.cons rfl (fun K hK => ?_) AllReadyH.nil
      obtain ⟨a, b9, c9, l0, l1, l2⟩ := get9 (m := (m : Int)) B9.out y hy
      (try simp [go_sem] at l0)
      (try simp [go_sem] at l1)
      (try simp [go_sem] at l2)
      go_simp
      refine hK.out _ _ ?_ (fun hHeld => ?_)
      · exact hHeld
      clear hK K
      (try simp only [put_lit, List.set_cons_zero, List.set_cons_succ])
      refine wpAnyH_ready (rs := [12]) (by kernel_rfl) (by simp) ?_
      refine AllReadyH.cons rfl (fun K hK => ?_) AllReadyH.nil
      go_simp
      refine hK.out _ _ ?_ (fun hHeld => ?_)
      · first | exact ((hHeld.setCell (p := ⟨w.heap.size, 0, none⟩) (Or.inr (Nat.le_refl _)) _).setCell (p := ⟨w.heap.size, 1, none⟩) (Or.inr (Nat.le_refl _)) _).setCell (p := ⟨w.heap.size, 2, none⟩) (Or.inr (Nat.le_refl _)) _ | exact (((HKW.out.setCell (p := ⟨w.heap.size, 0, none⟩) (Or.inr (Nat.le_refl _)) _).setCell (p := ⟨w.heap.size, 1, none⟩) (Or.inr (Nat.le_refl _)) _).setCell (p := ⟨w.heap.size, 2, none⟩) (Or.inr (Nat.le_refl _)) _).alloc _
      clear hK K
      (try simp only [put_lit, List.set_cons_zero, List.set_cons_succ])
      refine wpAnyH_done (by kernel_rfl) ?_ _
      go_wp2
      refine bodyPost_ret (v := .tuple #[.slice A' m c', .agg #[.int .i64 a, .int .i64 b9, .int .i64 c9]]) (by first | (simp [results, Try.results71, go_sem, *]; done) | (simp [results, Try.results71, go_sem, World.cell?_alloc_past, World.size_setCell, *]; done)) rfl ?_
      first | exact drawnE h HR1.out HKW.out hmc ((HFR.out.keepK HKD.out (by omega)).lower (by omega)) (by omega) a b9 c9 | exact (drawnE h HR1.out HKW.out hmc ((HFR.out.keepK HKD.out (by omega)).lower (by omega)) (by omega) a b9 c9).alloc _
    refine AllReadyH.cons rfl (fun K hK => ?_) AllReadyH.nil
    go_simp
    refine (pick_c g A n c (M + 130 + 1) 3 _ (by first | exact HRD.out | exact HRD.out.keep (bel_1 _ _)) (by omega) (by omega)).mono ?_
    rintro e wh5 ⟨s5, rfl, h50, h51, hR1, hbh5⟩
    have HR1 := Lib.hid hR1
    clear hR1
    obtain ⟨y, rfl⟩ : ∃ y : Nat, s5 = (y : Int) := ⟨s5.toNat, by omega⟩
    have hy : y < 3 := by omega
    have hyI : (y : Int) < 3 := by omega
    have N9 := new9h wh5 (m : Int)
    unfold nine at N9
    have KX : Kp g w3 wh5 := by first | exact ((Kp.refl g w3).drewN 1).trans hbh5 | exact (((Kp.refl g w3).drewN 1).alloc _).trans hbh5
    have HKW := Lib.hid (HS3.out.kp.trans KX)
    have HKD := Lib.hid (HK3.out.trans KX)
    have hnh5 := KX.size
    replace r0 := (KX.cell (by omega) (by omega)).trans r0
    replace r1 := (KX.cell (by omega) (by omega)).trans r1
    replace r2 := (KX.cell (by omega) (by omega)).trans r2
    replace f0 := (kfroz KX (b := w.heap.size) (by omega) (by omega) 0).trans f0
    replace f1 := (kfroz KX (b := w.heap.size) (by omega) (by omega) 1).trans f1
    replace f2 := (kfroz KX (b := w.heap.size) (by omega) (by omega) 2).trans f2
    clear KX
    have hzw : w.heap.size < wh5.heap.size := by omega
    first | (have B9 := Lib.hid hGah5; clear hGah5) | have B9 := Lib.hid N9
    go_wp2_with fail
    refine hK.out _ _ ?_ (fun hHeld => ?_)
    · exact hHeld.trans hbh5
    clear hK K
    (try simp only [put_lit, List.set_cons_zero, List.set_cons_succ])
    refine reg_take 11 4 (v := ?_) rfl rfl (by kernel_rfl) (by kernel_rfl) (by kernel_rfl) (fun _ _ _ h => h) (Or.inl ⟨by rfl, ?_⟩) hHeld ?_
    rotate_left 1
    · intro wS hSw; go_simp <;> with_reducible rfl
    simp only [put_lit, List.set_cons_zero, List.set_cons_succ]
    refine wpAnyH_ready (rs := [6]) (by kernel_rfl) (by simp) ?_
    refine AllReadyH.cons rfl (fun K hK => ?_) AllReadyH.nil
    go_simp
    refine hK.out _ _ ?_ (fun hHeld => ?_)
    · exact hHeld.alloc _
    clear hK K
    (try simp only [put_lit, List.set_cons_zero, List.set_cons_succ])
    refine reg_take 9 26 (v := ?_) rfl rfl (by kernel_rfl) (by kernel_rfl) (by kernel_rfl) (fun _ _ _ h => h) (Or.inl ⟨by rfl, ?_⟩) hHeld ?_
    rotate_left 1
    · intro wS hSw; go_simp <;> with_reducible rfl
    simp only [put_lit, List.set_cons_zero, List.set_cons_succ]
    refine wpAnyH_ready (rs := [10]) (by kernel_rfl) (by simp) ?_
    refine AllReadyH.cons rfl (fun K hK => ?_) AllReadyH.nil
    obtain ⟨a, b9, c9, l0, l1, l2⟩ := get9 (m := (m : Int)) B9.out y hy
    (try simp [go_sem] at l0)
    (try simp [go_sem] at l1)
    (try simp [go_sem] at l2)
    go_simp
    refine hK.out _ _ ?_ (fun hHeld => ?_)
    · exact hHeld
    clear hK K
    (try simp only [put_lit, List.set_cons_zero, List.set_cons_succ])
    refine wpAnyH_ready (rs := [12]) (by kernel_rfl) (by simp) ?_
    refine AllReadyH.cons rfl (fun K hK => ?_) AllReadyH.nil
    go_simp
    refine hK.out _ _ ?_ (fun hHeld => ?_)
    · first | exact ((hHeld.setCell (p := ⟨w.heap.size, 0, none⟩) (Or.inr (Nat.le_refl _)) _).setCell (p := ⟨w.heap.size, 1, none⟩) (Or.inr (Nat.le_refl _)) _).setCell (p := ⟨w.heap.size, 2, none⟩) (Or.inr (Nat.le_refl _)) _ | exact (((HKW.out.setCell (p := ⟨w.heap.size, 0, none⟩) (Or.inr (Nat.le_refl _)) _).setCell (p := ⟨w.heap.size, 1, none⟩) (Or.inr (Nat.le_refl _)) _).setCell (p := ⟨w.heap.size, 2, none⟩) (Or.inr (Nat.le_refl _)) _).alloc _
    clear hK K
    (try simp only [put_lit, List.set_cons_zero, List.set_cons_succ])
    refine wpAnyH_done (by kernel_rfl) ?_ _
    go_wp2
    refine bodyPost_ret (v := .tuple #[.slice A' m c', .agg #[.int .i64 a, .int .i64 b9, .int .i64 c9]]) (by first | (simp [results, Try.results71, go_sem, *]; done) | (simp [results, Try.results71, go_sem, World.cell?_alloc_past, World.size_setCell, *]; done)) rfl ?_
    first | exact drawnE h HR1.out HKW.out hmc ((HFR.out.keepK HKD.out (by omega)).lower (by omega)) (by omega) a b9 c9 | exact (drawnE h HR1.out HKW.out hmc ((HFR.out.keepK HKD.out (by omega)).lower (by omega)) (by omega) a b9 c9).alloc _

end Go.Proofs.Yteekikaebmkioaa
