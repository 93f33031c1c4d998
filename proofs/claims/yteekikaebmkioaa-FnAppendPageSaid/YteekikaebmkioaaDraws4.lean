/-auto What the drawing functions of pages give, for every code. -/
import Derived.Test.YteekikaebmkioaaDraws3
namespace Go.Proofs.Yteekikaebmkioaa
open Go.RowKit
set_option linter.unusedVariables false

/-- some page, the reader asked at most M times, all else as before -/
def DrawnP (g : Nat) (A : Option Addr) (n c M : Nat) (w : World) (e : Ending) (w' : World) : Prop :=
  ∃ p : Pg, e = .returned p.val ∧ Rdr w' g A n c M ∧ Kp g w w'
/-- five stores into one block -/
def set5 (w : World) (b : Nat) (v0 v1 v2 v3 v4 : Value) : World :=
  ((((w.setCell ⟨b, 0, none⟩ v0).setCell ⟨b, 1, none⟩ v1).setCell ⟨b, 2, none⟩ v2).setCell ⟨b, 3, none⟩ v3).setCell ⟨b, 4, none⟩ v4
theorem kp_set5 {g b : Nat} {a w : World} (h : Kp g a w) (hb : a.heap.size ≤ b) (v0 v1 v2 v3 v4 : Value) : Kp g a (set5 w b v0 v1 v2 v3 v4) :=
  ((((h.setCell (p := ⟨b, 0, none⟩) (.inr hb) _).setCell (p := ⟨b, 1, none⟩) (.inr hb) _).setCell (p := ⟨b, 2, none⟩) (.inr hb) _).setCell (p := ⟨b, 3, none⟩) (.inr hb) _).setCell (p := ⟨b, 4, none⟩) (.inr hb) _
theorem heap_set5 {b k : Nat} {w : World} (hk : k ≠ b) (v0 v1 v2 v3 v4 : Value) : (set5 w b v0 v1 v2 v3 v4).heap[k]? = w.heap[k]? := by
  unfold set5
  rw [Below.heap_setCell _ _ _ _ hk, Below.heap_setCell _ _ _ _ hk, Below.heap_setCell _ _ _ _ hk, Below.heap_setCell _ _ _ _ hk, Below.heap_setCell _ _ _ _ hk]
theorem Rdr.final {w w6 wf : World} {g : Nat} {A : Option Addr} {n c M M' : Nat} (h : Rdr w g A n c M) (h6 : Rdr w6 g A n c M') (hg : wf.heap[g]? = w6.heap[g]?) (hK : Kp g w wf) : Rdr wf g A n c M' := by
  obtain ⟨p, h0, h1, hb⟩ := h6.ex
  exact ⟨⟨p, h0, h1, by unfold RdB at hb ⊢; rw [hg]; exact hb⟩, h.code.keep (fun k hk hne => hK.block k hk (fun e => hne (by injection e))), h.n2000⟩
theorem drawnP {g : Nat} {A : Option Addr} {n c M M' : Nat} {w w6 : World} (h : Rdr w g A n c M) (h6 : Rdr w6 g A n c M') (hK : Kp g w w6) (b : Bool) (f p v s : Int) (hM : M' ≤ M + 9) :
    DrawnP g A n c (M + 9) w (.returned (.agg #[.bool b, .int .i64 f, .int .i64 p, .int .i64 v, .int .i64 s])) (set5 w6 w.heap.size (.bool b) (.int .i64 f) (.int .i64 p) (.int .i64 v) (.int .i64 s)) := by
  have hk := kp_set5 hK (Nat.le_refl _) (.bool b) (.int .i64 f) (.int .i64 p) (.int .i64 v) (.int .i64 s)
  have hg := h.lt
  exact ⟨⟨b, f, p, v, s⟩, rfl, (h.final h6 (heap_set5 (by omega) _ _ _ _ _) hk).mono hM, hk⟩

set_option maxRecDepth 100000 in
set_option maxHeartbeats 4000000 in
theorem page_any (g : Nat) (A : Option Addr) (n c M : Nat) (N : Int) (w : World) (h : Rdr w g A n c M) (hM : M ≤ 50000) (hN : 0 < N) (hN2 : N ≤ 1000) :
    Calls Try.prog 61 #[.pointer (some ⟨g, 0, none⟩), .int .i64 N] w (DrawnP g A n c (M + 9) w) := by
  have hg := h.lt
  go_enter Try.func61, Try.ntmps61
  go_wp2_with fail
  refine (odd_any g A n c M N _ (h.keep (bel_1 _ _)) (by omega) hN hN2).mono ?_
  rintro e w1 ⟨b, rfl, hR1, hK1⟩
  have hg1 := hR1.lt
  have hc1 := kcell hK1 (b := w.heap.size) (by simp) (by omega)
  have hf1 := kfroz hK1 (b := w.heap.size) (by simp) (by omega)
  have hz1 : w.heap.size < w1.heap.size := by have := hK1.size; (try simp at this); omega
  cases b
  · go_wp2_with fail
    refine (pick_c g A n c (M + 1) 5 _ hR1 (by omega) (by omega)).mono ?_
    rintro e w2 ⟨r2, rfl, h20, h21, hR2, hK2⟩
    have hc2 := kcell hK2 (b := w.heap.size) (hz1) (by omega)
    have hf2 := kfroz hK2 (b := w.heap.size) (hz1) (by omega)
    have hz2 : w.heap.size < w2.heap.size := by have := hK2.size; (try simp at this); omega
    by_cases h0 : r2 = 0
    · subst h0
      go_wp2
      exact bodyPost_ret (v := .agg #[.bool false, .int .i64 0, .int .i64 0, .int .i64 0, .int .i64 0]) (by simp [results, Try.results61, go_sem, *]) rfl (drawnP h hR2 ((Kp.of_below (bel_1 _ _)).trans (hK1.trans hK2)) _ _ _ _ _ (by omega))
    · have h0b : (r2 == 0) = false := by simpa using h0
      clear h0
      go_wp2_with fail
      refine (pick_c g A n c (M + 1 + 1) 3 _ hR2 (by omega) (by omega)).mono ?_
      rintro e w3 ⟨r3, rfl, h30, h31, hR3, hK3⟩
      have hc3 := kcell hK3 (b := w.heap.size) (hz2) (by omega)
      have hf3 := kfroz hK3 (b := w.heap.size) (hz2) (by omega)
      have hz3 : w.heap.size < w3.heap.size := by have := hK3.size; (try simp at this); omega
      go_wp2_with fail
      refine (pick_c g A n c (M + 1 + 1 + 1) 3 _ hR3 (by omega) (by omega)).mono ?_
      rintro e w4 ⟨r4, rfl, h40, h41, hR4, hK4⟩
      have hc4 := kcell hK4 (b := w.heap.size) (hz3) (by omega)
      have hf4 := kfroz hK4 (b := w.heap.size) (hz3) (by omega)
      have hz4 : w.heap.size < w4.heap.size := by have := hK4.size; (try simp at this); omega
      go_wp2_with fail
      refine (pick_c g A n c (M + 1 + 1 + 1 + 1) 100 _ hR4 (by omega) (by omega)).mono ?_
      rintro e w5 ⟨r5, rfl, h50, h51, hR5, hK5⟩
      have hc5 := kcell hK5 (b := w.heap.size) (hz4) (by omega)
      have hf5 := kfroz hK5 (b := w.heap.size) (hz4) (by omega)
      have hz5 : w.heap.size < w5.heap.size := by have := hK5.size; (try simp at this); omega
      go_wp2_with fail
      refine (pick_c g A n c (M + 1 + 1 + 1 + 1 + 1) 9 _ hR5 (by omega) (by omega)).mono ?_
      rintro e w6 ⟨r6, rfl, h60, h61, hR6, hK6⟩
      have hc6 := kcell hK6 (b := w.heap.size) (hz5) (by omega)
      have hf6 := kfroz hK6 (b := w.heap.size) (hz5) (by omega)
      have hz6 : w.heap.size < w6.heap.size := by have := hK6.size; (try simp at this); omega
      go_wp2
      exact bodyPost_ret (v := .agg #[.bool true, .int .i64 r3, .int .i64 r4, .int .i64 r5, .int .i64 (1 + r6)]) (by simp [results, Try.results61, go_sem, *]) rfl (drawnP h hR6 ((Kp.of_below (bel_1 _ _)).trans (hK1.trans (hK2.trans (hK3.trans (hK4.trans (hK5.trans hK6)))))) _ _ _ _ _ (by omega))
  · go_wp2_with fail
    refine (pick_c g A n c (M + 1) 6 _ (hR1.keep (bel_1 _ _)) (by omega) (by omega)).mono ?_
    rintro e w2 ⟨r2, rfl, h20, h21, hR2, hK2⟩
    have hc2 := kcell hK2 (b := w.heap.size) (by simp; omega) (by omega)
    have hf2 := kfroz hK2 (b := w.heap.size) (by simp; omega) (by omega)
    have hz2 : w.heap.size < w2.heap.size := by have := hK2.size; (try simp at this); omega
    have hcA := kcell hK2 (b := w1.heap.size) (by simp) (by omega)
    have hr2 : r2 = 0 ∨ r2 = 1 ∨ r2 = 2 ∨ r2 = 3 ∨ r2 = 4 ∨ r2 = 5 := by omega
    rcases hr2 with rfl | rfl | rfl | rfl | rfl | rfl
    · go_wp2
      exact bodyPost_ret (v := .agg #[.bool false, .int .i64 0, .int .i64 0, .int .i64 1, .int .i64 0]) (by simp [results, Try.results61, go_sem, *]) rfl (drawnP h hR2 ((Kp.of_below (bel_1 _ _)).trans (hK1.trans ((Kp.of_below (bel_1 _ _)).trans hK2))) _ _ _ _ _ (by omega))
    · go_wp2
      exact bodyPost_ret (v := .agg #[.bool true, .int .i64 0, .int .i64 0, .int .i64 0, .int .i64 0]) (by simp [results, Try.results61, go_sem, *]) rfl (drawnP h hR2 ((Kp.of_below (bel_1 _ _)).trans (hK1.trans ((Kp.of_below (bel_1 _ _)).trans hK2))) _ _ _ _ _ (by omega))
    · go_wp2
      exact bodyPost_ret (v := .agg #[.bool true, .int .i64 8, .int .i64 0, .int .i64 0, .int .i64 1]) (by simp [results, Try.results61, go_sem, *]) rfl (drawnP h hR2 ((Kp.of_below (bel_1 _ _)).trans (hK1.trans ((Kp.of_below (bel_1 _ _)).trans hK2))) _ _ _ _ _ (by omega))
    · go_wp2
      exact bodyPost_ret (v := .agg #[.bool true, .int .i64 0, .int .i64 (-1), .int .i64 0, .int .i64 1]) (by simp [results, Try.results61, go_sem, *]) rfl (drawnP h hR2 ((Kp.of_below (bel_1 _ _)).trans (hK1.trans ((Kp.of_below (bel_1 _ _)).trans hK2))) _ _ _ _ _ (by omega))
    · go_wp2
      exact bodyPost_ret (v := .agg #[.bool true, .int .i64 0, .int .i64 0, .int .i64 10000, .int .i64 1]) (by simp [results, Try.results61, go_sem, *]) rfl (drawnP h hR2 ((Kp.of_below (bel_1 _ _)).trans (hK1.trans ((Kp.of_below (bel_1 _ _)).trans hK2))) _ _ _ _ _ (by omega))
    · go_wp2
      exact bodyPost_ret (v := .agg #[.bool true, .int .i64 0, .int .i64 0, .int .i64 0, .int .i64 1000001]) (by simp [results, Try.results61, go_sem, *]) rfl (drawnP h hR2 ((Kp.of_below (bel_1 _ _)).trans (hK1.trans ((Kp.of_below (bel_1 _ _)).trans hK2))) _ _ _ _ _ (by omega))


def GotP (w : World) (e : Ending) (w' : World) : Prop := ∃ p : Pg, e = .returned p.val ∧ Below w.heap.size w w'
def GotPP (w : World) (e : Ending) (w' : World) : Prop := ∃ p q : Pg, e = .returned (.tuple #[p.val, q.val]) ∧ Below w.heap.size w w'
theorem bel_set5 {B b : Nat} {a w : World} (h : Below B a w) (hb : B ≤ b) (v0 v1 v2 v3 v4 : Value) : Below B a (set5 w b v0 v1 v2 v3 v4) := bel_s5 h hb v0 v1 v2 v3 v4


end Go.Proofs.Yteekikaebmkioaa
