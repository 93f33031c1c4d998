/- What the reference's draw of a block gives: a block that can be read, in new memory. -/
import Derived.Test.YteekikaebmkioaaDrawF
import Derived.Test.YteekikaebmkioaaCap
import Derived.Deep.DeepCutAuto
namespace Go.Proofs.Yteekikaebmkioaa
open Go.RowKit
set_option linter.unusedVariables false

/-- the walk's state in l20Block: the answer's box still empty, the block in box B, its pages in block q -/
structure BkSt (w wx : World) (g : Nat) (A : Option Addr) (n c M B : Nat) (z : Int) (q c' : Nat) (ps : List Pg) : Prop where
  rd : Rdr wx g A n c M
  kp : Kp g w wx
  r0 : wx.cell? ⟨w.heap.size, 0, none⟩ = some (.int .i64 0)
  r1 : wx.cell? ⟨w.heap.size, 1, none⟩ = some (.slice none 0 0)
  fr : ∀ j, wx.frozen? ⟨w.heap.size, j, none⟩ = false
  b0 : wx.cell? ⟨B, 0, none⟩ = some (.int .i64 z)
  b1 : wx.cell? ⟨B, 1, none⟩ = some (.slice (some ⟨q, 0, none⟩) 4 c')
  fb : ∀ j, wx.frozen? ⟨B, j, none⟩ = false
  hB : w.heap.size < B
  hBs : B < wx.heap.size
  hq : w.heap.size < q
  hqB : q ≠ B
  row : PgRow wx q 4 ps
  valid : blockValidF ⟨z, ps⟩ = true
  cap : 4 ≤ c'
theorem BkSt.mono {w wx : World} {g n c M M' B q c' : Nat} {A : Option Addr} {z : Int} {ps : List Pg} (h : BkSt w wx g A n c M B z q c' ps) (hM : M ≤ M') : BkSt w wx g A n c M' B z q c' ps :=
  { h with rd := h.rd.mono hM }
/-- the state behind more calls that ask the reader -/
theorem BkSt.step {w wx wy : World} {g n c M M' B q c' : Nat} {A : Option Addr} {z : Int} {ps : List Pg} (h : BkSt w wx g A n c M B z q c' ps) (hg : g < w.heap.size) (hK : Kp g wx wy) (hR : Rdr wy g A n c M') : BkSt w wy g A n c M' B z q c' ps :=
  { rd := hR, kp := h.kp.trans hK, r0 := (hK.cell (by have := h.kp.size; have := h.hB; have := h.hBs; omega) (by omega)).trans h.r0, r1 := (hK.cell (by have := h.hB; have := h.hBs; omega) (by omega)).trans h.r1,
    fr := fun j => (kfroz hK (by have := h.hB; have := h.hBs; omega) (by omega) j).trans (h.fr j), b0 := (hK.cell h.hBs (by have := h.hB; omega)).trans h.b0, b1 := (hK.cell h.hBs (by have := h.hB; omega)).trans h.b1,
    fb := fun j => (kfroz hK h.hBs (by have := h.hB; omega) j).trans (h.fb j), hB := h.hB, hBs := Nat.lt_of_lt_of_le h.hBs hK.size, hq := h.hq, hqB := h.hqB, row := h.row.keepK hK (by have := h.hq; omega), valid := h.valid, cap := h.cap }
/-- a new block stored into box B -/
theorem BkSt.put {w wx : World} {g n c M B q c' : Nat} {A : Option Addr} {z : Int} {ps : List Pg} {M0 : Nat} (h0 : Rdr w g A n c M0) (h : BkSt w wx g A n c M B z q c' ps) {z2 : Int} {q2 c2 : Nat} {ps2 : List Pg} (hrow : PgRow wx q2 4 ps2) (hq2 : w.heap.size < q2) (hqB : q2 ≠ B) (hv : blockValidF ⟨z2, ps2⟩ = true) (hc : 4 ≤ c2) :
    BkSt w ((wx.setCell ⟨B, 0, none⟩ (.int .i64 z2)).setCell ⟨B, 1, none⟩ (.slice (some ⟨q2, 0, none⟩) 4 c2)) g A n c M B z2 q2 c2 ps2 := by
  have hB := h.hB
  have hBs := h.hBs
  have hw : w.heap.size < wx.heap.size := by omega
  have ne0 : ∀ (j o : Nat), (⟨B, j, none⟩ : Addr) ≠ ⟨w.heap.size, o, none⟩ := fun j o e => by injection e with e1; omega
  have hg := h0.lt
  have kk : Kp g w ((wx.setCell ⟨B, 0, none⟩ (.int .i64 z2)).setCell ⟨B, 1, none⟩ (.slice (some ⟨q2, 0, none⟩) 4 c2)) := (h.kp.setCell (p := ⟨B, 0, none⟩) (Or.inr (Nat.le_of_lt hB)) _).setCell (p := ⟨B, 1, none⟩) (Or.inr (Nat.le_of_lt hB)) _
  have hkeep : ∀ k, k < wx.heap.size → k ≠ B → ((wx.setCell ⟨B, 0, none⟩ (.int .i64 z2)).setCell ⟨B, 1, none⟩ (.slice (some ⟨q2, 0, none⟩) 4 c2)).heap[k]? = wx.heap[k]? := fun k _ hk => by
    rw [Below.heap_setCell _ _ _ _ hk, Below.heap_setCell _ _ _ _ hk]
  refine { rd := h0.final h.rd (hkeep g (by omega) (by omega)) kk, kp := kk, r0 := ?_, r1 := ?_, fr := fun j => ?_, b0 := ?_, b1 := ?_, fb := fun j => ?_, hB := hB, hBs := by simpa [World.size_setCell] using hBs, hq := hq2, hqB := hqB, row := (hrow.setOther (a := ⟨B, 0, none⟩) (Ne.symm hqB) _).setOther (a := ⟨B, 1, none⟩) (Ne.symm hqB) _, valid := hv, cap := hc }
  · rw [World.cell?_setCell_other _ _ _ _ (ne0 _ _), World.cell?_setCell_other _ _ _ _ (ne0 _ _)]; exact h.r0
  · rw [World.cell?_setCell_other _ _ _ _ (ne0 _ _), World.cell?_setCell_other _ _ _ _ (ne0 _ _)]; exact h.r1
  · rw [World.frozen?_setCell, World.frozen?_setCell]; exact h.fr j
  · rw [World.cell?_setCell_other _ _ _ _ (by simp), World.cell?_setCell_same _ _ _ h.b0]
  · rw [World.cell?_setCell_same _ _ _ ((World.cell?_setCell_other _ _ _ _ (by simp)).trans h.b1)]
  · rw [World.frozen?_setCell, World.frozen?_setCell]; exact h.fb j

/-- a store into box B -/
theorem BkSt.poke {w wx : World} {g n c M B q c' M0 : Nat} {A : Option Addr} {z : Int} {ps : List Pg} (h : BkSt w wx g A n c M B z q c' ps) (h0 : Rdr w g A n c M0) (j : Nat) (v : Value) :
    Rdr (wx.setCell ⟨B, j, none⟩ v) g A n c M ∧ Kp g w (wx.setCell ⟨B, j, none⟩ v) ∧ PgRow (wx.setCell ⟨B, j, none⟩ v) q 4 ps := by
  have hg := h0.lt
  have hB := h.hB
  have kk : Kp g w (wx.setCell ⟨B, j, none⟩ v) := h.kp.setCell (p := ⟨B, j, none⟩) (Or.inr (Nat.le_of_lt hB)) _
  exact ⟨h0.final h.rd (Below.heap_setCell _ _ _ _ (by simp; omega)) kk, kk, h.row.setOther (a := ⟨B, j, none⟩) (Ne.symm h.hqB) _⟩
theorem heap_s5 {w : World} {q o k : Nat} {p : Pg} (hk : k ≠ q) : (s5 w q o p).heap[k]? = w.heap[k]? := by
  unfold s5
  rw [Below.heap_setCell _ _ _ _ hk, Below.heap_setCell _ _ _ _ hk, Below.heap_setCell _ _ _ _ hk, Below.heap_setCell _ _ _ _ hk, Below.heap_setCell _ _ _ _ hk]
theorem kp_s5 {g q o : Nat} {a w : World} (h : Kp g a w) (hq : a.heap.size ≤ q) (p : Pg) : Kp g a (s5 w q o p) := by
  unfold s5
  exact ((((h.setCell (p := ⟨q, o, none⟩) (.inr hq) _).setCell (p := ⟨q, o + 1, none⟩) (.inr hq) _).setCell (p := ⟨q, o + 2, none⟩) (.inr hq) _).setCell (p := ⟨q, o + 3, none⟩) (.inr hq) _).setCell (p := ⟨q, o + 4, none⟩) (.inr hq) _
/-- a page stored into the block's pages -/
theorem BkSt.page {w wx : World} {g n c M B q c' M0 : Nat} {A : Option Addr} {z : Int} {ps : List Pg} (h : BkSt w wx g A n c M B z q c' ps) (h0 : Rdr w g A n c M0) (y : Nat) (hy : y < 4) (p : Pg) :
    Rdr (s5 wx q (y * 5) p) g A n c M ∧ Kp g w (s5 wx q (y * 5) p) ∧ PgRow (s5 wx q (y * 5) p) q 4 (ps.set y p) := by
  have hg := h0.lt
  have hq := h.hq
  have kk := kp_s5 (o := y * 5) h.kp (Nat.le_of_lt hq) p
  exact ⟨h0.final h.rd (heap_s5 (by omega)) kk, kk, h.row.set hy p⟩
def two5 (w : World) (q : Nat) : World :=
  (((((((((w.setCell ⟨q, 0, none⟩ (.bool false)).setCell ⟨q, 1, none⟩ (.int .i64 0)).setCell ⟨q, 2, none⟩ (.int .i64 0)).setCell ⟨q, 3, none⟩ (.int .i64 0)).setCell ⟨q, 4, none⟩ (.int .i64 0)).setCell ⟨q, 5, none⟩ (.bool true)).setCell ⟨q, 6, none⟩ (.int .i64 0)).setCell ⟨q, 7, none⟩ (.int .i64 0)).setCell ⟨q, 8, none⟩ (.int .i64 0)).setCell ⟨q, 9, none⟩ (.int .i64 1)
theorem two5_eq (w : World) (q : Nat) : two5 w q = s5 (s5 w q 0 Pg.zero) q 5 ⟨true, 0, 0, 0, 1⟩ := by unfold s5 two5; rfl
theorem BkSt.two {w wx : World} {g n c M B q c' M0 : Nat} {A : Option Addr} {z : Int} {ps : List Pg} (h : BkSt w wx g A n c M B z q c' ps) (h0 : Rdr w g A n c M0) :
    Rdr (two5 wx q) g A n c M ∧ Kp g w (two5 wx q) ∧ PgRow (two5 wx q) q 4 ((ps.set 0 Pg.zero).set 1 ⟨true, 0, 0, 0, 1⟩) := by
  have hg := h0.lt
  have hq := h.hq
  rw [two5_eq]
  have kk := kp_s5 (o := 5) (kp_s5 (o := 0) h.kp (Nat.le_of_lt hq) Pg.zero) (Nat.le_of_lt hq) ⟨true, 0, 0, 0, 1⟩
  exact ⟨h0.final h.rd ((heap_s5 (by omega)).trans (heap_s5 (by omega))) kk, kk, (h.row.set (k := 0) (by omega) Pg.zero).set (k := 1) (by omega) ⟨true, 0, 0, 0, 1⟩⟩
/-- a block written anew, in box X -/
def NewB (w wx : World) (X B : Nat) (z : Int) (q c : Nat) (ps : List Pg) : Prop :=
  wx.cell? ⟨X, 0, none⟩ = some (.int .i64 z) ∧ wx.cell? ⟨X, 1, none⟩ = some (.slice (some ⟨q, 0, none⟩) 4 c) ∧ PgRow wx q 4 ps ∧ w.heap.size < q ∧ q ≠ B ∧ blockValidF ⟨z, ps⟩ = true ∧ 4 ≤ c ∧ w.heap.size < X ∧ X ≠ B
theorem kcellB {g : Nat} {a w : World} (h : Kp g a w) : (∀ b o, b < a.heap.size ∧ b ≠ g → w.cell? ⟨b, o, none⟩ = a.cell? ⟨b, o, none⟩) ∧ ∀ b o, b < a.heap.size ∧ b ≠ g → w.frozen? ⟨b, o, none⟩ = a.frozen? ⟨b, o, none⟩ :=
  ⟨fun b o hb => h.cell hb.1 hb.2, fun b o hb => kfroz h hb.1 hb.2 o⟩
theorem leafK {g : Nat} {W X : World} (h : Kp g W X) : ∃ Y, Y = X := ⟨_, rfl⟩
theorem kp_swap {g : Nat} {W w' : World} {o : Obj} (h : Kp g W (w'.alloc o)) (hB : W.heap.size ≤ w'.heap.size) (o' : Obj) : Kp g W (w'.alloc o') :=
  ⟨h.os, h.tape, h.output, by have := h.size; simpa using this, fun k hk hne => by
    rw [Below.heap_alloc _ _ _ (by omega), ← Below.heap_alloc w' o k (by omega)]; exact h.block k hk hne⟩
theorem frozen_alloc_past (w : World) (o : Obj) (b j : Nat) (hb : b < w.heap.size) : (w.alloc o).frozen? ⟨b, j, none⟩ = w.frozen? ⟨b, j, none⟩ := ((Below.refl w.heap.size w).alloc (Nat.le_refl _) o).frozen (p := ⟨b, j, none⟩) hb
/-- a block that can be read, the reader asked at most M times -/
def DrawnB (g : Nat) (A : Option Addr) (n c M : Nat) (w : World) (e : Ending) (w' : World) : Prop :=
  ∃ (z : Int) (A' : Option Addr) (m c' : Nat) (ps : List Pg), e = .returned (.agg #[.int .i64 z, .slice A' m c']) ∧ m ≤ c' ∧ PgsFr w' (w.heap.size + 1) A' m ps ∧ Rdr w' g A n c M ∧ Kp g w w'
/-- the answer, stored into its box -/
theorem drawnB {w wx : World} {g n c M M' : Nat} {A : Option Addr} (h0 : Rdr w g A n c M) (hR : Rdr wx g A n c M') (hK : Kp g w wx) {z : Int} {A' : Option Addr} {m c' : Nat} {ps : List Pg} (hP : PgsFr wx (w.heap.size + 1) A' m ps) (hmc : m ≤ c') (N : Nat) (hN : M' ≤ N) :
    DrawnB g A n c N w (.returned (.agg #[.int .i64 z, .slice A' m c'])) ((wx.setCell ⟨w.heap.size, 0, none⟩ (.int .i64 z)).setCell ⟨w.heap.size, 1, none⟩ (.slice A' m c')) := by
  have hg := h0.lt
  have kk : Kp g w ((wx.setCell ⟨w.heap.size, 0, none⟩ (.int .i64 z)).setCell ⟨w.heap.size, 1, none⟩ (.slice A' m c')) := (hK.setCell (p := ⟨w.heap.size, 0, none⟩) (Or.inr (Nat.le_refl _)) _).setCell (p := ⟨w.heap.size, 1, none⟩) (Or.inr (Nat.le_refl _)) _
  exact ⟨z, A', m, c', ps, rfl, hmc, (hP.setLow (a := ⟨w.heap.size, 0, none⟩) (Nat.lt_succ_self _) _).setLow (a := ⟨w.heap.size, 1, none⟩) (Nat.lt_succ_self _) _, (h0.final hR (by rw [Below.heap_setCell _ _ _ _ (by simp; omega), Below.heap_setCell _ _ _ _ (by simp; omega)]) kk).mono hN, kk⟩
theorem wb_val (b : Bl) (p : Pg) (hv : blockValidF b = true) (hp : pageValidF p = true) (hf : p.full = true) : blockValidF (writeBlockF b p).1 = true ∧ (writeBlockF b p).1.wear = b.wear := by
  by_cases h0 : 0 ≤ blockNextF b
  · obtain ⟨k, hk⟩ : ∃ k : Nat, blockNextF b = (k : Int) := ⟨(blockNextF b).toNat, by omega⟩
    rw [wb_4 b p k hv hp hf hk]
    exact ⟨bv_put b p k hv hp hf hk, rfl⟩
  · rw [wb_5 b p _ hv hp hf rfl h0]
    exact ⟨hv, rfl⟩
theorem bv_zero4 (x : Int) (h : 0 ≤ x ∧ x ≤ 100) : blockValidF ⟨x, [Pg.zero, Pg.zero, Pg.zero, Pg.zero]⟩ = true := by
  refine bv_mk x _ h rfl fun i hi => ?_
  have e : pgAt [Pg.zero, Pg.zero, Pg.zero, Pg.zero] i = Pg.zero := by
    match i, hi with
    | 0, _ => rfl
    | 1, _ => rfl
    | 2, _ => rfl
    | 3, _ => rfl
  rw [e]
  exact ⟨pv_zero, fun _ h => by cases h⟩

set_option maxRecDepth 100000 in
set_option maxHeartbeats 8000000 in
theorem block_any (g : Nat) (A : Option Addr) (n c M : Nat) (N : Int) (w : World) (h : Rdr w g A n c M) (hM : M ≤ 40000) (hN : 0 < N) (hN2 : N ≤ 1000) :
    Calls Try.prog 55 #[.pointer (some ⟨g, 0, none⟩), .int .i64 N] w (DrawnB g A n c (M + 40) w) := by
  have hg := h.lt
  go_enter Try.func55, Try.ntmps55
  go_upto_region 1 with fail
  go_cut [5] (fun x5 wx => ∃ (B : Nat) (z : Int) (q c' : Nat) (ps : List Pg), x5 = .pointer (some ⟨B, 0, none⟩) ∧ BkSt w wx g A n c (M + 2) B z q c' ps)
  case first =>
    go_wp2_with fail
    refine (pick_c g A n c M 9 _ (h.keep (bel_1 _ _)) (by omega) (by omega)).mono ?_
    rintro e w1 ⟨s1, rfl, h10, h11, hR1, hK1⟩
    have hc1 := kcell hK1 (b := w.heap.size) (by simp) (by omega)
    have hf1 := kfroz hK1 (b := w.heap.size) (by simp) (by omega)
    have hz1 : w.heap.size < w1.heap.size := by have := hK1.size; (try simp at this); omega
    go_wp2_with fail
    refine (pick_c g A n c (M + 1) 7 _ (hR1.keep (bel_2 _ _ _)) (by omega) (by omega)).mono ?_
    rintro e w2 ⟨s2, rfl, h20, h21, hR2, hK2⟩
    have hcA := kcell hK2 (b := w1.heap.size) (by simp; omega) (by omega)
    have hcB := kcell hK2 (b := w1.heap.size + 1) (by simp) (by omega)
    have hc2 := kcell hK2 (b := w.heap.size) (by simp; omega) (by omega)
    have hf2 := kfroz hK2 (b := w.heap.size) (by simp; omega) (by omega)
    have hz2 : w1.heap.size + 1 < w2.heap.size := by have := hK2.size; (try simp at this); omega
    have hz3 : w.heap.size < w2.heap.size := by omega
    have KK : Kp g w w2 := (Kp.of_below (bel_1 _ _)).trans (hK1.trans ((Kp.of_below (bel_2 _ _ _)).trans hK2))
    have e0 : w2.cell? ⟨w.heap.size, 0, none⟩ = some (.int .i64 0) := by rw [hc2, World.cell?_alloc_past _ _ _ (by simp; omega), World.cell?_alloc_past _ _ _ hz1, hc1]; simp [go_sem]
    have e1 : w2.cell? ⟨w.heap.size, 1, none⟩ = some (.slice none 0 0) := by rw [hc2, World.cell?_alloc_past _ _ _ (by simp; omega), World.cell?_alloc_past _ _ _ hz1, hc1]; simp [go_sem]
    have ef : ∀ j, w2.frozen? ⟨w.heap.size, j, none⟩ = false := fun j => by rw [hf2, frozen_alloc_past _ _ _ _ (by simp; omega), frozen_alloc_past _ _ _ _ hz1, hf1]; simp [go_sem]
    have fin : ∀ (x : Int) (w3 w4 : World) (q c' : Nat) (hx : 0 ≤ x ∧ x ≤ 100) (hc : 4 ≤ c') (hq : w2.heap.size ≤ q) (hrow : PgRow w3 q 4 [Pg.zero, Pg.zero, Pg.zero, Pg.zero]) (hb : Below w2.heap.size w2 w3) (e4 : w4 = w3.alloc (.cells #[.int .i64 x, .slice (some ⟨q, 0, none⟩) 4 c'] 25)),
        BkSt w w4 g A n c (M + 2) w3.heap.size x q c' [Pg.zero, Pg.zero, Pg.zero, Pg.zero] := fun x w3 w4 q c' hx hc hq hrow hb e4 => by
      have hbb : Below w2.heap.size w2 w4 := by rw [e4]; exact bel_t hb (bel_1 _ _)
      have hs := hb.size
      exact { rd := hR2.keep hbb, kp := KK.trans (Kp.of_below hbb), r0 := stays_below hbb _ _ _ e0, r1 := stays_below hbb _ _ _ e1, fr := fun j => ((bcell hbb).2 _ _ hz3).trans (ef j), b0 := (by rw [e4]; simp [go_sem]), b1 := (by rw [e4]; simp [go_sem]), fb := (fun j => by rw [e4]; simp [go_sem]), hB := (by omega), hBs := (by rw [e4]; simp), hq := (by omega), hqB := (by have := hrow.2.1; omega), row := (by rw [e4]; exact hrow.keep (bel_1 _ _)), valid := bv_zero4 x hx, cap := hc }
    have hs2 : s2 = 0 ∨ s2 = 1 ∨ s2 = 2 ∨ s2 = 3 ∨ s2 = 4 ∨ s2 = 5 ∨ s2 = 6 := by omega
    have FIN := Lib.hid fin
    clear fin ef e0 e1
    rcases hs2 with rfl | rfl | rfl | rfl | rfl | rfl | rfl
    all_goals
      go_wp2_with fail
      refine (sNewBlockC _ (by omega) _).mono ?_
      rintro e w3 ⟨q, c', rfl, hc4, hq, hrow, hb3⟩
      go_wp2_with fail
      go_meet
      exact ⟨_, _, q, c', _, rfl, FIN.out _ w3 _ q c' (by omega) hc4 hq hrow hb3 rfl⟩
  case rest =>
    obtain ⟨B, z0, q0, c0, ps0, rfl, HS0⟩ := hcut
    obtain ⟨w1, rfl⟩ : ∃ x, x = wc := ⟨_, rfl⟩
    have HS1 := Lib.hid HS0
    clear HS0
    go_wp2_with fail
    refine (pick_c g A n c (M + 2) 6 _ HS1.out.rd (by omega) (by omega)).mono ?_
    rintro e w2 ⟨k0, rfl, hk0, hk1, hR2, hK2⟩
    have HS2 := Lib.hid (HS1.out.step hg hK2 hR2)
    clear hR2 hK2 HS1
    obtain ⟨i0, rfl⟩ : ∃ i0 : Nat, k0 = (i0 : Int) := ⟨k0.toNat, by omega⟩
    have hi0 : i0 ≤ 5 := by omega
    clear hk0 hk1
    go_wp2_with fail
    go_loopw [6] (fun x6 wr => ∃ (i : Nat) (z : Int) (q c' : Nat) (ps : List Pg), i ≤ 5 ∧ x6 = .int .i64 (i : Int) ∧ Hid (BkSt w wr g A n c (M + 3 + 4 * (5 - i)) B z q c' ps)) (fun x6 _ => (intOf x6).toNat)
    case atStart => exact ⟨i0, z0, q0, c0, ps0, hi0, rfl, Lib.hid (HS2.out.mono (by omega))⟩
    case round =>
      obtain ⟨i, z, q, c', ps, hi, rfl, HS⟩ := hrel
      by_cases hi0 : i = 0
      · subst hi0
        go_wp2_with fail
        refine (odd_any g A n c (M + 3 + 4 * (5 - 0)) N _ HS.out.rd (by omega) hN hN2).mono ?_
        rintro e w3 ⟨b, rfl, hR3, hK3⟩
        have HS3 := Lib.hid (HS.out.step hg hK3 hR3)
        clear hR3 hK3 HS HS2
        cases b
        · skip
          have r0 := HS3.out.r0
          have r1 := HS3.out.r1
          have f0 := HS3.out.fr 0
          have f1 := HS3.out.fr 1
          have b0 := HS3.out.b0
          have b1 := HS3.out.b1
          have fb0 := HS3.out.fb 0
          have fb1 := HS3.out.fb 1
          have hB := HS3.out.hB
          have hBs := HS3.out.hBs
          have nB1 : ¬ B = w.heap.size := by omega
          have nB2 : ¬ w.heap.size = B := by omega
          go_wp2
          refine bodyPost_ret (v := .agg #[.int .i64 z, .slice (some ⟨q, 0, none⟩) 4 c']) (by simp [results, Try.results55, go_sem, r0, r1]) rfl ?_
          exact drawnB h HS3.out.rd HS3.out.kp (HS3.out.row.fr HS3.out.hq) HS3.out.cap _ (by omega)
        · go_wp2_with fail
          refine (pick_c g A n c (M + 3 + 4 * (5 - 0) + 1) 4 _ HS3.out.rd (by omega) (by omega)).mono ?_
          rintro e w4 ⟨s4, rfl, h40, h41, hR4, hK4⟩
          have HS4 := Lib.hid (HS3.out.step hg hK4 hR4)
          clear hR4 hK4 HS3
          have hs4 : s4 = 0 ∨ s4 = 1 ∨ s4 = 2 ∨ s4 = 3 := by omega
          rcases hs4 with rfl | rfl | rfl | rfl
          · go_wp2_with fail
            have hz4 : w.heap.size < w4.heap.size := Nat.lt_trans HS4.out.hB HS4.out.hBs
            refine (pick_c g A n c (M + 3 + 4 * (5 - 0) + 1 + 1) 2 _ (HS4.out.rd.keep (bel_1 _ _)) (by omega) (by omega)).mono ?_
            rintro e w5 ⟨s5, rfl, h50, h51, hR5, hK5⟩
            have hcA := kcell hK5 (b := w4.heap.size) (by simp) (by omega)
            have HS5 := Lib.hid (HS4.out.step hg ((Kp.of_below (bel_1 _ _)).trans hK5) hR5)
            clear hR5 hK5 HS4
            have hs5 : s5 = 0 ∨ s5 = 1 := by omega
            have r0 := HS5.out.r0
            have r1 := HS5.out.r1
            have f0 := HS5.out.fr 0
            have f1 := HS5.out.fr 1
            have b0 := HS5.out.b0
            have b1 := HS5.out.b1
            have fb0 := HS5.out.fb 0
            have fb1 := HS5.out.fb 1
            have hB := HS5.out.hB
            have hBs := HS5.out.hBs
            have nB1 : ¬ B = w.heap.size := by omega
            have nB2 : ¬ w.heap.size = B := by omega
            rcases hs5 with rfl | rfl
            · skip
              obtain ⟨k1, k2, k3⟩ := HS5.out.poke h 0 (.int .i64 (-1))
              have KR := Lib.hid k1
              have KK := Lib.hid k2
              have KP := Lib.hid k3
              clear k1 k2 k3
              go_wp2
              refine bodyPost_ret (v := .agg #[.int .i64 (-1), .slice (some ⟨q, 0, none⟩) 4 c']) (by simp [results, Try.results55, go_sem, r0, r1]) rfl ?_
              exact drawnB h KR.out KK.out (KP.out.fr HS5.out.hq) HS5.out.cap _ (by omega)
            · skip
              obtain ⟨k1, k2, k3⟩ := HS5.out.poke h 0 (.int .i64 101)
              have KR := Lib.hid k1
              have KK := Lib.hid k2
              have KP := Lib.hid k3
              clear k1 k2 k3
              go_wp2
              refine bodyPost_ret (v := .agg #[.int .i64 101, .slice (some ⟨q, 0, none⟩) 4 c']) (by simp [results, Try.results55, go_sem, r0, r1]) rfl ?_
              exact drawnB h KR.out KK.out (KP.out.fr HS5.out.hq) HS5.out.cap _ (by omega)
          · skip
            have r0 := HS4.out.r0
            have r1 := HS4.out.r1
            have f0 := HS4.out.fr 0
            have f1 := HS4.out.fr 1
            have b0 := HS4.out.b0
            have b1 := HS4.out.b1
            have fb0 := HS4.out.fb 0
            have fb1 := HS4.out.fb 1
            have hB := HS4.out.hB
            have hBs := HS4.out.hBs
            have nB1 : ¬ B = w.heap.size := by omega
            have nB2 : ¬ w.heap.size = B := by omega
            have hcap := HS4.out.cap
            have hcI : (4 : Int) ≤ (c' : Int) := by omega
            have hc1 : ¬ c' = 1 := by omega
            obtain ⟨k1, k2, k3⟩ := HS4.out.poke h 1 (.slice (some ⟨q, 5, none⟩) 3 (c' - 1))
            have KR := Lib.hid k1
            have KK := Lib.hid k2
            have KP := Lib.hid k3
            clear k1 k2 k3
            go_wp2
            refine bodyPost_ret (v := .agg #[.int .i64 z, .slice (some ⟨q, 5, none⟩) 3 (c' - 1)]) (by simp [results, Try.results55, go_sem, r0, r1]) rfl ?_
            exact drawnB h KR.out KK.out (KP.out.fr_tail HS4.out.hq) (by omega) _ (by omega)
          · skip
            have r0 := HS4.out.r0
            have r1 := HS4.out.r1
            have f0 := HS4.out.fr 0
            have f1 := HS4.out.fr 1
            have b0 := HS4.out.b0
            have b1 := HS4.out.b1
            have fb0 := HS4.out.fb 0
            have fb1 := HS4.out.fb 1
            have hB := HS4.out.hB
            have hBs := HS4.out.hBs
            have nB1 : ¬ B = w.heap.size := by omega
            have nB2 : ¬ w.heap.size = B := by omega
            obtain ⟨e0, e1, e2, e3, e4⟩ := HS4.out.row.2.2.1 0 (by omega)
            obtain ⟨d0, d1, d2, d3, d4⟩ := HS4.out.row.2.2.1 1 (by omega)
            simp only [Nat.zero_mul, Nat.one_mul, Nat.zero_add, Nat.reduceAdd] at e0 e1 e2 e3 e4 d0 d1 d2 d3 d4
            have u0 := HS4.out.row.2.2.2 0
            have u1 := HS4.out.row.2.2.2 1
            have u2 := HS4.out.row.2.2.2 2
            have u3 := HS4.out.row.2.2.2 3
            have u4 := HS4.out.row.2.2.2 4
            have u5 := HS4.out.row.2.2.2 5
            have u6 := HS4.out.row.2.2.2 6
            have u7 := HS4.out.row.2.2.2 7
            have u8 := HS4.out.row.2.2.2 8
            have u9 := HS4.out.row.2.2.2 9
            have hqB := HS4.out.hqB
            have hqw := HS4.out.hq
            have nq1 : ¬ q = w.heap.size := by omega
            have nq2 : ¬ w.heap.size = q := by omega
            have nq3 : ¬ B = q := fun e => hqB e.symm
            obtain ⟨k1, k2, k3⟩ := HS4.out.two h
            have KR := Lib.hid k1
            have KK := Lib.hid k2
            have KP := Lib.hid k3
            clear k1 k2 k3
            go_wp2
            refine bodyPost_ret (v := .agg #[.int .i64 z, .slice (some ⟨q, 0, none⟩) 4 c']) (by simp [results, Try.results55, go_sem, r0, r1]) rfl ?_
            exact drawnB h KR.out KK.out (KP.out.fr HS4.out.hq) HS4.out.cap _ (by omega)
          · go_wp2_with fail
            have HSD : Hid (BkSt w w4.drew g A n c (M + 3 + 4 * (5 - 0) + 1 + 1) B z q c' ps) := Lib.hid (HS4.out.step hg ((Kp.refl g w4).drewN 1) (HS4.out.rd.keep (Below.refl _ _).drew))
            refine reg_beginS (S := fun w' => w'.cell? ⟨B, 1, none⟩ = some (.slice (some ⟨q, 0, none⟩) 4 c')) HS4.out.b1 (by kernel_rfl) (fun hHeld => ?_)
            refine reg_take 0 42 (v := ?_) rfl rfl (by kernel_rfl) (by kernel_rfl) (by kernel_rfl) (fun _ _ _ h => h) (Or.inl ⟨by rfl, ?_⟩) hHeld ?_
            rotate_left 1
            · intro wS hSw; go_simp <;> with_reducible rfl
            simp only [put_lit, List.set_cons_zero, List.set_cons_succ]
            refine reg_take 1 43 (v := ?_) rfl rfl (by kernel_rfl) (by kernel_rfl) (by kernel_rfl) (fun _ _ _ h => h) (Or.inl ⟨by rfl, ?_⟩) hHeld ?_
            rotate_left 1
            · intro wS hSw; have hqS := hSw; go_simp <;> with_reducible rfl
            simp only [put_lit, List.set_cons_zero, List.set_cons_succ]
            refine reg_take 2 44 (v := ?_) rfl rfl (by kernel_rfl) (by kernel_rfl) (by kernel_rfl) (fun _ _ _ h => h) (Or.inl ⟨by rfl, ?_⟩) hHeld ?_
            rotate_left 1
            · intro wS hSw; go_simp <;> with_reducible rfl
            simp only [put_lit, List.set_cons_zero, List.set_cons_succ]
            refine reg_take 4 46 (v := ?_) rfl rfl (by kernel_rfl) (by kernel_rfl) (by kernel_rfl) (fun _ _ _ h => h) (Or.inl ⟨by rfl, ?_⟩) hHeld ?_
            rotate_left 1
            · intro wS hSw; go_simp <;> with_reducible rfl
            simp only [put_lit, List.set_cons_zero, List.set_cons_succ]
            refine wpAnyH_ready (rs := [3]) (by kernel_rfl) (by simp) ?_
            refine AllReadyH.cons rfl (fun K hK => ?_) AllReadyH.nil
            go_simp
            refine (pick_c g A n c (M + 3 + 4 * (5 - 0) + 1 + 1) 4 _ HSD.out.rd (by omega) (by omega)).mono ?_
            rintro e wp1 ⟨s5, rfl, h50, h51, hR5, hK5⟩
            have HS5 := Lib.hid (HSD.out.step hg hK5 hR5)
            clear hR5 hK5
            obtain ⟨y, rfl⟩ : ∃ y : Nat, s5 = (y : Int) := ⟨s5.toNat, by omega⟩
            go_wp2_with fail
            refine hK.out _ _ ?_ (fun hHeld => ?_)
            · exact HS5.out.b1
            clear hK K
            (try simp only [put_lit, List.set_cons_zero, List.set_cons_succ])
            refine wpAnyH_ready (rs := [5]) (by kernel_rfl) (by simp) ?_
            refine AllReadyH.cons rfl (fun K hK => ?_) AllReadyH.nil
            go_simp
            refine (page_any g A n c (M + 3 + 4 * (5 - 0) + 1 + 1 + 1) 1 _ HS5.out.rd (by omega) (by omega) (by omega)).mono ?_
            rintro e wp2 ⟨⟨pf, pfi, ppl, pva, pst⟩, rfl, hR6, hK6⟩
            simp only [Pg.val]
            have HS6 := Lib.hid (HS5.out.step hg hK6 hR6)
            clear hR6 hK6
            have hy : y < 4 := by omega
            obtain ⟨e0, e1, e2, e3, e4⟩ := HS6.out.row.2.2.1 y hy
            have u0 := HS6.out.row.2.2.2 (y * 5)
            have u1 := HS6.out.row.2.2.2 (y * 5 + 1)
            have u2 := HS6.out.row.2.2.2 (y * 5 + 2)
            have u3 := HS6.out.row.2.2.2 (y * 5 + 3)
            have u4 := HS6.out.row.2.2.2 (y * 5 + 4)
            go_wp2_with fail
            refine hK.out _ _ ?_ (fun hHeld => ?_)
            · exact HS6.out.b1
            clear hK K
            (try simp only [put_lit, List.set_cons_zero, List.set_cons_succ])
            refine reg_take 6 48 (v := ?_) rfl rfl (by kernel_rfl) (by kernel_rfl) (by kernel_rfl) (fun _ _ _ h => h) (Or.inl ⟨by rfl, ?_⟩) hHeld ?_
            rotate_left 1
            · intro wS hSw; go_simp <;> with_reducible rfl
            simp only [put_lit, List.set_cons_zero, List.set_cons_succ]
            refine wpAnyH_ready (rs := [7]) (by kernel_rfl) (by simp) ?_
            refine AllReadyH.cons rfl (fun K hK => ?_) AllReadyH.nil
            go_simp
            refine hK.out _ _ ?_ (fun hHeld => ?_)
            · rw [s5_eq]; exact (cell_s5_other (Or.inl (Ne.symm HS6.out.hqB))).trans HS6.out.b1
            clear hK K
            (try simp only [put_lit, List.set_cons_zero, List.set_cons_succ])
            refine wpAnyH_done (by kernel_rfl) ?_ _
            have r0 := HS6.out.r0
            have r1 := HS6.out.r1
            have f0 := HS6.out.fr 0
            have f1 := HS6.out.fr 1
            have b0 := HS6.out.b0
            have b1 := HS6.out.b1
            have fb0 := HS6.out.fb 0
            have fb1 := HS6.out.fb 1
            have hB := HS6.out.hB
            have hBs := HS6.out.hBs
            have nB1 : ¬ B = w.heap.size := by omega
            have nB2 : ¬ w.heap.size = B := by omega
            have hqB := HS6.out.hqB
            have hqw := HS6.out.hq
            have nq1 : ¬ q = w.heap.size := by omega
            have nq2 : ¬ w.heap.size = q := by omega
            have nq3 : ¬ B = q := fun e => hqB e.symm
            obtain ⟨k1, k2, k3⟩ := HS6.out.page h y hy ⟨pf, pfi, ppl, pva, pst⟩
            have KR := Lib.hid k1
            have KK := Lib.hid k2
            have KP := Lib.hid k3
            clear k1 k2 k3
            go_wp2
            refine bodyPost_ret (v := .agg #[.int .i64 z, .slice (some ⟨q, 0, none⟩) 4 c']) (by simp [results, Try.results55, go_sem, r0, r1]) rfl ?_
            rw [s5_eq]
            exact drawnB h KR.out KK.out (KP.out.fr HS6.out.hq) HS6.out.cap _ (by omega)
      · have hiI : (0 : Int) < (i : Int) := by omega
        have HSR := Lib.hid (HS.out.mono (Nat.le_refl _))
        clear HS2
        go_upto_region 5 with fail
        have hBs := HSR.out.hBs
        have hB := HSR.out.hB
        have hBg : B ≠ g := by omega
        have b0 := HSR.out.b0
        have b1 := HSR.out.b1
        go_cut [7] (fun x7 wx => ∃ (X q2 c2 : Nat) (ps2 : List Pg), x7 = .pointer (some ⟨X, 0, none⟩) ∧ BkSt w wx g A n c ((M + 3 + 4 * (5 - i)) + 4) B z q c' ps ∧ NewB w wx X B z q2 c2 ps2)
        case first =>
          have HRD : Hid (Rdr wr.drew g A n c (M + 3 + 4 * (5 - i))) := Lib.hid (HSR.out.rd.keep (Below.refl _ _).drew)
          refine reg_beginK g (by kernel_rfl) (fun hHeld => ?_)
          refine reg_take 0 27 (v := ?_) rfl rfl (by kernel_rfl) (by kernel_rfl) (by kernel_rfl) (fun _ _ _ h => h) (Or.inl ⟨by rfl, ?_⟩) hHeld ?_
          rotate_left 1
          · intro wS hSw; have q0 := (kcellS hSw B 0 hBs hBg).trans b0; have q1 := (kcellS hSw B 1 hBs hBg).trans b1; go_simp <;> with_reducible rfl
          simp only [put_lit, List.set_cons_zero, List.set_cons_succ]
          refine reg_take 1 28 (v := ?_) rfl rfl (by kernel_rfl) (by kernel_rfl) (by kernel_rfl) (fun _ _ _ h => h) (Or.inl ⟨by rfl, ?_⟩) hHeld ?_
          rotate_left 1
          · intro wS hSw; go_simp <;> with_reducible rfl
          simp only [put_lit, List.set_cons_zero, List.set_cons_succ]
          refine reg_take 2 29 (v := ?_) rfl rfl (by kernel_rfl) (by kernel_rfl) (by kernel_rfl) (fun _ _ _ h => h) (Or.inl ⟨by rfl, ?_⟩) hHeld ?_
          rotate_left 1
          · intro wS hSw; go_simp <;> with_reducible rfl
          simp only [put_lit, List.set_cons_zero, List.set_cons_succ]
          refine wpAnyH_ready (rs := [3, 10]) (by kernel_rfl) (by simp) ?_
          refine AllReadyH.cons rfl (fun K hK => ?_) ?_
          · skip
            go_simp
            refine (pick_c g A n c (M + 3 + 4 * (5 - i)) 9 _ (by first | exact HRD.out | exact HRD.out.keep (bel_1 _ _)) (by omega) (by omega)).mono ?_
            rintro e wk1 ⟨s1, rfl, h10, h11, hR1, hbk1⟩
            have HR1 := Lib.hid hR1
            clear hR1
            have hw1 : IntKind.i64.wrap (1 + s1) = 1 + s1 := IntWalk.i64_in _ (by omega)
            have hnk1 : wr.heap.size ≤ wk1.heap.size := Nat.le_trans hHeld.size hbk1.size
            go_wp2_with fail
            refine hK.out _ _ ?_ (fun hHeld => ?_)
            · exact hHeld.trans hbk1
            clear hK K
            (try simp only [put_lit, List.set_cons_zero, List.set_cons_succ])
            refine reg_take 4 31 (v := ?_) rfl rfl (by kernel_rfl) (by kernel_rfl) (by kernel_rfl) (fun _ _ _ h => h) (Or.inl ⟨by rfl, ?_⟩) hHeld ?_
            rotate_left 1
            · intro wS hSw; go_simp <;> with_reducible rfl
            simp only [put_lit, List.set_cons_zero, List.set_cons_succ]
            refine wpAnyH_ready (rs := [5, 10]) (by kernel_rfl) (by simp) ?_
            refine AllReadyH.cons rfl (fun K hK => ?_) ?_
            · skip
              go_simp
              (try simp only [hw1])
              refine (full_any g A n c ((M + 3 + 4 * (5 - i)) + 1) _ _ (by first | exact HR1.out | exact HR1.out.keep (bel_1 _ _)) (by omega)).mono ?_
              rintro e wk2 ⟨fi, pl, va, rfl, hfi, hpl, hva, hR2, hbk2⟩
              have HR2 := Lib.hid hR2
              clear hR2
              have hnk2 : wr.heap.size ≤ wk2.heap.size := Nat.le_trans hHeld.size hbk2.size
              go_wp2_with fail
              refine hK.out _ _ ?_ (fun hHeld => ?_)
              · exact hHeld.trans hbk2
              clear hK K
              (try simp only [put_lit, List.set_cons_zero, List.set_cons_succ])
              refine wpAnyH_ready (rs := [6, 10]) (by kernel_rfl) (by simp) ?_
              refine AllReadyH.cons rfl (fun K hK => ?_) ?_
              · skip
                go_simp
                refine (sWriteBlockC _ _ _ _ ps _ _ _ _ _ ((HSR.out.row.keepK hHeld (by have := HSR.out.hq; omega)).at (by omega)) HSR.out.valid (pg_full fi pl va _ hfi hpl hva (by omega))).mono ?_
                obtain ⟨hwv, hww⟩ := wb_val ⟨z, ps⟩ ⟨true, fi, pl, va, 1 + s1⟩ HSR.out.valid (pg_full fi pl va _ hfi hpl hva (by omega)) rfl
                obtain ⟨⟨zw, ps2⟩, HWB⟩ : ∃ r, Hid ((writeBlockF ⟨z, ps⟩ ⟨true, fi, pl, va, 1 + s1⟩).1 = r) := ⟨_, rfl⟩
                rw [HWB.out] at hwv hww ⊢
                simp only [] at hww
                obtain rfl := hww.symm
                have HV2 := Lib.hid hwv
                clear hwv
                rintro e wk3 ⟨q2, c2, rfl, hc2, hq2, hrow2, hBk3⟩
                have HROW := Lib.hid hrow2
                have hq2s : q2 < wk3.heap.size := hrow2.2.1
                have HR3 : Hid (Rdr wk3 g A n c ((M + 3 + 4 * (5 - i)) + 4)) := Lib.hid (by first | exact HR2.out.keep hBk3 | exact (HR2.out.keep (bel_1 _ _)).keep hBk3)
                have hbk3 := Kp.of_below (g := g) hBk3
                have hq2w : wr.heap.size ≤ q2 := Nat.le_trans hHeld.size hq2
                have hnk3 : wr.heap.size ≤ wk3.heap.size := Nat.le_trans hHeld.size hbk3.size
                (try simp at hq2)
                clear hrow2
                go_wp2_with fail
                refine hK.out _ _ ?_ (fun hHeld => ?_)
                · exact hHeld.trans hbk3
                clear hK K
                (try simp only [put_lit, List.set_cons_zero, List.set_cons_succ])
                refine reg_take 7 26 (v := ?_) rfl rfl (by kernel_rfl) (by kernel_rfl) (by kernel_rfl) (fun _ _ _ h => h) (Or.inl ⟨by rfl, ?_⟩) hHeld ?_
                rotate_left 1
                · intro wS hSw; go_simp <;> with_reducible rfl
                simp only [put_lit, List.set_cons_zero, List.set_cons_succ]
                refine reg_take 8 34 (v := ?_) rfl rfl (by kernel_rfl) (by kernel_rfl) (by kernel_rfl) (fun _ _ _ h => h) (Or.inl ⟨by rfl, ?_⟩) hHeld ?_
                rotate_left 1
                · intro wS hSw; go_simp <;> with_reducible rfl
                simp only [put_lit, List.set_cons_zero, List.set_cons_succ]
                refine reg_take 9 35 (v := ?_) rfl rfl (by kernel_rfl) (by kernel_rfl) (by kernel_rfl) (fun _ _ _ h => h) (Or.inl ⟨by rfl, ?_⟩) hHeld ?_
                rotate_left 1
                · intro wS hSw; go_simp <;> with_reducible rfl
                simp only [put_lit, List.set_cons_zero, List.set_cons_succ]
                refine wpAnyH_ready (rs := [10]) (by kernel_rfl) (by simp) ?_
                refine AllReadyH.cons rfl (fun K hK => ?_) AllReadyH.nil
                go_simp
                refine hK.out _ _ ?_ (fun hHeld => ?_)
                · exact hHeld.alloc _
                clear hK K
                (try simp only [put_lit, List.set_cons_zero, List.set_cons_succ])
                refine wpAnyH_ready (rs := [11]) (by kernel_rfl) (by simp) ?_
                refine AllReadyH.cons rfl (fun K hK => ?_) AllReadyH.nil
                go_simp
                refine hK.out _ _ ?_ (fun hHeld => ?_)
                · first | exact kp_swap hHeld (by first | with_reducible assumption | exact Nat.le_refl _ | (simp; done) | (simp; omega) | omega) _ | exact (hHeld.setCell (p := ⟨_, 0, none⟩) (Or.inr (by first | with_reducible assumption | exact Nat.le_refl _ | (simp; done) | (simp; omega) | omega)) _).setCell (p := ⟨_, 1, none⟩) (Or.inr (by first | with_reducible assumption | exact Nat.le_refl _ | (simp; done) | (simp; omega) | omega)) _
                clear hK K
                (try simp only [put_lit, List.set_cons_zero, List.set_cons_succ])
                refine reg_take 12 8 (v := ?_) rfl rfl (by kernel_rfl) (by kernel_rfl) (by kernel_rfl) (fun _ _ _ h => h) (Or.inl ⟨by rfl, ?_⟩) hHeld ?_
                rotate_left 1
                · intro wS hSw; go_simp <;> with_reducible rfl
                simp only [put_lit, List.set_cons_zero, List.set_cons_succ]
                refine wpAnyH_done (by kernel_rfl) ?_ _
                obtain ⟨X, eX⟩ := leafK hHeld
                have x0 : X.cell? ⟨wk3.heap.size, 0, none⟩ = some (.int .i64 z) := by rw [eX]; go_simp
                have x1 : X.cell? ⟨wk3.heap.size, 1, none⟩ = some (.slice (some ⟨q2, 0, none⟩) 4 c2) := by rw [eX]; go_simp
                have hqG : q2 ≠ wk3.heap.size := by first | omega | (simp; omega)
                have RW : PgRow X q2 4 ps2 := by rw [eX]; first | exact HROW.out.keep (bel_1 _ _) | exact (HROW.out.setOther (a := ⟨wk3.heap.size, 0, none⟩) (Ne.symm hqG) _).setOther (a := ⟨wk3.heap.size, 1, none⟩) (Ne.symm hqG) _
                have RX : Rdr X g A n c ((M + 3 + 4 * (5 - i)) + 4) := by rw [eX]; exact h.final HR3.out (by first | exact Below.heap_alloc _ _ _ (by omega) | (rw [Below.heap_setCell _ _ _ _ (by simp; omega), Below.heap_setCell _ _ _ _ (by simp; omega)])) (HSR.out.kp.trans hHeld)
                rw [← eX] at hHeld ⊢
                clear eX
                go_wp2_with fail
                go_meet
                exact ⟨wk3.heap.size, q2, c2, ps2, rfl, HSR.out.step hg hHeld RX, x0, x1, RW, by omega, by omega, HV2.out, hc2, by omega, by omega⟩
              refine AllReadyH.cons rfl (fun K hK => ?_) AllReadyH.nil
              go_simp
              refine hK.out _ _ ?_ (fun hHeld => ?_)
              · exact hHeld.alloc _
              clear hK K
              (try simp only [put_lit, List.set_cons_zero, List.set_cons_succ])
              refine wpAnyH_ready (rs := [6]) (by kernel_rfl) (by simp) ?_
              refine AllReadyH.cons rfl (fun K hK => ?_) AllReadyH.nil
              go_simp
              refine (sWriteBlockC _ _ _ _ ps _ _ _ _ _ ((HSR.out.row.keepK hHeld (by have := HSR.out.hq; omega)).at (by omega)) HSR.out.valid (pg_full fi pl va _ hfi hpl hva (by omega))).mono ?_
              obtain ⟨hwv, hww⟩ := wb_val ⟨z, ps⟩ ⟨true, fi, pl, va, 1 + s1⟩ HSR.out.valid (pg_full fi pl va _ hfi hpl hva (by omega)) rfl
              obtain ⟨⟨zw, ps2⟩, HWB⟩ : ∃ r, Hid ((writeBlockF ⟨z, ps⟩ ⟨true, fi, pl, va, 1 + s1⟩).1 = r) := ⟨_, rfl⟩
              rw [HWB.out] at hwv hww ⊢
              simp only [] at hww
              obtain rfl := hww.symm
              have HV2 := Lib.hid hwv
              clear hwv
              rintro e wk7 ⟨q2, c2, rfl, hc2, hq2, hrow2, hBk7⟩
              have HROW := Lib.hid hrow2
              have hq2s : q2 < wk7.heap.size := hrow2.2.1
              have HR3 : Hid (Rdr wk7 g A n c ((M + 3 + 4 * (5 - i)) + 4)) := Lib.hid (by first | exact HR2.out.keep hBk7 | exact (HR2.out.keep (bel_1 _ _)).keep hBk7)
              have hbk7 := Kp.of_below (g := g) hBk7
              have hq2w : wr.heap.size ≤ q2 := Nat.le_trans hHeld.size hq2
              have hnk7 : wr.heap.size ≤ wk7.heap.size := Nat.le_trans hHeld.size hbk7.size
              (try simp at hq2)
              clear hrow2
              have hGak7 : ∀ o, wk7.cell? ⟨wk2.heap.size, o, none⟩ = (#[.int .i64 0, .slice none 0 0] : Array Value)[o]? := fun o => ((kcellB hbk7).1 _ o (by first | (simp; omega) | omega)).trans (by simp [go_sem])
              have hGak7f : ∀ o, wk7.frozen? ⟨wk2.heap.size, o, none⟩ = false := fun o => ((kcellB hbk7).2 _ o (by first | (simp; omega) | omega)).trans (by simp [go_sem])
              have hGak7s : wk2.heap.size < wk7.heap.size := Nat.lt_of_lt_of_le (by simp) hbk7.size
              go_wp2_with fail
              refine hK.out _ _ ?_ (fun hHeld => ?_)
              · exact hHeld.trans hbk7
              clear hK K
              (try simp only [put_lit, List.set_cons_zero, List.set_cons_succ])
              refine reg_take 7 26 (v := ?_) rfl rfl (by kernel_rfl) (by kernel_rfl) (by kernel_rfl) (fun _ _ _ h => h) (Or.inl ⟨by rfl, ?_⟩) hHeld ?_
              rotate_left 1
              · intro wS hSw; go_simp <;> with_reducible rfl
              simp only [put_lit, List.set_cons_zero, List.set_cons_succ]
              refine reg_take 8 34 (v := ?_) rfl rfl (by kernel_rfl) (by kernel_rfl) (by kernel_rfl) (fun _ _ _ h => h) (Or.inl ⟨by rfl, ?_⟩) hHeld ?_
              rotate_left 1
              · intro wS hSw; go_simp <;> with_reducible rfl
              simp only [put_lit, List.set_cons_zero, List.set_cons_succ]
              refine reg_take 9 35 (v := ?_) rfl rfl (by kernel_rfl) (by kernel_rfl) (by kernel_rfl) (fun _ _ _ h => h) (Or.inl ⟨by rfl, ?_⟩) hHeld ?_
              rotate_left 1
              · intro wS hSw; go_simp <;> with_reducible rfl
              simp only [put_lit, List.set_cons_zero, List.set_cons_succ]
              refine wpAnyH_ready (rs := [11]) (by kernel_rfl) (by simp) ?_
              refine AllReadyH.cons rfl (fun K hK => ?_) AllReadyH.nil
              go_simp
              refine hK.out _ _ ?_ (fun hHeld => ?_)
              · first | exact kp_swap hHeld (by first | with_reducible assumption | exact Nat.le_refl _ | (simp; done) | (simp; omega) | omega) _ | exact (hHeld.setCell (p := ⟨_, 0, none⟩) (Or.inr (by first | with_reducible assumption | exact Nat.le_refl _ | (simp; done) | (simp; omega) | omega)) _).setCell (p := ⟨_, 1, none⟩) (Or.inr (by first | with_reducible assumption | exact Nat.le_refl _ | (simp; done) | (simp; omega) | omega)) _
              clear hK K
              (try simp only [put_lit, List.set_cons_zero, List.set_cons_succ])
              refine reg_take 12 8 (v := ?_) rfl rfl (by kernel_rfl) (by kernel_rfl) (by kernel_rfl) (fun _ _ _ h => h) (Or.inl ⟨by rfl, ?_⟩) hHeld ?_
              rotate_left 1
              · intro wS hSw; go_simp <;> with_reducible rfl
              simp only [put_lit, List.set_cons_zero, List.set_cons_succ]
              refine wpAnyH_done (by kernel_rfl) ?_ _
              obtain ⟨X, eX⟩ := leafK hHeld
              have x0 : X.cell? ⟨wk2.heap.size, 0, none⟩ = some (.int .i64 z) := by rw [eX]; go_simp
              have x1 : X.cell? ⟨wk2.heap.size, 1, none⟩ = some (.slice (some ⟨q2, 0, none⟩) 4 c2) := by rw [eX]; go_simp
              have hqG : q2 ≠ wk2.heap.size := by first | omega | (simp; omega)
              have RW : PgRow X q2 4 ps2 := by rw [eX]; first | exact HROW.out.keep (bel_1 _ _) | exact (HROW.out.setOther (a := ⟨wk2.heap.size, 0, none⟩) (Ne.symm hqG) _).setOther (a := ⟨wk2.heap.size, 1, none⟩) (Ne.symm hqG) _
              have RX : Rdr X g A n c ((M + 3 + 4 * (5 - i)) + 4) := by rw [eX]; exact h.final HR3.out (by first | exact Below.heap_alloc _ _ _ (by omega) | (rw [Below.heap_setCell _ _ _ _ (by simp; omega), Below.heap_setCell _ _ _ _ (by simp; omega)])) (HSR.out.kp.trans hHeld)
              rw [← eX] at hHeld ⊢
              clear eX
              go_wp2_with fail
              go_meet
              exact ⟨wk2.heap.size, q2, c2, ps2, rfl, HSR.out.step hg hHeld RX, x0, x1, RW, by omega, by omega, HV2.out, hc2, by omega, by omega⟩
            refine AllReadyH.cons rfl (fun K hK => ?_) AllReadyH.nil
            go_simp
            refine hK.out _ _ ?_ (fun hHeld => ?_)
            · exact hHeld.alloc _
            clear hK K
            (try simp only [put_lit, List.set_cons_zero, List.set_cons_succ])
            refine wpAnyH_ready (rs := [5]) (by kernel_rfl) (by simp) ?_
            refine AllReadyH.cons rfl (fun K hK => ?_) AllReadyH.nil
            go_simp
            (try simp only [hw1])
            refine (full_any g A n c ((M + 3 + 4 * (5 - i)) + 1) _ _ (by first | exact HR1.out | exact HR1.out.keep (bel_1 _ _)) (by omega)).mono ?_
            rintro e wk10 ⟨fi, pl, va, rfl, hfi, hpl, hva, hR2, hbk10⟩
            have HR2 := Lib.hid hR2
            clear hR2
            have hnk10 : wr.heap.size ≤ wk10.heap.size := Nat.le_trans hHeld.size hbk10.size
            have hGak10 : ∀ o, wk10.cell? ⟨wk1.heap.size, o, none⟩ = (#[.int .i64 0, .slice none 0 0] : Array Value)[o]? := fun o => ((kcellB hbk10).1 _ o (by first | (simp; omega) | omega)).trans (by simp [go_sem])
            have hGak10f : ∀ o, wk10.frozen? ⟨wk1.heap.size, o, none⟩ = false := fun o => ((kcellB hbk10).2 _ o (by first | (simp; omega) | omega)).trans (by simp [go_sem])
            have hGak10s : wk1.heap.size < wk10.heap.size := Nat.lt_of_lt_of_le (by simp) hbk10.size
            go_wp2_with fail
            refine hK.out _ _ ?_ (fun hHeld => ?_)
            · exact hHeld.trans hbk10
            clear hK K
            (try simp only [put_lit, List.set_cons_zero, List.set_cons_succ])
            refine wpAnyH_ready (rs := [6]) (by kernel_rfl) (by simp) ?_
            refine AllReadyH.cons rfl (fun K hK => ?_) AllReadyH.nil
            go_simp
            refine (sWriteBlockC _ _ _ _ ps _ _ _ _ _ ((HSR.out.row.keepK hHeld (by have := HSR.out.hq; omega)).at (by omega)) HSR.out.valid (pg_full fi pl va _ hfi hpl hva (by omega))).mono ?_
            obtain ⟨hwv, hww⟩ := wb_val ⟨z, ps⟩ ⟨true, fi, pl, va, 1 + s1⟩ HSR.out.valid (pg_full fi pl va _ hfi hpl hva (by omega)) rfl
            obtain ⟨⟨zw, ps2⟩, HWB⟩ : ∃ r, Hid ((writeBlockF ⟨z, ps⟩ ⟨true, fi, pl, va, 1 + s1⟩).1 = r) := ⟨_, rfl⟩
            rw [HWB.out] at hwv hww ⊢
            simp only [] at hww
            obtain rfl := hww.symm
            have HV2 := Lib.hid hwv
            clear hwv
            rintro e wk11 ⟨q2, c2, rfl, hc2, hq2, hrow2, hBk11⟩
            have HROW := Lib.hid hrow2
            have hq2s : q2 < wk11.heap.size := hrow2.2.1
            have HR3 : Hid (Rdr wk11 g A n c ((M + 3 + 4 * (5 - i)) + 4)) := Lib.hid (by first | exact HR2.out.keep hBk11 | exact (HR2.out.keep (bel_1 _ _)).keep hBk11)
            have hbk11 := Kp.of_below (g := g) hBk11
            have hq2w : wr.heap.size ≤ q2 := Nat.le_trans hHeld.size hq2
            have hnk11 : wr.heap.size ≤ wk11.heap.size := Nat.le_trans hHeld.size hbk11.size
            (try simp at hq2)
            clear hrow2
            have hGak11 : ∀ o, wk11.cell? ⟨wk1.heap.size, o, none⟩ = (#[.int .i64 0, .slice none 0 0] : Array Value)[o]? := fun o => ((kcellB hbk11).1 _ o ⟨hGak10s, by omega⟩).trans (hGak10 o)
            have hGak11f : ∀ o, wk11.frozen? ⟨wk1.heap.size, o, none⟩ = false := fun o => ((kcellB hbk11).2 _ o ⟨hGak10s, by omega⟩).trans (hGak10f o)
            have hGak11s : wk1.heap.size < wk11.heap.size := Nat.lt_of_lt_of_le hGak10s hbk11.size
            go_wp2_with fail
            refine hK.out _ _ ?_ (fun hHeld => ?_)
            · exact hHeld.trans hbk11
            clear hK K
            (try simp only [put_lit, List.set_cons_zero, List.set_cons_succ])
            refine reg_take 7 26 (v := ?_) rfl rfl (by kernel_rfl) (by kernel_rfl) (by kernel_rfl) (fun _ _ _ h => h) (Or.inl ⟨by rfl, ?_⟩) hHeld ?_
            rotate_left 1
            · intro wS hSw; go_simp <;> with_reducible rfl
            simp only [put_lit, List.set_cons_zero, List.set_cons_succ]
            refine reg_take 8 34 (v := ?_) rfl rfl (by kernel_rfl) (by kernel_rfl) (by kernel_rfl) (fun _ _ _ h => h) (Or.inl ⟨by rfl, ?_⟩) hHeld ?_
            rotate_left 1
            · intro wS hSw; go_simp <;> with_reducible rfl
            simp only [put_lit, List.set_cons_zero, List.set_cons_succ]
            refine reg_take 9 35 (v := ?_) rfl rfl (by kernel_rfl) (by kernel_rfl) (by kernel_rfl) (fun _ _ _ h => h) (Or.inl ⟨by rfl, ?_⟩) hHeld ?_
            rotate_left 1
            · intro wS hSw; go_simp <;> with_reducible rfl
            simp only [put_lit, List.set_cons_zero, List.set_cons_succ]
            refine wpAnyH_ready (rs := [11]) (by kernel_rfl) (by simp) ?_
            refine AllReadyH.cons rfl (fun K hK => ?_) AllReadyH.nil
            go_simp
            refine hK.out _ _ ?_ (fun hHeld => ?_)
            · first | exact kp_swap hHeld (by first | with_reducible assumption | exact Nat.le_refl _ | (simp; done) | (simp; omega) | omega) _ | exact (hHeld.setCell (p := ⟨_, 0, none⟩) (Or.inr (by first | with_reducible assumption | exact Nat.le_refl _ | (simp; done) | (simp; omega) | omega)) _).setCell (p := ⟨_, 1, none⟩) (Or.inr (by first | with_reducible assumption | exact Nat.le_refl _ | (simp; done) | (simp; omega) | omega)) _
            clear hK K
            (try simp only [put_lit, List.set_cons_zero, List.set_cons_succ])
            refine reg_take 12 8 (v := ?_) rfl rfl (by kernel_rfl) (by kernel_rfl) (by kernel_rfl) (fun _ _ _ h => h) (Or.inl ⟨by rfl, ?_⟩) hHeld ?_
            rotate_left 1
            · intro wS hSw; go_simp <;> with_reducible rfl
            simp only [put_lit, List.set_cons_zero, List.set_cons_succ]
            refine wpAnyH_done (by kernel_rfl) ?_ _
            obtain ⟨X, eX⟩ := leafK hHeld
            have x0 : X.cell? ⟨wk1.heap.size, 0, none⟩ = some (.int .i64 z) := by rw [eX]; go_simp
            have x1 : X.cell? ⟨wk1.heap.size, 1, none⟩ = some (.slice (some ⟨q2, 0, none⟩) 4 c2) := by rw [eX]; go_simp
            have hqG : q2 ≠ wk1.heap.size := by first | omega | (simp; omega)
            have RW : PgRow X q2 4 ps2 := by rw [eX]; first | exact HROW.out.keep (bel_1 _ _) | exact (HROW.out.setOther (a := ⟨wk1.heap.size, 0, none⟩) (Ne.symm hqG) _).setOther (a := ⟨wk1.heap.size, 1, none⟩) (Ne.symm hqG) _
            have RX : Rdr X g A n c ((M + 3 + 4 * (5 - i)) + 4) := by rw [eX]; exact h.final HR3.out (by first | exact Below.heap_alloc _ _ _ (by omega) | (rw [Below.heap_setCell _ _ _ _ (by simp; omega), Below.heap_setCell _ _ _ _ (by simp; omega)])) (HSR.out.kp.trans hHeld)
            rw [← eX] at hHeld ⊢
            clear eX
            go_wp2_with fail
            go_meet
            exact ⟨wk1.heap.size, q2, c2, ps2, rfl, HSR.out.step hg hHeld RX, x0, x1, RW, by omega, by omega, HV2.out, hc2, by omega, by omega⟩
          refine AllReadyH.cons rfl (fun K hK => ?_) AllReadyH.nil
          go_simp
          refine hK.out _ _ ?_ (fun hHeld => ?_)
          · exact hHeld.alloc _
          clear hK K
          (try simp only [put_lit, List.set_cons_zero, List.set_cons_succ])
          refine wpAnyH_ready (rs := [3]) (by kernel_rfl) (by simp) ?_
          refine AllReadyH.cons rfl (fun K hK => ?_) AllReadyH.nil
          go_simp
          refine (pick_c g A n c (M + 3 + 4 * (5 - i)) 9 _ (by first | exact HRD.out | exact HRD.out.keep (bel_1 _ _)) (by omega) (by omega)).mono ?_
          rintro e wk14 ⟨s1, rfl, h10, h11, hR1, hbk14⟩
          have HR1 := Lib.hid hR1
          clear hR1
          have hw1 : IntKind.i64.wrap (1 + s1) = 1 + s1 := IntWalk.i64_in _ (by omega)
          have hnk14 : wr.heap.size ≤ wk14.heap.size := Nat.le_trans hHeld.size hbk14.size
          have hGak14 : ∀ o, wk14.cell? ⟨wr.heap.size, o, none⟩ = (#[.int .i64 0, .slice none 0 0] : Array Value)[o]? := fun o => ((kcellB hbk14).1 _ o (by first | (simp; omega) | omega)).trans (by simp [go_sem])
          have hGak14f : ∀ o, wk14.frozen? ⟨wr.heap.size, o, none⟩ = false := fun o => ((kcellB hbk14).2 _ o (by first | (simp; omega) | omega)).trans (by simp [go_sem])
          have hGak14s : wr.heap.size < wk14.heap.size := Nat.lt_of_lt_of_le (by simp) hbk14.size
          go_wp2_with fail
          refine hK.out _ _ ?_ (fun hHeld => ?_)
          · exact hHeld.trans hbk14
          clear hK K
          (try simp only [put_lit, List.set_cons_zero, List.set_cons_succ])
          refine reg_take 4 31 (v := ?_) rfl rfl (by kernel_rfl) (by kernel_rfl) (by kernel_rfl) (fun _ _ _ h => h) (Or.inl ⟨by rfl, ?_⟩) hHeld ?_
          rotate_left 1
          · intro wS hSw; go_simp <;> with_reducible rfl
          simp only [put_lit, List.set_cons_zero, List.set_cons_succ]
          refine wpAnyH_ready (rs := [5]) (by kernel_rfl) (by simp) ?_
          refine AllReadyH.cons rfl (fun K hK => ?_) AllReadyH.nil
          go_simp
          (try simp only [hw1])
          refine (full_any g A n c ((M + 3 + 4 * (5 - i)) + 1) _ _ (by first | exact HR1.out | exact HR1.out.keep (bel_1 _ _)) (by omega)).mono ?_
          rintro e wk15 ⟨fi, pl, va, rfl, hfi, hpl, hva, hR2, hbk15⟩
          have HR2 := Lib.hid hR2
          clear hR2
          have hnk15 : wr.heap.size ≤ wk15.heap.size := Nat.le_trans hHeld.size hbk15.size
          have hGak15 : ∀ o, wk15.cell? ⟨wr.heap.size, o, none⟩ = (#[.int .i64 0, .slice none 0 0] : Array Value)[o]? := fun o => ((kcellB hbk15).1 _ o ⟨hGak14s, by omega⟩).trans (hGak14 o)
          have hGak15f : ∀ o, wk15.frozen? ⟨wr.heap.size, o, none⟩ = false := fun o => ((kcellB hbk15).2 _ o ⟨hGak14s, by omega⟩).trans (hGak14f o)
          have hGak15s : wr.heap.size < wk15.heap.size := Nat.lt_of_lt_of_le hGak14s hbk15.size
          go_wp2_with fail
          refine hK.out _ _ ?_ (fun hHeld => ?_)
          · exact hHeld.trans hbk15
          clear hK K
          (try simp only [put_lit, List.set_cons_zero, List.set_cons_succ])
          refine wpAnyH_ready (rs := [6]) (by kernel_rfl) (by simp) ?_
          refine AllReadyH.cons rfl (fun K hK => ?_) AllReadyH.nil
          go_simp
          refine (sWriteBlockC _ _ _ _ ps _ _ _ _ _ ((HSR.out.row.keepK hHeld (by have := HSR.out.hq; omega)).at (by omega)) HSR.out.valid (pg_full fi pl va _ hfi hpl hva (by omega))).mono ?_
          obtain ⟨hwv, hww⟩ := wb_val ⟨z, ps⟩ ⟨true, fi, pl, va, 1 + s1⟩ HSR.out.valid (pg_full fi pl va _ hfi hpl hva (by omega)) rfl
          obtain ⟨⟨zw, ps2⟩, HWB⟩ : ∃ r, Hid ((writeBlockF ⟨z, ps⟩ ⟨true, fi, pl, va, 1 + s1⟩).1 = r) := ⟨_, rfl⟩
          rw [HWB.out] at hwv hww ⊢
          simp only [] at hww
          obtain rfl := hww.symm
          have HV2 := Lib.hid hwv
          clear hwv
          rintro e wk16 ⟨q2, c2, rfl, hc2, hq2, hrow2, hBk16⟩
          have HROW := Lib.hid hrow2
          have hq2s : q2 < wk16.heap.size := hrow2.2.1
          have HR3 : Hid (Rdr wk16 g A n c ((M + 3 + 4 * (5 - i)) + 4)) := Lib.hid (by first | exact HR2.out.keep hBk16 | exact (HR2.out.keep (bel_1 _ _)).keep hBk16)
          have hbk16 := Kp.of_below (g := g) hBk16
          have hq2w : wr.heap.size ≤ q2 := Nat.le_trans hHeld.size hq2
          have hnk16 : wr.heap.size ≤ wk16.heap.size := Nat.le_trans hHeld.size hbk16.size
          (try simp at hq2)
          clear hrow2
          have hGak16 : ∀ o, wk16.cell? ⟨wr.heap.size, o, none⟩ = (#[.int .i64 0, .slice none 0 0] : Array Value)[o]? := fun o => ((kcellB hbk16).1 _ o ⟨hGak15s, by omega⟩).trans (hGak15 o)
          have hGak16f : ∀ o, wk16.frozen? ⟨wr.heap.size, o, none⟩ = false := fun o => ((kcellB hbk16).2 _ o ⟨hGak15s, by omega⟩).trans (hGak15f o)
          have hGak16s : wr.heap.size < wk16.heap.size := Nat.lt_of_lt_of_le hGak15s hbk16.size
          go_wp2_with fail
          refine hK.out _ _ ?_ (fun hHeld => ?_)
          · exact hHeld.trans hbk16
          clear hK K
          (try simp only [put_lit, List.set_cons_zero, List.set_cons_succ])
          refine reg_take 7 26 (v := ?_) rfl rfl (by kernel_rfl) (by kernel_rfl) (by kernel_rfl) (fun _ _ _ h => h) (Or.inl ⟨by rfl, ?_⟩) hHeld ?_
          rotate_left 1
          · intro wS hSw; go_simp <;> with_reducible rfl
          simp only [put_lit, List.set_cons_zero, List.set_cons_succ]
          refine reg_take 8 34 (v := ?_) rfl rfl (by kernel_rfl) (by kernel_rfl) (by kernel_rfl) (fun _ _ _ h => h) (Or.inl ⟨by rfl, ?_⟩) hHeld ?_
          rotate_left 1
          · intro wS hSw; go_simp <;> with_reducible rfl
          simp only [put_lit, List.set_cons_zero, List.set_cons_succ]
          refine reg_take 9 35 (v := ?_) rfl rfl (by kernel_rfl) (by kernel_rfl) (by kernel_rfl) (fun _ _ _ h => h) (Or.inl ⟨by rfl, ?_⟩) hHeld ?_
          rotate_left 1
          · intro wS hSw; go_simp <;> with_reducible rfl
          simp only [put_lit, List.set_cons_zero, List.set_cons_succ]
          refine wpAnyH_ready (rs := [11]) (by kernel_rfl) (by simp) ?_
          refine AllReadyH.cons rfl (fun K hK => ?_) AllReadyH.nil
          go_simp
          refine hK.out _ _ ?_ (fun hHeld => ?_)
          · first | exact kp_swap hHeld (by first | with_reducible assumption | exact Nat.le_refl _ | (simp; done) | (simp; omega) | omega) _ | exact (hHeld.setCell (p := ⟨_, 0, none⟩) (Or.inr (by first | with_reducible assumption | exact Nat.le_refl _ | (simp; done) | (simp; omega) | omega)) _).setCell (p := ⟨_, 1, none⟩) (Or.inr (by first | with_reducible assumption | exact Nat.le_refl _ | (simp; done) | (simp; omega) | omega)) _
          clear hK K
          (try simp only [put_lit, List.set_cons_zero, List.set_cons_succ])
          refine reg_take 12 8 (v := ?_) rfl rfl (by kernel_rfl) (by kernel_rfl) (by kernel_rfl) (fun _ _ _ h => h) (Or.inl ⟨by rfl, ?_⟩) hHeld ?_
          rotate_left 1
          · intro wS hSw; go_simp <;> with_reducible rfl
          simp only [put_lit, List.set_cons_zero, List.set_cons_succ]
          refine wpAnyH_done (by kernel_rfl) ?_ _
          obtain ⟨X, eX⟩ := leafK hHeld
          have x0 : X.cell? ⟨wr.heap.size, 0, none⟩ = some (.int .i64 z) := by rw [eX]; go_simp
          have x1 : X.cell? ⟨wr.heap.size, 1, none⟩ = some (.slice (some ⟨q2, 0, none⟩) 4 c2) := by rw [eX]; go_simp
          have hqG : q2 ≠ wr.heap.size := by first | omega | (simp; omega)
          have RW : PgRow X q2 4 ps2 := by rw [eX]; first | exact HROW.out.keep (bel_1 _ _) | exact (HROW.out.setOther (a := ⟨wr.heap.size, 0, none⟩) (Ne.symm hqG) _).setOther (a := ⟨wr.heap.size, 1, none⟩) (Ne.symm hqG) _
          have RX : Rdr X g A n c ((M + 3 + 4 * (5 - i)) + 4) := by rw [eX]; exact h.final HR3.out (by first | exact Below.heap_alloc _ _ _ (by omega) | (rw [Below.heap_setCell _ _ _ _ (by simp; omega), Below.heap_setCell _ _ _ _ (by simp; omega)])) (HSR.out.kp.trans hHeld)
          rw [← eX] at hHeld ⊢
          clear eX
          go_wp2_with fail
          go_meet
          exact ⟨wr.heap.size, q2, c2, ps2, rfl, HSR.out.step hg hHeld RX, x0, x1, RW, by omega, by omega, HV2.out, hc2, by omega, by omega⟩
        case rest =>
          obtain ⟨X, q2, c2, ps2, rfl, HS5, x0, x1, hrow, hq2, hq2B, hv2, hc2, hX, hXB⟩ := hcut
          obtain ⟨w5, rfl⟩ : ∃ x, x = wc := ⟨_, rfl⟩
          have HS6 := Lib.hid (HS5.put h hrow hq2 hq2B hv2 hc2)
          have c0 := HS5.b0
          have c1 := HS5.b1
          have fb0 := HS5.fb 0
          have fb1 := HS5.fb 1
          clear HS5 hrow b0 b1 HSR HS
          go_wp2_with fail
          go_round
          case rel => exact ⟨i - 1, z, q2, c2, ps2, by omega, by go_num, Lib.hid (HS6.out.mono (by omega))⟩
          case measure => simp [intOf]; omega

end Go.Proofs.Yteekikaebmkioaa
