/- The walk's states in the reference's draw of a device. -/
import Derived.Test.YteekikaebmkioaaDrawB
import Derived.Test.YteekikaebmkioaaAppendC
namespace Go.Proofs.Yteekikaebmkioaa
open Go.RowKit
set_option linter.unusedVariables false

theorem sNewDeviceI (x : Int) (n : Nat) (e : x = (n : Int)) (hn1 : 1 ≤ n) (hn12 : n ≤ 12) (w : World) :
    Calls Try.prog 77 #[.int .i64 x] w fun e w' => ∃ g G c', e = .returned (.slice (some ⟨g, 0, none⟩) n c') ∧ RowC w' g n c' ∧ DvRow w' w.heap.size g n n G (newDeviceF (n : Int)) ∧ Below w.heap.size w w' := by
  subst e
  exact sNewDeviceC n hn1 hn12 w
theorem Sl.keepK {w w' : World} {A : Option Addr} {m q g : Nat} {ps : List Pg} (h : Sl w A m q ps) (hK : Kp g w w') (hne : q ≠ g) : Sl w' A m q ps := by
  rcases h with h | ⟨h1, h2⟩
  · exact Or.inl h
  · exact Or.inr ⟨h1, h2.keepK hK hne⟩
theorem DvRow.keepK {w w' : World} {lo gd n k g : Nat} {G : Nat → Nat} {ds : List Bl} (h : DvRow w lo gd n k G ds) (hK : Kp g w w') (hg : g < lo) : DvRow w' lo gd n k G ds := by
  obtain ⟨h1, h2, h3, h4, h5, h6⟩ := h
  have ne : gd ≠ g := by omega
  refine ⟨h1, h2, Nat.lt_of_lt_of_le h3 hK.size, fun j => (kfroz hK h3 ne j).trans (h4 j), fun i hi => ?_, fun i hi => ?_⟩
  · obtain ⟨v0, v1, e0, e1⟩ := h5 i hi
    exact ⟨v0, v1, (hK.cell h3 ne).trans e0, (hK.cell h3 ne).trans e1⟩
  · obtain ⟨q1, q2, q3, q4, A, m, c, hm, q5, q6, q7⟩ := h6 i hi
    exact ⟨q1, Nat.lt_of_lt_of_le q2 hK.size, q3, q4, A, m, c, hm, (hK.cell h3 ne).trans q5, (hK.cell h3 ne).trans q6, q7.keepK hK (by omega)⟩
theorem DvRow.setOut {w : World} {lo gd n k : Nat} {G : Nat → Nat} {ds : List Bl} (h : DvRow w lo gd n k G ds) {a : Addr} (ha : a.block ≠ gd) (hG : ∀ i, i < k → a.block ≠ G i) (v : Value) : DvRow (w.setCell a v) lo gd n k G ds := by
  obtain ⟨h1, h2, h3, h4, h5, h6⟩ := h
  have ne : ∀ o, a ≠ (⟨gd, o, none⟩ : Addr) := fun o e => ha (by rw [e])
  refine ⟨h1, h2, by rw [World.size_setCell]; exact h3, fun j => by rw [World.frozen?_setCell]; exact h4 j, fun i hi => ?_, fun i hi => ?_⟩
  · obtain ⟨v0, v1, e0, e1⟩ := h5 i hi
    exact ⟨v0, v1, (World.cell?_setCell_other _ _ _ _ (ne _)).trans e0, (World.cell?_setCell_other _ _ _ _ (ne _)).trans e1⟩
  · obtain ⟨q1, q2, q3, q4, A, m, c, hm, q5, q6, q7⟩ := h6 i hi
    exact ⟨q1, by rw [World.size_setCell]; exact q2, q3, q4, A, m, c, hm, (World.cell?_setCell_other _ _ _ _ (ne _)).trans q5, (World.cell?_setCell_other _ _ _ _ (ne _)).trans q6, q7.setOther (hG i hi) _⟩
theorem DvRow.setWear {w : World} {lo gd n : Nat} {G : Nat → Nat} {ds : List Bl} (h : DvRow w lo gd n n G ds) (p : Nat) (hp : p < n) (x : Int) : DvRow (w.setCell ⟨gd, p * 2, none⟩ (.int .i64 x)) lo gd n n G (ds.set p ⟨x, (blAt ds p).pages⟩) := by
  obtain ⟨h1, h2, h3, h4, h5, h6⟩ := h
  refine ⟨by simpa using h1, h2, by rw [World.size_setCell]; exact h3, fun j => by rw [World.frozen?_setCell]; exact h4 j, fun i hi => ?_, fun i hi => ?_⟩
  · obtain ⟨v0, v1, e0, e1⟩ := h5 i hi
    obtain ⟨v0', e0'⟩ := cell?_setCell_some (p := ⟨gd, p * 2, none⟩) (x := .int .i64 x) e0
    obtain ⟨v1', e1'⟩ := cell?_setCell_some (p := ⟨gd, p * 2, none⟩) (x := .int .i64 x) e1
    exact ⟨v0', v1', e0', e1'⟩
  · obtain ⟨q1, q2, q3, q4, A, m, c, hm, q5, q6, q7⟩ := h6 i hi
    rw [blAt_set ds p i _ (by rw [h1]; exact hp)]
    have e7 := q7.setOther (a := ⟨gd, p * 2, none⟩) (Ne.symm q3) (.int .i64 x)
    by_cases e : i = p
    · subst e
      rw [if_pos rfl]
      exact ⟨q1, by rw [World.size_setCell]; exact q2, q3, q4, A, m, c, hm, World.cell?_setCell_same _ _ _ q5, (World.cell?_setCell_other _ _ _ _ (by simp)).trans q6, e7⟩
    · rw [if_neg e]
      exact ⟨q1, by rw [World.size_setCell]; exact q2, q3, q4, A, m, c, hm, (World.cell?_setCell_other _ _ _ _ (by first | (simp; done) | (simp; omega))).trans q5, (World.cell?_setCell_other _ _ _ _ (by first | (simp; done) | (simp; omega))).trans q6, e7⟩
theorem nd_valid (n : Nat) (h : 1 ≤ n ∧ n ≤ 12) : deviceValidF (newDeviceF (n : Int)) = true := by
  rw [nd_2 n h]
  exact dv_mk _ n (by simp) h.1 h.2 fun i hi => by rw [rep_at n i _ hi]; exact bv_zero4 0 (by omega)
theorem hv_none (ds : List Bl) (n : Nat) (hl : ds.length = n) (hv : deviceValidF ds = true) : headsValidF ds (-1) (-1) (-1) = true := hv_all ds n _ _ _ hl hv (by omega)
theorem dv_wear (ds : List Bl) (n p : Nat) (x : Int) (hl : ds.length = n) (hv : deviceValidF ds = true) (hp : p < n) (hx : 0 ≤ x ∧ x ≤ 100) : deviceValidF (ds.set p ⟨x, (blAt ds p).pages⟩) = true :=
  dv_set ds n p _ hl hv hp (bv_wearing x _ (dv_at ds n p hl hv hp) hx)

/-- the boxes of l20Device: the answer's heads still zero, the heads in box H -/
structure HdSt (w wx : World) (g : Nat) (A : Option Addr) (n c M H : Nat) (g1 h1 k1 : Int) : Prop where
  rd : Rdr wx g A n c M
  kp : Kp g w wx
  r0 : wx.cell? ⟨w.heap.size, 0, none⟩ = some (.int .i64 0)
  r1 : wx.cell? ⟨w.heap.size, 1, none⟩ = some (.int .i64 0)
  r2 : wx.cell? ⟨w.heap.size, 2, none⟩ = some (.int .i64 0)
  fr : ∀ j, wx.frozen? ⟨w.heap.size, j, none⟩ = false
  x0 : wx.cell? ⟨H, 0, none⟩ = some (.int .i64 g1)
  x1 : wx.cell? ⟨H, 1, none⟩ = some (.int .i64 h1)
  x2 : wx.cell? ⟨H, 2, none⟩ = some (.int .i64 k1)
  fh : ∀ j, wx.frozen? ⟨H, j, none⟩ = false
  hH : w.heap.size < H
  hHs : H < wx.heap.size
section
variable {w wx wy : World} {g n c M M' H : Nat} {A : Option Addr} {g1 h1 k1 : Int}
theorem HdSt.mono (h : HdSt w wx g A n c M H g1 h1 k1) (hM : M ≤ M') : HdSt w wx g A n c M' H g1 h1 k1 := { h with rd := h.rd.mono hM }
theorem HdSt.step (h : HdSt w wx g A n c M H g1 h1 k1) (hg : g < w.heap.size) (hK : Kp g wx wy) (hR : Rdr wy g A n c M') : HdSt w wy g A n c M' H g1 h1 k1 := by
  have hH := h.hH
  have hHs := h.hHs
  exact { rd := hR, kp := h.kp.trans hK, r0 := (hK.cell (by omega) (by omega)).trans h.r0, r1 := (hK.cell (by omega) (by omega)).trans h.r1, r2 := (hK.cell (by omega) (by omega)).trans h.r2, fr := fun j => (kfroz hK (by omega) (by omega) j).trans (h.fr j), x0 := (hK.cell (by omega) (by omega)).trans h.x0, x1 := (hK.cell (by omega) (by omega)).trans h.x1, x2 := (hK.cell (by omega) (by omega)).trans h.x2, fh := fun j => (kfroz hK (by omega) (by omega) j).trans (h.fh j), hH := hH, hHs := Nat.lt_of_lt_of_le hHs hK.size }
/-- .. behind a change that leaves the two boxes and the reader's block alone -/
theorem HdSt.other {M0 : Nat} (h0 : Rdr w g A n c M0) (h : HdSt w wx g A n c M H g1 h1 k1) (hk : Kp g w wy) (hs : wx.heap.size ≤ wy.heap.size) (hr : wy.heap[g]? = wx.heap[g]?) (hw : wy.heap[w.heap.size]? = wx.heap[w.heap.size]?) (hh : wy.heap[H]? = wx.heap[H]?) : HdSt w wy g A n c M H g1 h1 k1 := by
  have cw : ∀ o, wy.cell? ⟨w.heap.size, o, none⟩ = wx.cell? ⟨w.heap.size, o, none⟩ := fun o => World.cell?_of_block (w := wx) hw
  have ch : ∀ o, wy.cell? ⟨H, o, none⟩ = wx.cell? ⟨H, o, none⟩ := fun o => World.cell?_of_block (w := wx) hh
  exact { rd := h0.final h.rd hr hk, kp := hk, r0 := (cw _).trans h.r0, r1 := (cw _).trans h.r1, r2 := (cw _).trans h.r2, fr := fun j => (World.frozen?_of_block (w := wx) hw).trans (h.fr j), x0 := (ch _).trans h.x0, x1 := (ch _).trans h.x1, x2 := (ch _).trans h.x2, fh := fun j => (World.frozen?_of_block (w := wx) hh).trans (h.fh j), hH := h.hH, hHs := Nat.lt_of_lt_of_le h.hHs hs }
theorem HdSt.set (h : HdSt w wx g A n c M H g1 h1 k1) {M0 : Nat} (h0 : Rdr w g A n c M0) (x y z : Int) : HdSt w (t3 wx H x y z) g A n c M H x y z := by
  have hg := h0.lt
  have hH := h.hH
  have hHs := h.hHs
  have kk : Kp g w (t3 wx H x y z) := ((h.kp.setCell (p := ⟨H, 0, none⟩) (Or.inr (Nat.le_of_lt hH)) _).setCell (p := ⟨H, 1, none⟩) (Or.inr (Nat.le_of_lt hH)) _).setCell (p := ⟨H, 2, none⟩) (Or.inr (Nat.le_of_lt hH)) _
  have ne : ∀ (j o : Nat), (⟨H, j, none⟩ : Addr) ≠ ⟨w.heap.size, o, none⟩ := fun j o e => by injection e with e1; omega
  have cw : ∀ o, (t3 wx H x y z).cell? ⟨w.heap.size, o, none⟩ = wx.cell? ⟨w.heap.size, o, none⟩ := fun o => by
    unfold t3
    rw [World.cell?_setCell_other _ _ _ _ (ne _ _), World.cell?_setCell_other _ _ _ _ (ne _ _), World.cell?_setCell_other _ _ _ _ (ne _ _)]
  have fw : ∀ a, (t3 wx H x y z).frozen? a = wx.frozen? a := fun a => by
    unfold t3
    rw [World.frozen?_setCell, World.frozen?_setCell, World.frozen?_setCell]
  have hr : (t3 wx H x y z).heap[g]? = wx.heap[g]? := by
    unfold t3
    rw [Below.heap_setCell _ _ _ _ (by simp; omega), Below.heap_setCell _ _ _ _ (by simp; omega), Below.heap_setCell _ _ _ _ (by simp; omega)]
  refine { rd := h0.final h.rd hr kk, kp := kk, r0 := (cw _).trans h.r0, r1 := (cw _).trans h.r1, r2 := (cw _).trans h.r2, fr := fun j => (fw _).trans (h.fr j), x0 := ?_, x1 := ?_, x2 := ?_, fh := fun j => (fw _).trans (h.fh j), hH := hH, hHs := by unfold t3; simpa [World.size_setCell] using hHs }
  · unfold t3
    rw [World.cell?_setCell_other _ _ _ _ (by simp), World.cell?_setCell_other _ _ _ _ (by simp), World.cell?_setCell_same _ _ _ h.x0]
  · unfold t3
    rw [World.cell?_setCell_other _ _ _ _ (by simp), World.cell?_setCell_same _ _ _ ((World.cell?_setCell_other _ _ _ _ (by simp)).trans h.x1)]
  · unfold t3
    rw [World.cell?_setCell_same _ _ _ ((World.cell?_setCell_other _ _ _ _ (by simp)).trans ((World.cell?_setCell_other _ _ _ _ (by simp)).trans h.x2))]
end
/-- a device in a row of its own: none of its blocks is box H -/
structure DvSt (w wx : World) (H gd m c' : Nat) (G : Nat → Nat) (ds : List Bl) : Prop where
  row : DvRow wx (w.heap.size + 1) gd m m G ds
  cap : RowC wx gd m c'
  gH : gd ≠ H
  GH : ∀ i, i < m → G i ≠ H
  dv : deviceValidF ds = true
section
variable {w wx wy : World} {g H gd m c' : Nat} {G : Nat → Nat} {ds : List Bl}
theorem DvSt.len (h : DvSt w wx H gd m c' G ds) : ds.length = m := h.row.1
theorem DvSt.step (h : DvSt w wx H gd m c' G ds) (hg : g < w.heap.size) (hK : Kp g wx wy) : DvSt w wy H gd m c' G ds :=
  { row := h.row.keepK hK (by omega), cap := h.cap.of_heap (hK.block gd h.cap.lt (fun e => by injection e with e1; have := h.row.2.1; omega)), gH := h.gH, GH := h.GH, dv := h.dv }
theorem DvSt.setH (h : DvSt w wx H gd m c' G ds) (j : Nat) (v : Value) : DvSt w (wx.setCell ⟨H, j, none⟩ v) H gd m c' G ds :=
  { row := h.row.setOut (a := ⟨H, j, none⟩) (Ne.symm h.gH) (fun i hi => Ne.symm (h.GH i hi)) v, cap := h.cap.setCell _ _ _, gH := h.gH, GH := h.GH, dv := h.dv }
theorem DvSt.set3 (h : DvSt w wx H gd m c' G ds) (x y z : Int) : DvSt w (t3 wx H x y z) H gd m c' G ds := ((h.setH 0 _).setH 1 _).setH 2 _
theorem DvSt.wear (h : DvSt w wx H gd m c' G ds) (p : Nat) (hp : p < m) (x : Int) (hx : 0 ≤ x ∧ x ≤ 100) : DvSt w (wx.setCell ⟨gd, p * 2, none⟩ (.int .i64 x)) H gd m c' G (ds.set p ⟨x, (blAt ds p).pages⟩) :=
  { row := h.row.setWear p hp x, cap := h.cap.setCell _ _ _, gH := h.gH, GH := h.GH, dv := dv_wear ds m p x h.len h.dv hp hx }
end
/-- a device that can be read, in blocks from lo on -/
def DevFr (w : World) (lo : Nat) (A : Option Addr) (n : Nat) (ds : List Bl) : Prop :=
  ds.length = n ∧ n ≤ 13 ∧ (0 < n → ∃ b o, A = some ⟨b, o, none⟩ ∧ lo ≤ b ∧ b < w.heap.size ∧ ∀ i, i < n → ∃ A' m c', w.cell? ⟨b, o + i * 2, none⟩ = some (.int .i64 (blAt ds i).wear) ∧ w.cell? ⟨b, o + i * 2 + 1, none⟩ = some (.slice A' m c') ∧ PgsFr w lo A' m (blAt ds i).pages)
section
variable {w w' : World} {lo n g : Nat} {A : Option Addr} {ds : List Bl}
theorem DevFr.at (h : DevFr w lo A n ds) : DevAt w A n ds :=
  ⟨h.1, by have := h.2.1; omega, fun hn => by
    obtain ⟨b, o, e, _, _, hc⟩ := h.2.2 hn
    refine ⟨b, o, e, fun i hi => ?_⟩
    obtain ⟨A', m, c', q1, q2, q3⟩ := hc i hi
    exact ⟨A', m, c', q1, q2, q3.at⟩⟩
theorem DevFr.keepK (h : DevFr w lo A n ds) (hK : Kp g w w') (hg : g < lo) : DevFr w' lo A n ds :=
  ⟨h.1, h.2.1, fun hn => by
    obtain ⟨b, o, e, hl, hz, hc⟩ := h.2.2 hn
    refine ⟨b, o, e, hl, Nat.lt_of_lt_of_le hz hK.size, fun i hi => ?_⟩
    obtain ⟨A', m, c', q1, q2, q3⟩ := hc i hi
    exact ⟨A', m, c', (hK.cell hz (by omega)).trans q1, (hK.cell hz (by omega)).trans q2, q3.keepK hK hg⟩⟩
theorem DevFr.keep (h : DevFr w lo A n ds) (hb : Below w.heap.size w w') : DevFr w' lo A n ds :=
  ⟨h.1, h.2.1, fun hn => by
    obtain ⟨b, o, e, hl, hz, hc⟩ := h.2.2 hn
    refine ⟨b, o, e, hl, Nat.lt_of_lt_of_le hz hb.size, fun i hi => ?_⟩
    obtain ⟨A', m, c', q1, q2, q3⟩ := hc i hi
    exact ⟨A', m, c', (hb.cell (p := ⟨b, _, none⟩) hz).trans q1, (hb.cell (p := ⟨b, _, none⟩) hz).trans q2, q3.keep hb⟩⟩
theorem DevFr.setLow (h : DevFr w lo A n ds) {a : Addr} (ha : a.block < lo) (v : Value) : DevFr (w.setCell a v) lo A n ds :=
  ⟨h.1, h.2.1, fun hn => by
    obtain ⟨b, o, e, hl, hz, hc⟩ := h.2.2 hn
    have ne : ∀ q, a ≠ (⟨b, q, none⟩ : Addr) := fun q e2 => by rw [e2] at ha; simp only [] at ha; omega
    refine ⟨b, o, e, hl, by rw [World.size_setCell]; exact hz, fun i hi => ?_⟩
    obtain ⟨A', m, c', q1, q2, q3⟩ := hc i hi
    exact ⟨A', m, c', (World.cell?_setCell_other _ _ _ _ (ne _)).trans q1, (World.cell?_setCell_other _ _ _ _ (ne _)).trans q2, q3.setLow ha v⟩⟩
theorem DevFr.nil (w : World) (lo : Nat) (A : Option Addr) : DevFr w lo A 0 [] := ⟨rfl, by omega, fun h => absurd h (by omega)⟩
end
theorem DvSt.fr {w wx : World} {H gd m c' : Nat} {G : Nat → Nat} {ds : List Bl} (h : DvSt w wx H gd m c' G ds) : DevFr wx (w.heap.size + 1) (some ⟨gd, 0, none⟩) m ds := by
  have hm := dv_len ds m h.len h.dv
  refine ⟨h.len, by omega, fun _ => ⟨gd, 0, rfl, h.row.2.1, h.row.2.2.1, fun i hi => ?_⟩⟩
  obtain ⟨q1, q2, q3, q4, A, m', c, hm', q5, q6, q7⟩ := h.row.2.2.2.2.2 i hi
  have h4 := bv_len _ (dv_at ds m i h.len h.dv hi)
  obtain rfl : m' = 4 := (q7.at hm').1.symm.trans h4
  refine ⟨A, 4, c, by rw [Nat.zero_add]; exact q5, by rw [Nat.zero_add]; exact q6, ?_⟩
  rcases q7 with q7 | ⟨rfl, q7⟩
  · omega
  · exact q7.fr q1
/-- a device out of a row of the call's own -/
theorem fr_of_own {w : World} {lo n : Nat} {v : Value} {xs : List Value} {ds : List Bl} (h : w.ownsRow lo 25 2 v n xs) (hn : 0 < n) (hn13 : n ≤ 13) (hl : ds.length = n)
    (hx : ∀ i, i < n → ∃ A' m c', xs[i * 2]? = some (.int .i64 (blAt ds i).wear) ∧ xs[i * 2 + 1]? = some (.slice A' m c') ∧ PgsFr w lo A' m (blAt ds i).pages) :
    ∃ A c, v = .slice A n c ∧ n ≤ c ∧ DevFr w lo A n ds := by
  rcases h.2 with ⟨_, h0⟩ | ⟨g, cap, cur, rfl, hb, hg, hnc, hcm, hcs, htake⟩
  · omega
  · have hc : ∀ j, j < n * 2 → w.cell? ⟨g, j, none⟩ = xs[j]? := fun j hj => by
      rw [cell_of_row w g _ cur _ _ hg, ← Array.getElem?_toList, ← htake, List.getElem?_take, if_pos (by omega)]
    refine ⟨_, cap, rfl, hnc, hl, hn13, fun _ => ⟨g, 0, rfl, hb, (Array.getElem?_eq_some_iff.1 hg).1, fun i hi => ?_⟩⟩
    obtain ⟨A', m, c', q1, q2, q3⟩ := hx i hi
    exact ⟨A', m, c', by rw [Nat.zero_add, hc _ (by omega)]; exact q1, by rw [Nat.zero_add, hc _ (by omega)]; exact q2, q3⟩
theorem PgsFr.grown {w w' : World} {lo n : Nat} {A : Option Addr} {ps : List Pg} {row : Option Nat} (h : PgsFr w lo A n ps) (hg : w.grownBy w' row) (hne : ∀ b, lo ≤ b → row ≠ some b) : PgsFr w' lo A n ps :=
  ⟨h.1, h.2.1, fun hn => by
    obtain ⟨b, o, e, hl, hz, hc⟩ := h.2.2 hn
    exact ⟨b, o, e, hl, Nat.lt_of_lt_of_le hz hg.size, fun i hi => (hc i hi).sameB (fun o => World.cell?_of_block (w := w) (hg.block b hz (fun e => hne b hl e.symm)))⟩⟩
theorem PgsFr.lower {w : World} {lo lo' n : Nat} {A : Option Addr} {ps : List Pg} (h : PgsFr w lo A n ps) (hl : lo' ≤ lo) : PgsFr w lo' A n ps :=
  ⟨h.1, h.2.1, fun hn => by
    obtain ⟨b, o, e, h1, h2⟩ := h.2.2 hn
    exact ⟨b, o, e, Nat.le_trans hl h1, h2⟩⟩
theorem Kp.grown {g : Nat} {a b c : World} {row : Option Nat} (h : Kp g a b) (hg : b.grownBy c row) (hr : ∀ q, row = some q → a.heap.size ≤ q) : Kp g a c :=
  ⟨hg.os.trans h.os, hg.tape.trans h.tape, hg.output.trans h.output, Nat.le_trans h.size hg.size, fun k hk hne => (hg.block k (Nat.lt_of_lt_of_le hk h.size) (fun e => by have := hr k e.symm; omega)).trans (h.block k hk hne)⟩
theorem blAt_append (ds : List Bl) (b : Bl) (n i : Nat) (hl : ds.length = n) (hi : i < n + 1) : blAt (ds ++ [b]) i = if i = n then b else blAt ds i := by
  by_cases e : i = n
  · subst e; simp [blAt, List.getD, hl]
  · rw [if_neg e]; simp [blAt, List.getD, List.getElem?_append_left (show i < ds.length by omega)]
theorem flat2_get (ds : List Bl) (G C : Nat → Nat) (n i : Nat) (hi : i < n) : (flat2 ds G C n)[i * 2]? = some (.int .i64 (blAt ds i).wear) ∧ (flat2 ds G C n)[i * 2 + 1]? = some (.slice (some ⟨G i, 0, none⟩) 4 (C i)) := by
  rw [flat2_at _ _ _ _ _ (by omega), flat2_at _ _ _ _ _ (by omega), if_pos (by omega), if_neg (by omega), show i * 2 / 2 = i by omega, show (i * 2 + 1) / 2 = i by omega]
  exact ⟨rfl, rfl⟩
/-- a device and heads, drawn -/
def DrawnD (g : Nat) (A : Option Addr) (n c M : Nat) (w : World) (e : Ending) (w' : World) : Prop :=
  ∃ (A' : Option Addr) (m c' : Nat) (ds : List Bl) (g1 h1 k1 : Int), e = .returned (.tuple #[.slice A' m c', .agg #[.int .i64 g1, .int .i64 h1, .int .i64 k1]]) ∧ m ≤ c' ∧ DevFr w' (w.heap.size + 1) A' m ds ∧ Rdr w' g A n c M ∧ Kp g w w'
theorem drawnD {w wx : World} {g n c M M0 H : Nat} {A : Option Addr} {g1 h1 k1 : Int} (h0 : Rdr w g A n c M0) (h : HdSt w wx g A n c M H g1 h1 k1) {A' : Option Addr} {m c' : Nat} {ds : List Bl} (hmc : m ≤ c') (hd : DevFr wx (w.heap.size + 1) A' m ds) :
    DrawnD g A n c M w (.returned (.tuple #[.slice A' m c', .agg #[.int .i64 g1, .int .i64 h1, .int .i64 k1]])) (t3 wx w.heap.size g1 h1 k1) := by
  have hg := h0.lt
  have kk : Kp g w (t3 wx w.heap.size g1 h1 k1) := ((h.kp.setCell (p := ⟨w.heap.size, 0, none⟩) (Or.inr (Nat.le_refl _)) _).setCell (p := ⟨w.heap.size, 1, none⟩) (Or.inr (Nat.le_refl _)) _).setCell (p := ⟨w.heap.size, 2, none⟩) (Or.inr (Nat.le_refl _)) _
  have hr : (t3 wx w.heap.size g1 h1 k1).heap[g]? = wx.heap[g]? := by
    unfold t3
    rw [Below.heap_setCell _ _ _ _ (by simp; omega), Below.heap_setCell _ _ _ _ (by simp; omega), Below.heap_setCell _ _ _ _ (by simp; omega)]
  exact ⟨A', m, c', ds, g1, h1, k1, rfl, hmc, ((hd.setLow (a := ⟨w.heap.size, 0, none⟩) (Nat.lt_succ_self _) _).setLow (a := ⟨w.heap.size, 1, none⟩) (Nat.lt_succ_self _) _).setLow (a := ⟨w.heap.size, 2, none⟩) (Nat.lt_succ_self _) _, h0.final h.rd hr kk, kk⟩
end Go.Proofs.Yteekikaebmkioaa
