/- The reference's devices once more, with the capacity of their slice. -/
import Derived.Test.YteekikaebmkioaaNewDev
import Derived.Test.YteekikaebmkioaaAppPlain
namespace Go.Proofs.Yteekikaebmkioaa
open Go.RowKit
set_option linter.unusedVariables false

/-- block g holds a row of blocks with room for c of them -/
def RowC (w : World) (g n c : Nat) : Prop := ∃ cur, w.heap[g]? = some (.cells cur 25 (0, 0)) ∧ n ≤ c ∧ c ≤ maxLen ∧ cur.size = c * 2
theorem RowC.lt {w : World} {g n c : Nat} (h : RowC w g n c) : g < w.heap.size := by
  obtain ⟨cur, h1, _⟩ := h
  exact (Array.getElem?_eq_some_iff.1 h1).1
theorem RowC.of_heap {w w' : World} {g n c : Nat} (h : RowC w g n c) (he : w'.heap[g]? = w.heap[g]?) : RowC w' g n c := by
  obtain ⟨cur, h1, h2⟩ := h
  exact ⟨cur, he.trans h1, h2⟩
theorem RowC.keep {w w' : World} {g n c : Nat} (h : RowC w g n c) (hb : Below w.heap.size w w') : RowC w' g n c := h.of_heap (hb.block g h.lt)
theorem RowC.setCell {w : World} {g n c : Nat} (h : RowC w g n c) (b o : Nat) (v : Value) : RowC (w.setCell ⟨b, o, none⟩ v) g n c := by
  by_cases e : g = b
  · subst e
    obtain ⟨cur, h1, h2, h3, h4⟩ := h
    refine ⟨cur.setIfInBounds o v, ?_, h2, h3, by rw [Array.size_setIfInBounds]; exact h4⟩
    simp [World.setCell, Array.getElem?_modify, h1]
  · exact h.of_heap (Below.heap_setCell _ _ _ _ e)
theorem RowC.s2 {w : World} {g n c g' o : Nat} {x : Int} {A : Option Addr} {m c' : Nat} (h : RowC w g n c) : RowC (s2 w g' o x A m c') g n c := by
  unfold Go.Proofs.Yteekikaebmkioaa.s2
  exact (h.setCell _ _ _).setCell _ _ _
theorem own_devC {w : World} {base n : Nat} {v : Value} {ds : List Bl} {G C : Nat → Nat} (hl : ds.length = n) (hn : 0 < n) (h : w.ownsRow base 25 2 v n (flat2 ds G C n))
    (hG : ∀ i, i < n → base ≤ G i ∧ (∀ j, j < n → j ≠ i → G j ≠ G i) ∧ PgRow w (G i) 4 (blAt ds i).pages) : ∃ g c, v = .slice (some ⟨g, 0, none⟩) n c ∧ DvRow w base g n n G ds ∧ RowC w g n c := by
  obtain ⟨g', c', e', h1⟩ := own_dev hl hn h hG
  refine ⟨g', c', e', h1, ?_⟩
  rcases h.2 with ⟨_, h0⟩ | ⟨g, cap, cur, e2, hb, hg, hnc, hcm, hcs, htake⟩
  · omega
  · rw [e'] at e2
    simp only [Value.slice.injEq, Option.some.injEq, Addr.mk.injEq, and_true, true_and] at e2
    obtain ⟨rfl, rfl⟩ := e2
    exact ⟨cur, hg, hnc, hcm, hcs⟩
/-- such a row as a list of cells -/
theorem own_of_row {w : World} {lo g n c : Nat} {G : Nat → Nat} {ds : List Bl} (h : DvRow w lo g n n G ds) (hc : RowC w g n c) (h4 : ∀ i, i < n → (blAt ds i).pages.length = 4) :
    ∃ C, w.ownsRow lo 25 2 (.slice (some ⟨g, 0, none⟩) n c) n (flat2 ds G C n) ∧ ∀ i, i < n → lo ≤ G i ∧ (∀ j, j < n → j ≠ i → G j ≠ G i) ∧ PgRow w (G i) 4 (blAt ds i).pages := by
  have hx : ∀ i, ∃ c', i < n → w.cell? ⟨g, i * 2, none⟩ = some (.int .i64 (blAt ds i).wear) ∧ w.cell? ⟨g, i * 2 + 1, none⟩ = some (.slice (some ⟨G i, 0, none⟩) 4 c') ∧ PgRow w (G i) 4 (blAt ds i).pages := fun i => by
    by_cases hi : i < n
    · obtain ⟨_, _, _, _, A, m, c', hm, q1, q2, q3⟩ := h.2.2.2.2.2 i hi
      obtain rfl : m = 4 := (q3.at hm).1.symm.trans (h4 i hi)
      rcases q3 with q3 | ⟨rfl, q3⟩
      · omega
      · exact ⟨c', fun _ => ⟨q1, q2, q3⟩⟩
    · exact ⟨0, fun h => absurd h hi⟩
  obtain ⟨C, hC⟩ := Classical.axiomOfChoice hx
  refine ⟨C, ?_, fun i hi => ?_⟩
  · obtain ⟨cur, e1, e2, e3, e4⟩ := hc
    refine ⟨by rw [flat2_len], Or.inr ⟨g, c, cur, rfl, h.2.1, e1, e2, e3, e4, ?_⟩⟩
    refine List.ext_getElem? fun j => ?_
    rw [List.getElem?_take]
    by_cases hj : j < n * 2
    · rw [if_pos hj, flat2_at _ _ _ _ _ hj, Array.getElem?_toList, ← cell_of_row w g j cur _ _ e1]
      obtain ⟨q1, q2, _⟩ := hC (j / 2) (by omega)
      by_cases e : j % 2 = 0
      · rw [if_pos e]
        rw [show j / 2 * 2 = j by omega] at q1
        exact q1
      · rw [if_neg e]
        rw [show j / 2 * 2 + 1 = j by omega] at q2
        exact q2
    · rw [if_neg hj, List.getElem?_eq_none (by rw [flat2_len]; omega)]
  · obtain ⟨q1, _, _, q4, _⟩ := h.2.2.2.2.2 i hi
    exact ⟨q1, q4, (hC i hi).2.2⟩

set_option maxHeartbeats 1000000 in
theorem sCopyDevC (A : Option Addr) (n c : Nat) (ds : List Bl) (w : World) (h : DevAt w A n ds) (hv : deviceValidF ds = true) :
    Calls Try.prog 69 #[.slice A n c] w fun e w' => ∃ g G c', e = .returned (.slice (some ⟨g, 0, none⟩) n c') ∧ RowC w' g n c' ∧ DvRow w' w.heap.size g n n G ds ∧ Below w.heap.size w w' := by
  have HP := Lib.hid h
  have hm := h.2.1
  have HL := Lib.hid h.1
  have hn1 := (dv_len ds n h.1 hv).1
  have hn12 := (dv_len ds n h.1 hv).2
  have HV := Lib.hid (fun k hk => bv_len _ (dv_at ds n k h.1 hv hk))
  clear h hv
  obtain ⟨i0, hi, hzz⟩ := Option.map_eq_some_iff.1 infoBlock
  simp only [Prod.mk.injEq] at hzz
  obtain ⟨hz0, hz1, hz2⟩ := hzz
  have HI := Lib.hid hi
  have HZ0 := Lib.hid hz0
  have HZ1 := Lib.hid hz1
  have HZ2 := Lib.hid hz2
  clear hi hz0 hz1 hz2
  go_enter Try.func69, Try.ntmps69
  go_wp2
  have HB0 := Lib.hid (bel_1 w (.cells #[] 25))
  have HO0 : Hid ((w.alloc (.cells #[] 25)).ownsRow w.heap.size 25 2 (.slice (some ⟨w.heap.size, 0, none⟩) 0 0) 0 []) := Lib.hid (World.ownsRow_made w #[] 0 (Nat.le_refl _) (by unfold maxLen; omega) (by simp))
  generalize w.alloc (.cells #[] 25) = W at *
  go_loopg [3, 4] n (fun gk v i wr => ∃ (k : Nat) (G C : Nat → Nat), gk + k = n ∧ k ≤ n ∧ i = .int .i64 (k : Int) ∧ Hid (wr.ownsRow w.heap.size 25 2 v k (flat2 ds G C k) ∧ ∀ i, i < k → w.heap.size ≤ G i ∧ (∀ j, j < k → j ≠ i → G j ≠ G i) ∧ PgRow wr (G i) 4 (blAt ds i).pages) ∧ Hid (Below w.heap.size w wr))
  case atStart => exact ⟨0, fun _ => 0, fun _ => 0, by omega, by omega, rfl, ⟨HO0.out, fun i hi => absurd hi (by omega)⟩, HB0.out⟩
  case round =>
    obtain ⟨k, G, C, hgk, hk, rfl, HQ, HB⟩ := hrel
    by_cases hkn : k = n
    · obtain ⟨g, cc, rfl, hD, hCC⟩ := own_devC (by rw [HL.out, hkn]) (by omega) HQ.out.1 HQ.out.2
      have HD := Lib.hid hD
      clear hD
      subst hkn
      go_wp2
      go_ret
      exact ⟨g, G, cc, rfl, hCC, HD.out, HB.out⟩
    · obtain ⟨b, o, rfl, hC⟩ := HP.out.2.2 (by omega)
      obtain ⟨A', m, c', c0, c1, hps⟩ := (hC k (by omega)).keepS (stays_below HB.out)
      obtain rfl : m = 4 := hps.1.symm.trans (HV.out k (by omega))
      have HM := Lib.hid hps
      clear hC hps
      rcases hp : blAt ds k with ⟨z, ps⟩
      rw [hp] at c0 HM
      simp only [] at c0 HM
      have HE := Lib.hid hp
      clear hp
      go_wp2_with fail
      refine (sCopy _ _ _ ps _ HM.out).mono ?_
      rintro e w1 ⟨g1, c1', rfl, hg1, hR1, hb1⟩
      have HX := Lib.hid (bel_t hb1 (bel_1 w1 (.cells #[.int .i64 z, .slice (some ⟨g1, 0, none⟩) 4 c1'] 25)))
      have HO1 := Lib.hid (own_keep HQ.out.1 HX.out)
      have HR1 := Lib.hid (hR1.keep (bel_1 w1 (.cells #[.int .i64 z, .slice (some ⟨g1, 0, none⟩) 4 c1'] 25)))
      have HG1 : Hid (∀ i, i < k → PgRow (w1.alloc (.cells #[.int .i64 z, .slice (some ⟨g1, 0, none⟩) 4 c1'] 25)) (G i) 4 (blAt ds i).pages) := Lib.hid (fun i hi => (HQ.out.2 i hi).2.2.keep HX.out)
      have HBX := Lib.hid (bel_t HB.out HX.out)
      have HLT := Lib.hid HQ.out.1.lt
      have hsz : w.heap.size ≤ wr.heap.size := HB.out.size
      have hsz1 : wr.heap.size ≤ (w1.alloc (.cells #[.int .i64 z, .slice (some ⟨g1, 0, none⟩) 4 c1'] 25)).heap.size := HX.out.size
      clear hb1 hR1
      go_wp2_with (refine wpList_append_own _ rfl (.tmp 12) (.tmp 18) 41 rfl w.heap.size 25 i0 (.agg #[.int .i64 0, .slice none 0 0]) 2 32 Try.underlying41 HI.out HZ0.out HZ1.out HZ2.out rfl (by decide) _ k (flat2 ds G C k) rfl HO1.out ⟨w1.heap.size, 0, none⟩ 1 1 [.int .i64 z, .slice (some ⟨g1, 0, none⟩) 4 c1'] rfl rfl (cell_two _ _ _ _) (fun x hx => by simp at hx; rcases hx with rfl | rfl <;> rfl) (by unfold maxLen; omega) (by omega) (by omega) ?_; intro v' w3 hown' hgrow3 hnil3)
      have HO3 := Lib.hid hown'
      have HG3 := Lib.hid hgrow3
      clear hown' hgrow3 hnil3
      go_wp2
      go_roundg (gk - 1)
      case rel =>
        rw [flat2_succ ds G C k g1 c1' z (by rw [HE.out])] at HO3
        refine ⟨k + 1, _, _, by omega, by omega, by simp, ⟨HO3.out, fun i hi => ?_⟩, (HBX.out.grown HG3.out (by omega) (fun q hq => (HLT.out q hq).1) : Below _ _ _)⟩
        by_cases e : i = k
        · subst e
          simp only [↓reduceIte, HE.out]
          refine ⟨by omega, fun j hj hji => ?_, HR1.out.grown HG3.out (fun e2 => by have := (HLT.out _ e2).2; omega)⟩
          rw [if_neg hji]
          have := (HQ.out.2 j (by omega)).2.2.2.1
          omega
        · simp only [if_neg e]
          obtain ⟨h1, h2, h3⟩ := HQ.out.2 i (by omega)
          refine ⟨h1, fun j hj hji => ?_, (HG1.out i (by omega)).grown HG3.out (own_ne HQ.out.1 (by omega) h3)⟩
          by_cases ej : j = k
          · rw [if_pos ej]; have := h3.2.1; omega
          · rw [if_neg ej]; exact h2 j (by omega) hji
      case measure => omega

set_option maxHeartbeats 1000000 in
theorem sNewDeviceC (n : Nat) (hn1 : 1 ≤ n) (hn12 : n ≤ 12) (w : World) :
    Calls Try.prog 77 #[.int .i64 (n : Int)] w fun e w' => ∃ g G c', e = .returned (.slice (some ⟨g, 0, none⟩) n c') ∧ RowC w' g n c' ∧ DvRow w' w.heap.size g n n G (newDeviceF (n : Int)) ∧ Below w.heap.size w w' := by
  have hin : inB (n : Int) 1 12 = true := inB_t (by omega) (by omega)
  obtain ⟨ds, HDS⟩ : ∃ ds, Hid (newDeviceF (n : Int) = ds) := ⟨_, rfl⟩
  have hds := HDS.out.symm.trans (nd_2 n ⟨hn1, hn12⟩)
  have HL : Hid (ds.length = n) := Lib.hid (by rw [hds]; simp)
  have HE : Hid (∀ k, k < n → blAt ds k = ⟨0, [Pg.zero, Pg.zero, Pg.zero, Pg.zero]⟩) := Lib.hid (fun k hk => by rw [hds]; exact rep_at n k _ hk)
  rw [HDS.out]
  clear hds HDS
  obtain ⟨i0, hi, hzz⟩ := Option.map_eq_some_iff.1 infoBlock
  simp only [Prod.mk.injEq] at hzz
  obtain ⟨hz0, hz1, hz2⟩ := hzz
  have HI := Lib.hid hi
  have HZ0 := Lib.hid hz0
  have HZ1 := Lib.hid hz1
  have HZ2 := Lib.hid hz2
  clear hi hz0 hz1 hz2
  go_enter Try.func77, Try.ntmps77
  go_wp2
  have HB0 := Lib.hid (bel_1 w (.cells #[] 25))
  have HO0 : Hid ((w.alloc (.cells #[] 25)).ownsRow w.heap.size 25 2 (.slice (some ⟨w.heap.size, 0, none⟩) 0 0) 0 []) := Lib.hid (World.ownsRow_made w #[] 0 (Nat.le_refl _) (by unfold maxLen; omega) (by simp))
  generalize w.alloc (.cells #[] 25) = W at *
  go_loopg [3, 4] n (fun gk v i wr => ∃ (k : Nat) (G C : Nat → Nat), gk + k = n ∧ k ≤ n ∧ i = .int .i64 (k : Int) ∧ Hid (wr.ownsRow w.heap.size 25 2 v k (flat2 ds G C k) ∧ ∀ i, i < k → w.heap.size ≤ G i ∧ (∀ j, j < k → j ≠ i → G j ≠ G i) ∧ PgRow wr (G i) 4 (blAt ds i).pages) ∧ Hid (Below w.heap.size w wr))
  case atStart => exact ⟨0, fun _ => 0, fun _ => 0, by omega, by omega, rfl, ⟨HO0.out, fun i hi => absurd hi (by omega)⟩, HB0.out⟩
  case round =>
    obtain ⟨k, G, C, hgk, hk, rfl, HQ, HB⟩ := hrel
    by_cases hkn : k = n
    · obtain ⟨g, cc, rfl, hD, hCC⟩ := own_devC (by rw [HL.out, hkn]) (by omega) HQ.out.1 HQ.out.2
      have HD := Lib.hid hD
      clear hD
      subst hkn
      go_wp2
      go_ret
      exact ⟨g, G, cc, rfl, hCC, HD.out, HB.out⟩
    · have hkl : (k : Int) < (n : Int) := by omega
      go_wp2_with fail
      refine (l1In_any _ _ _ _).mono ?_
      rw [hin]
      rintro e w' ⟨rfl, rfl⟩
      go_wp2_with fail
      refine (sNewBlock _ _).mono ?_
      rintro e w1 ⟨v1, rfl, hO1, hb1⟩
      obtain ⟨g1, c1', rfl, hg1, hR1⟩ := blk0 hO1
      have HX := Lib.hid (bel_t hb1 (bel_1 w1 (.cells #[.int .i64 0, .slice (some ⟨g1, 0, none⟩) 4 c1'] 25)))
      have HO1 := Lib.hid (own_keep HQ.out.1 HX.out)
      have HR1 := Lib.hid (hR1.keep (bel_1 w1 (.cells #[.int .i64 0, .slice (some ⟨g1, 0, none⟩) 4 c1'] 25)))
      have HG1 : Hid (∀ i, i < k → PgRow (w1.alloc (.cells #[.int .i64 0, .slice (some ⟨g1, 0, none⟩) 4 c1'] 25)) (G i) 4 (blAt ds i).pages) := Lib.hid (fun i hi => (HQ.out.2 i hi).2.2.keep HX.out)
      have HBY := Lib.hid (bel_t HB.out HX.out)
      have HLT := Lib.hid HQ.out.1.lt
      have hsz : w.heap.size ≤ wr.heap.size := HB.out.size
      have hsz1 : wr.heap.size ≤ (w1.alloc (.cells #[.int .i64 0, .slice (some ⟨g1, 0, none⟩) 4 c1'] 25)).heap.size := HX.out.size
      clear hb1 hR1 hO1
      go_wp2_with (refine wpList_append_own _ rfl (.tmp 15) (.tmp 17) 41 rfl w.heap.size 25 i0 (.agg #[.int .i64 0, .slice none 0 0]) 2 32 Try.underlying41 HI.out HZ0.out HZ1.out HZ2.out rfl (by decide) _ k (flat2 ds G C k) rfl HO1.out ⟨w1.heap.size, 0, none⟩ 1 1 [.int .i64 0, .slice (some ⟨g1, 0, none⟩) 4 c1'] rfl rfl (cell_two _ _ _ _) (fun x hx => by simp at hx; rcases hx with rfl | rfl <;> rfl) (by unfold maxLen; omega) (by omega) (by omega) ?_; intro v' w3 hown' hgrow3 hnil3)
      have HO3 := Lib.hid hown'
      have HG3 := Lib.hid hgrow3
      clear hown' hgrow3 hnil3
      go_wp2
      go_roundg (gk - 1)
      case rel =>
        rw [flat2_succ ds G C k g1 c1' 0 (by rw [HE.out k (by omega)])] at HO3
        refine ⟨k + 1, _, _, by omega, by omega, by simp, ⟨HO3.out, fun i hi => ?_⟩, (HBY.out.grown HG3.out (by omega) (fun q hq => (HLT.out q hq).1) : Below _ _ _)⟩
        by_cases e : i = k
        · subst e
          simp only [↓reduceIte, HE.out i (by omega)]
          refine ⟨by omega, fun j hj hji => ?_, HR1.out.grown HG3.out (fun e2 => by have := (HLT.out _ e2).2; omega)⟩
          rw [if_neg hji]
          have := (HQ.out.2 j (by omega)).2.2.2.1
          omega
        · simp only [if_neg e]
          obtain ⟨h1, h2, h3⟩ := HQ.out.2 i (by omega)
          refine ⟨h1, fun j hj hji => ?_, (HG1.out i (by omega)).grown HG3.out (own_ne HQ.out.1 (by omega) h3)⟩
          by_cases ej : j = k
          · rw [if_pos ej]; have := h3.2.1; omega
          · rw [if_neg ej]; exact h2 j (by omega) hji
      case measure => omega

set_option maxHeartbeats 2000000 in
theorem sProgramC (A : Option Addr) (n c : Nat) (ds : List Bl) (k j : Nat) (fi pl va st : Int) (w : World) (h : DevAt w A n ds) (HPT : Put ds n k j ⟨true, fi, pl, va, st⟩) :
    Calls Try.prog 38 #[.slice A n c, .int .i64 (k : Int), .agg #[.bool true, .int .i64 fi, .int .i64 pl, .int .i64 va, .int .i64 st]] w fun e w' => ∃ g G c', e = .returned (.tuple #[.slice (some ⟨g, 0, none⟩) n c', .int .i64 (programF ds (k : Int) ⟨true, fi, pl, va, st⟩).2]) ∧ RowC w' g n c' ∧ DvRow w' w.heap.size g n n G (programF ds (k : Int) ⟨true, fi, pl, va, st⟩).1 ∧ Below w.heap.size w w' := by
  have hv := HPT.dv
  have hpv := HPT.pv
  have hk := HPT.k_lt
  have HWJ := Lib.hid (wb_4 _ _ j HPT.bv HPT.pv HPT.full HPT.next)
  have HP := Lib.hid h
  have hm := h.2.1
  have HL := Lib.hid h.1
  clear h
  go_enter Try.func38, Try.ntmps38
  go_wp2_with fail
  refine (sDeviceValid _ _ _ ds _ (HP.out.keep (bel_1 _ _))).mono ?_
  rw [hv]
  rintro e w1 ⟨rfl, hb1⟩
  have HB1 := Lib.hid (bel_t (bel_1 _ _) hb1)
  have p0 : w1.cell? ⟨w.heap.size, 0, none⟩ = some (.bool true) := stays_below hb1 _ _ _ (by simp [go_sem])
  have p1 : w1.cell? ⟨w.heap.size, 1, none⟩ = some (.int .i64 fi) := stays_below hb1 _ _ _ (by simp [go_sem])
  have p2 : w1.cell? ⟨w.heap.size, 2, none⟩ = some (.int .i64 pl) := stays_below hb1 _ _ _ (by simp [go_sem])
  have p3 : w1.cell? ⟨w.heap.size, 3, none⟩ = some (.int .i64 va) := stays_below hb1 _ _ _ (by simp [go_sem])
  have p4 : w1.cell? ⟨w.heap.size, 4, none⟩ = some (.int .i64 st) := stays_below hb1 _ _ _ (by simp [go_sem])
  clear hb1
  have HV := Lib.hid hv
  have hn12 := (dv_len ds n HL.out hv).2
  have hkI : (k : Int) < (n : Int) := by omega
  have hin : inB (k : Int) 0 ((n : Int) - 1) = true := inB_t (by omega) (by omega)
  go_wp2_with fail
  refine (l1In_any _ _ _ _).mono ?_
  rw [hin]
  rintro e w' ⟨rfl, rfl⟩
  go_wp2_with fail
  refine (sPageValid _ _ _ _ _ _).mono ?_
  rw [hpv]
  rintro e w2 ⟨rfl, hb2⟩
  have HB2 := Lib.hid (bel_t HB1.out hb2)
  replace p0 := stays_below hb2 _ _ _ p0
  replace p1 := stays_below hb2 _ _ _ p1
  replace p2 := stays_below hb2 _ _ _ p2
  replace p3 := stays_below hb2 _ _ _ p3
  replace p4 := stays_below hb2 _ _ _ p4
  clear hb2
  have HPV := Lib.hid hpv
  go_wp2_with fail
  refine (sCopyDevC _ _ _ ds _ (HP.out.keep HB2.out) HV.out).mono ?_
  rintro e w3 ⟨g, G, c3, rfl, hC3, hD3, hb3⟩
  have HC3 := Lib.hid hC3
  have HB3 := Lib.hid (bel_t HB2.out hb3)
  have HD3 := Lib.hid hD3
  replace p0 := stays_below hb3 _ _ _ p0
  replace p1 := stays_below hb3 _ _ _ p1
  replace p2 := stays_below hb3 _ _ _ p2
  replace p3 := stays_below hb3 _ _ _ p3
  replace p4 := stays_below hb3 _ _ _ p4
  have hw23 := hb3.size
  have hw02 := HB2.out.size
  clear hb3 hD3
  obtain ⟨b, o, rfl, hC⟩ := HP.out.2.2 (by omega)
  obtain ⟨A', m, c', c0, c1, hps⟩ := (hC k hk).keepS (stays_below HB3.out)
  have HM := Lib.hid hps
  have hsb : b < w3.heap.size := block_lt_of_cell c0
  have hsp : w.heap.size < w3.heap.size := block_lt_of_cell p0
  clear hC hps
  obtain ⟨⟨wb, nx⟩, HWB⟩ : ∃ r, Hid (writeBlockF (blAt ds k) ⟨true, fi, pl, va, st⟩ = r) := ⟨_, rfl⟩
  have hall := wb_all (blAt ds k) ⟨true, fi, pl, va, st⟩ (dv_at ds n k HL.out HV.out hk) HPV.out rfl
  rw [HWB.out] at hall
  simp only [] at hall
  obtain ⟨hl4, hnx4, hsame⟩ := hall
  have HSM := Lib.hid hsame
  clear hsame
  rcases hp : blAt ds k with ⟨z, ps⟩
  rw [hp] at c0 HM
  simp only [] at c0 HM
  have HE := Lib.hid hp
  have HW2 : Hid (writeBlockF ⟨z, ps⟩ ⟨true, fi, pl, va, st⟩ = (wb, nx)) := Lib.hid (by rw [← hp]; exact HWB.out)
  clear hp
  go_wp2_with fail
  refine reg_begin (by kernel_rfl) (fun hHeld => ?_)
  refine reg_take 0 36 (v := ?_) rfl rfl (by kernel_rfl) (by kernel_rfl) (by kernel_rfl) (fun _ _ _ h => h) (Or.inl ⟨by rfl, ?_⟩) hHeld ?_
  rotate_left 1
  · intro wS hSw; go_simp <;> with_reducible rfl
  simp only [put_lit, List.set_cons_zero, List.set_cons_succ]
  refine reg_take 1 37 (v := ?_) rfl rfl (by kernel_rfl) (by kernel_rfl) (by kernel_rfl) (fun _ _ _ h => h) (Or.inl ⟨by rfl, ?_⟩) hHeld ?_
  rotate_left 1
  · intro wS hSw; go_simp <;> with_reducible rfl
  simp only [put_lit, List.set_cons_zero, List.set_cons_succ]
  refine reg_take 2 38 (v := ?_) rfl rfl (by kernel_rfl) (by kernel_rfl) (by kernel_rfl) (fun _ _ _ h => h) (Or.inl ⟨by rfl, ?_⟩) hHeld ?_
  rotate_left 1
  · intro wS hSw; go_simp <;> with_reducible rfl
  simp only [put_lit, List.set_cons_zero, List.set_cons_succ]
  refine reg_take 3 39 (v := ?_) rfl rfl (by kernel_rfl) (by kernel_rfl) (by kernel_rfl) (fun _ _ _ h => h) (Or.inl ⟨by rfl, ?_⟩) hHeld ?_
  rotate_left 1
  · intro wS hSw; have hqS := bcellB hSw; go_simp <;> with_reducible rfl
  simp only [put_lit, List.set_cons_zero, List.set_cons_succ]
  refine reg_take 4 40 (v := ?_) rfl rfl (by kernel_rfl) (by kernel_rfl) (by kernel_rfl) (fun _ _ _ h => h) (Or.inl ⟨by rfl, ?_⟩) hHeld ?_
  rotate_left 1
  · intro wS hSw; have hqS := bcellB hSw; go_simp <;> with_reducible rfl
  simp only [put_lit, List.set_cons_zero, List.set_cons_succ]
  refine wpAnyH_ready (rs := [5, 9]) (by kernel_rfl) (by simp) ?_
  refine AllReadyH.cons rfl (fun K hK => ?_) ?_
  · skip
    go_simp
    refine (sWriteBlock _ _ _ _ ps _ _ _ _ _ _ (by first | exact HM.out.keep hHeld | exact HM.out.keep (reg_alloc hHeld (Nat.le_refl _) _))).mono ?_
    rw [HW2.out]
    simp only []
    rintro e w51 ⟨v5, rfl, ⟨A5, n5, c5, q5, rfl, hn5, hq5, hS5⟩, hb51⟩
    obtain rfl : n5 = 4 := (hS5.at hn5).1.symm.trans hl4
    have HS5 := Lib.hid hS5
    have hq5' : w3.heap.size ≤ q5 := by have := hHeld.size; (try simp at hq5); omega
    have hq5s : q5 < w51.heap.size := by rcases hS5 with h0 | h0; omega; exact h0.2.2.1
    clear hS5
    have hn51 : w3.heap.size ≤ w51.heap.size := Nat.le_trans hHeld.size hb51.size
    (try have hq5n : w3.heap.size < q5 := by (have h9 : (w3.alloc (.cells #[.int .i64 0, .slice none 0 0] _)).heap.size ≤ q5 := hq5; simp at h9; omega))
    go_wp2_with fail
    refine hK.out _ _ ?_ (fun hHeld => ?_)
    · exact reg_call hHeld hb51 (Nat.le_refl _)
    clear hK K
    (try simp only [put_lit, List.set_cons_zero, List.set_cons_succ])
    refine reg_take 6 35 (v := ?_) rfl rfl (by kernel_rfl) (by kernel_rfl) (by kernel_rfl) (fun _ _ _ h => h) (Or.inl ⟨by rfl, ?_⟩) hHeld ?_
    rotate_left 1
    · intro wS hSw; go_simp <;> with_reducible rfl
    simp only [put_lit, List.set_cons_zero, List.set_cons_succ]
    refine reg_take 7 42 (v := ?_) rfl rfl (by kernel_rfl) (by kernel_rfl) (by kernel_rfl) (fun _ _ _ h => h) (Or.inl ⟨by rfl, ?_⟩) hHeld ?_
    rotate_left 1
    · intro wS hSw; go_simp <;> with_reducible rfl
    simp only [put_lit, List.set_cons_zero, List.set_cons_succ]
    refine reg_take 8 43 (v := ?_) rfl rfl (by kernel_rfl) (by kernel_rfl) (by kernel_rfl) (fun _ _ _ h => h) (Or.inl ⟨by rfl, ?_⟩) hHeld ?_
    rotate_left 1
    · intro wS hSw; go_simp <;> with_reducible rfl
    simp only [put_lit, List.set_cons_zero, List.set_cons_succ]
    refine wpAnyH_ready (rs := [9]) (by kernel_rfl) (by simp) ?_
    refine AllReadyH.cons rfl (fun K hK => ?_) AllReadyH.nil
    go_simp
    refine hK.out _ _ ?_ (fun hHeld => ?_)
    · exact reg_alloc hHeld (Nat.le_refl _) _
    clear hK K
    (try simp only [put_lit, List.set_cons_zero, List.set_cons_succ])
    refine wpAnyH_ready (rs := [10]) (by kernel_rfl) (by simp) ?_
    refine AllReadyH.cons rfl (fun K hK => ?_) AllReadyH.nil
    go_simp
    refine hK.out _ _ ?_ (fun hHeld => ?_)
    · first | exact reg_swap hHeld (by first | with_reducible assumption | exact Nat.le_refl _ | (simp; done) | (simp; omega)) _ | exact (hHeld.setCell (p := ⟨w3.heap.size, 0, none⟩) (Nat.le_refl _) _).setCell (p := ⟨w3.heap.size, 1, none⟩) (Nat.le_refl _) _
    clear hK K
    (try simp only [put_lit, List.set_cons_zero, List.set_cons_succ])
    refine reg_take 11 10 (v := ?_) rfl rfl (by kernel_rfl) (by kernel_rfl) (by kernel_rfl) (fun _ _ _ h => h) (Or.inl ⟨by rfl, ?_⟩) hHeld ?_
    rotate_left 1
    · intro wS hSw; go_simp <;> with_reducible rfl
    simp only [put_lit, List.set_cons_zero, List.set_cons_succ]
    refine wpAnyH_done (by kernel_rfl) ?_ _
    obtain ⟨X, eX⟩ := leafW hHeld
    have x0 : X.cell? ⟨w51.heap.size, 0, none⟩ = some (.int .i64 wb.wear) := by rw [eX]; go_simp
    have x1 : X.cell? ⟨w51.heap.size, 1, none⟩ = some (.slice A5 4 c5) := by rw [eX]; go_simp
    have S5 : Hid (Sl X A5 4 q5 wb.pages) := Lib.hid (by rw [eX]; first | exact HS5.out.keep (bel_1 _ _) | exact (HS5.out.setOther (a := ⟨w3.heap.size, 0, none⟩) (by simp; omega) _).setOther (a := ⟨w3.heap.size, 1, none⟩) (by simp; omega) _)
    rw [← eX] at hHeld ⊢
    clear eX
    have hq5z : q5 < X.heap.size := by rcases S5.out with h0 | h0; omega; exact h0.2.2.1
    have HDX := Lib.hid (HD3.out.keep hHeld)
    have HBX := Lib.hid (bel_t HB3.out hHeld)
    have HCX := Lib.hid (HC3.out.keep hHeld)
    have HGZ : Hid (∀ j, j < n → G j < w3.heap.size) := Lib.hid (fun j hj => (HD3.out.2.2.2.2.2 j hj).2.1)
    have hgz := HD3.out.2.2.1
    have hlo := HD3.out.2.1
    obtain ⟨v0, v1, e0, e1⟩ := HDX.out.2.2.2.2.1 k hk
    have hf0 := HDX.out.2.2.2.1 (k * 2)
    have hf1 := HDX.out.2.2.2.1 (k * 2 + 1)
    clear hHeld
    by_cases hnx : nx < 0
    · exact absurd hnx (by rw [show nx = (j : Int) from (congrArg Prod.snd HWB.out).symm.trans (congrArg Prod.snd HWJ.out)]; omega)
    · have HF := Lib.hid (pr_6 ds n k ⟨true, fi, pl, va, st⟩ HL.out HV.out hk HPV.out rfl wb nx HWB.out hnx)
      go_wp2
      go_ret2
      rw [HF.out]
      simp only []
      refine ⟨g, (fun i => if i = k then q5 else G i), c3, rfl, ?_, ?_, ?_⟩
      · rw [s2_eq]; exact HCX.out.s2
      · rw [s2_eq]
        exact (HDX.out.set (k' := n) (p := k) (q := q5) (m := 4) (c := c5) (A := A5) hk (fun i hi => Or.inl hi) wb (by omega) S5.out (by omega) hq5z (by omega) (fun j hj _ => by have := HGZ.out j hj; omega)).lower (by omega)
      · rw [s2_eq]
        exact bel_2s HBX.out (by have := HDX.out.2.1; omega) _ _ _ _
    
  refine AllReadyH.cons rfl (fun K hK => ?_) AllReadyH.nil
  go_simp
  refine hK.out _ _ ?_ (fun hHeld => ?_)
  · exact reg_alloc hHeld (Nat.le_refl _) _
  clear hK K
  (try simp only [put_lit, List.set_cons_zero, List.set_cons_succ])
  refine wpAnyH_ready (rs := [5]) (by kernel_rfl) (by simp) ?_
  refine AllReadyH.cons rfl (fun K hK => ?_) AllReadyH.nil
  go_simp
  refine (sWriteBlock _ _ _ _ ps _ _ _ _ _ _ (by first | exact HM.out.keep hHeld | exact HM.out.keep (reg_alloc hHeld (Nat.le_refl _) _))).mono ?_
  rw [HW2.out]
  simp only []
  rintro e w55 ⟨v5, rfl, ⟨A5, n5, c5, q5, rfl, hn5, hq5, hS5⟩, hb55⟩
  obtain rfl : n5 = 4 := (hS5.at hn5).1.symm.trans hl4
  have HS5 := Lib.hid hS5
  have hq5' : w3.heap.size ≤ q5 := by have := hHeld.size; (try simp at hq5); omega
  have hq5s : q5 < w55.heap.size := by rcases hS5 with h0 | h0; omega; exact h0.2.2.1
  clear hS5
  have hn55 : w3.heap.size ≤ w55.heap.size := Nat.le_trans hHeld.size hb55.size
  (try have hq5n : w3.heap.size < q5 := by (have h9 : (w3.alloc (.cells #[.int .i64 0, .slice none 0 0] _)).heap.size ≤ q5 := hq5; simp at h9; omega))
  have hGa55 : ∀ o, w55.cell? ⟨w3.heap.size, o, none⟩ = (#[.int .i64 0, .slice none 0 0] : Array Value)[o]? := fun o => ((bcell hb55).1 _ o (by simp)).trans (by simp [go_sem])
  have hGa55f : ∀ o, w55.frozen? ⟨w3.heap.size, o, none⟩ = false := fun o => ((bcell hb55).2 _ o (by simp)).trans (by simp [go_sem])
  have hGa55s : w3.heap.size < w55.heap.size := Nat.lt_of_lt_of_le (by simp) hb55.size
  go_wp2_with fail
  refine hK.out _ _ ?_ (fun hHeld => ?_)
  · exact reg_call hHeld hb55 (Nat.le_refl _)
  clear hK K
  (try simp only [put_lit, List.set_cons_zero, List.set_cons_succ])
  refine reg_take 6 35 (v := ?_) rfl rfl (by kernel_rfl) (by kernel_rfl) (by kernel_rfl) (fun _ _ _ h => h) (Or.inl ⟨by rfl, ?_⟩) hHeld ?_
  rotate_left 1
  · intro wS hSw; go_simp <;> with_reducible rfl
  simp only [put_lit, List.set_cons_zero, List.set_cons_succ]
  refine reg_take 7 42 (v := ?_) rfl rfl (by kernel_rfl) (by kernel_rfl) (by kernel_rfl) (fun _ _ _ h => h) (Or.inl ⟨by rfl, ?_⟩) hHeld ?_
  rotate_left 1
  · intro wS hSw; go_simp <;> with_reducible rfl
  simp only [put_lit, List.set_cons_zero, List.set_cons_succ]
  refine reg_take 8 43 (v := ?_) rfl rfl (by kernel_rfl) (by kernel_rfl) (by kernel_rfl) (fun _ _ _ h => h) (Or.inl ⟨by rfl, ?_⟩) hHeld ?_
  rotate_left 1
  · intro wS hSw; go_simp <;> with_reducible rfl
  simp only [put_lit, List.set_cons_zero, List.set_cons_succ]
  refine wpAnyH_ready (rs := [10]) (by kernel_rfl) (by simp) ?_
  refine AllReadyH.cons rfl (fun K hK => ?_) AllReadyH.nil
  go_simp
  refine hK.out _ _ ?_ (fun hHeld => ?_)
  · first | exact reg_swap hHeld (by first | with_reducible assumption | exact Nat.le_refl _ | (simp; done) | (simp; omega)) _ | exact (hHeld.setCell (p := ⟨w3.heap.size, 0, none⟩) (Nat.le_refl _) _).setCell (p := ⟨w3.heap.size, 1, none⟩) (Nat.le_refl _) _
  clear hK K
  (try simp only [put_lit, List.set_cons_zero, List.set_cons_succ])
  refine reg_take 11 10 (v := ?_) rfl rfl (by kernel_rfl) (by kernel_rfl) (by kernel_rfl) (fun _ _ _ h => h) (Or.inl ⟨by rfl, ?_⟩) hHeld ?_
  rotate_left 1
  · intro wS hSw; go_simp <;> with_reducible rfl
  simp only [put_lit, List.set_cons_zero, List.set_cons_succ]
  refine wpAnyH_done (by kernel_rfl) ?_ _
  obtain ⟨X, eX⟩ := leafW hHeld
  have x0 : X.cell? ⟨w3.heap.size, 0, none⟩ = some (.int .i64 wb.wear) := by rw [eX]; go_simp
  have x1 : X.cell? ⟨w3.heap.size, 1, none⟩ = some (.slice A5 4 c5) := by rw [eX]; go_simp
  have S5 : Hid (Sl X A5 4 q5 wb.pages) := Lib.hid (by rw [eX]; first | exact HS5.out.keep (bel_1 _ _) | exact (HS5.out.setOther (a := ⟨w3.heap.size, 0, none⟩) (by simp; omega) _).setOther (a := ⟨w3.heap.size, 1, none⟩) (by simp; omega) _)
  rw [← eX] at hHeld ⊢
  clear eX
  have hq5z : q5 < X.heap.size := by rcases S5.out with h0 | h0; omega; exact h0.2.2.1
  have HDX := Lib.hid (HD3.out.keep hHeld)
  have HBX := Lib.hid (bel_t HB3.out hHeld)
  have HCX := Lib.hid (HC3.out.keep hHeld)
  have HGZ : Hid (∀ j, j < n → G j < w3.heap.size) := Lib.hid (fun j hj => (HD3.out.2.2.2.2.2 j hj).2.1)
  have hgz := HD3.out.2.2.1
  have hlo := HD3.out.2.1
  obtain ⟨v0, v1, e0, e1⟩ := HDX.out.2.2.2.2.1 k hk
  have hf0 := HDX.out.2.2.2.1 (k * 2)
  have hf1 := HDX.out.2.2.2.1 (k * 2 + 1)
  clear hHeld
  by_cases hnx : nx < 0
  · exact absurd hnx (by rw [show nx = (j : Int) from (congrArg Prod.snd HWB.out).symm.trans (congrArg Prod.snd HWJ.out)]; omega)
  · have HF := Lib.hid (pr_6 ds n k ⟨true, fi, pl, va, st⟩ HL.out HV.out hk HPV.out rfl wb nx HWB.out hnx)
    go_wp2
    go_ret2
    rw [HF.out]
    simp only []
    refine ⟨g, (fun i => if i = k then q5 else G i), c3, rfl, ?_, ?_, ?_⟩
    · rw [s2_eq]; exact HCX.out.s2
    · rw [s2_eq]
      exact (HDX.out.set (k' := n) (p := k) (q := q5) (m := 4) (c := c5) (A := A5) hk (fun i hi => Or.inl hi) wb (by omega) S5.out (by omega) hq5z (by omega) (fun j hj _ => by have := HGZ.out j hj; omega)).lower (by omega)
    · rw [s2_eq]
      exact bel_2s HBX.out (by have := HDX.out.2.1; omega) _ _ _ _

end Go.Proofs.Yteekikaebmkioaa
