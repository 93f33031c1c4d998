/-auto What the copies of a device return. -/
import Derived.Test.YteekikaebmkioaaWrite
import Derived.Test.YteekikaebmkioaaDevices2
import Derived.Test.YteekikaebmkioaaCopies2
import Derived.Deep.LoopGhost
import Derived.Laws.AppendOwn
namespace Go.Proofs.Yteekikaebmkioaa
open Go.RowKit
set_option linter.unusedVariables false

theorem infoBlock : (Try.prog.info? 25).map (fun i => (i.zero, i.size, i.bytes)) = some (some (.agg #[.int .i64 0, .slice none 0 0]), 2, 32) := by kernel_rfl

set_option maxHeartbeats 400000 in
theorem iCloneDev (A : Option Addr) (n c : Nat) (ds : List Bl) (w : World) (h : DevAt w A n ds) (hv : deviceValidF ds = true) :
    Calls Try.prog 68 #[.slice A n c] w fun e w' => ∃ g G c', e = .returned (.slice (some ⟨g, 0, none⟩) n c') ∧ DvRow w' w.heap.size g n n G ds ∧ Below w.heap.size w w' := by
  have HP := Lib.hid h
  have hm := h.2.1
  have HL := Lib.hid h.1
  have hn12 := (dv_len ds n h.1 hv).2
  have HV := Lib.hid (fun k hk => bv_len _ (dv_at ds n k h.1 hv hk))
  clear h hv
  have hmk := make_row (P := Try.prog) (t := 41) (e := 25) (size := 2) (bytes := 32) (z := .agg #[.int .i64 0, .slice none 0 0]) Try.underlying41 infoBlock n (by omega) hm
  go_enter Try.func68, Try.ntmps68
  go_wp2
  clear hmk
  have HB0 := Lib.hid (bel_1 w (.cells (madeCells #[.int .i64 0, .slice none 0 0] (n * 2)) 25))
  have HR := Lib.hid (dvrow_made w n 25 ds HL.out (fun _ => 0))
  generalize w.alloc (.cells (madeCells #[.int .i64 0, .slice none 0 0] (n * 2)) 25) = W at *
  go_loopw [11] (fun i wr => ∃ (k : Nat) (G : Nat → Nat), k ≤ n ∧ i = .int .i64 (k : Int) ∧ Hid (DvRow wr w.heap.size w.heap.size n k G ds) ∧ Hid (Below w.heap.size w wr)) (fun i _ => n - (intOf i).toNat)
  case atStart => exact ⟨0, _, by omega, rfl, HR.out, HB0.out⟩
  case round =>
    obtain ⟨k, G, hk, rfl, HQ, HB⟩ := hrel
    by_cases hkn : k = n
    · subst hkn
      go_wp2
      go_ret
      exact ⟨w.heap.size, G, _, rfl, HQ.out, HB.out⟩
    · obtain ⟨b, o, rfl, hC⟩ := HP.out.2.2 (by omega)
      obtain ⟨A', m, c', c0, c1, hps⟩ := (hC k (by omega)).keepS (stays_below HB.out)
      obtain rfl : m = 4 := hps.1.symm.trans (HV.out k (by omega))
      have HM := Lib.hid hps
      clear hC hps
      rcases hp : blAt ds k with ⟨z, ps⟩
      rw [hp] at c0 HM
      simp only [] at c0 HM
      have HE := Lib.hid hp
      clear hp
      have HD0 := Lib.hid (HQ.out.keep (bel_1 wr (.cells #[.int .i64 z, .slice A' 4 c'] 25)))
      go_wp2_with fail
      refine (iClone _ _ _ ps _ (HM.out.keep (bel_1 _ _))).mono ?_
      rintro e w1 ⟨g1, c1', rfl, hg1, hR1, hb1⟩
      have HB1 := Lib.hid (bel_t (bel_t HB.out (bel_1 _ _)) hb1)
      have HD1 := Lib.hid (HD0.out.keep hb1)
      have HR1 := Lib.hid hR1
      have hg2 : wr.heap.size < g1 := by have := hg1; simp at this; omega
      clear hb1 hR1
      obtain ⟨v0, v1, e0, e1⟩ := HD1.out.2.2.2.2.1 k (by omega)
      have hf0 := HD1.out.2.2.2.1 (k * 2)
      have hf1 := HD1.out.2.2.2.1 (k * 2 + 1)
      go_wp2
      go_round
      case rel =>
        rw [s2_eq]
        have hq := HD1.out.set (k' := k + 1) (p := k) (q := g1) (m := 4) (c := c1') (A := some ⟨g1, 0, none⟩) (by omega) (fun i hi => by omega) ⟨z, ps⟩ (by omega) (Or.inr ⟨rfl, HR1.out⟩) (Nat.le_trans HB.out.size (Nat.le_of_lt hg2)) HR1.out.2.1 (by have := HQ.out.2.2.1; omega) (fun j hj hjk => by have := (HQ.out.2.2.2.2.2 j hj).2.1; omega)
        rw [← HE.out, bls_set_self ds k (by rw [HL.out]; omega)] at hq
        rw [HE.out] at hq
        exact ⟨k + 1, _, by omega, by simp, hq, (bel_2s HB1.out (Nat.le_refl _) _ _ _ _ : Below _ _ _)⟩
      case measure => simp [intOf]; omega

/-- the cells of the first k blocks of a device -/
def flat2 (ds : List Bl) (G C : Nat → Nat) (k : Nat) : List Value := (List.range (k * 2)).map fun j => if j % 2 = 0 then .int .i64 (blAt ds (j / 2)).wear else .slice (some ⟨G (j / 2), 0, none⟩) 4 (C (j / 2))
theorem flat2_len (ds : List Bl) (G C : Nat → Nat) (k : Nat) : (flat2 ds G C k).length = k * 2 := by simp [flat2]
theorem flat2_at (ds : List Bl) (G C : Nat → Nat) (k j : Nat) (hj : j < k * 2) : (flat2 ds G C k)[j]? = some (if j % 2 = 0 then .int .i64 (blAt ds (j / 2)).wear else .slice (some ⟨G (j / 2), 0, none⟩) 4 (C (j / 2))) := by simp [flat2, hj]
theorem flat2_succ (ds : List Bl) (G C : Nat → Nat) (k g c : Nat) (z : Int) (hz : (blAt ds k).wear = z) :
    flat2 ds G C k ++ [.int .i64 z, .slice (some ⟨g, 0, none⟩) 4 c] = flat2 ds (fun j => if j = k then g else G j) (fun j => if j = k then c else C j) (k + 1) := by
  have e : (k + 1) * 2 = k * 2 + 1 + 1 := by omega
  simp only [flat2]
  rw [e, List.range_succ, List.range_succ, List.map_append, List.map_append, List.append_assoc]
  congr 1
  · refine List.map_congr_left fun j hj => ?_
    have hj' : j < k * 2 := by simpa using hj
    have : ¬ j / 2 = k := by omega
    simp [this]
  · simp only [List.map_cons, List.map_nil, List.cons_append, List.nil_append]
    rw [show k * 2 % 2 = 0 by omega, show k * 2 / 2 = k by omega, show (k * 2 + 1) % 2 = 1 by omega, show (k * 2 + 1) / 2 = k by omega]
    simp [hz]
theorem own_dev {w : World} {base e n : Nat} {v : Value} {ds : List Bl} {G C : Nat → Nat} (hl : ds.length = n) (hn : 0 < n) (h : w.ownsRow base e 2 v n (flat2 ds G C n))
    (hG : ∀ i, i < n → base ≤ G i ∧ (∀ j, j < n → j ≠ i → G j ≠ G i) ∧ PgRow w (G i) 4 (blAt ds i).pages) : ∃ g c, v = .slice (some ⟨g, 0, none⟩) n c ∧ DvRow w base g n n G ds := by
  rcases h.2 with ⟨_, h0⟩ | ⟨g, cap, cur, rfl, hb, hg, hnc, hcm, hcs, htake⟩
  · omega
  · have hc : ∀ j, j < n * 2 → w.cell? ⟨g, j, none⟩ = some (if j % 2 = 0 then .int .i64 (blAt ds (j / 2)).wear else .slice (some ⟨G (j / 2), 0, none⟩) 4 (C (j / 2))) := by
      intro j hj
      rw [cell_of_row w g _ cur e _ hg, ← Array.getElem?_toList]
      have h1 := flat2_at ds G C n j hj
      rw [← htake, List.getElem?_take, if_pos (by omega)] at h1
      exact h1
    have h0 : ∀ i, i < n → w.cell? ⟨g, i * 2, none⟩ = some (.int .i64 (blAt ds i).wear) := fun i hi => by
      rw [hc (i * 2) (by omega), if_pos (by omega), show i * 2 / 2 = i by omega]
    have h1 : ∀ i, i < n → w.cell? ⟨g, i * 2 + 1, none⟩ = some (.slice (some ⟨G i, 0, none⟩) 4 (C i)) := fun i hi => by
      rw [hc (i * 2 + 1) (by omega), if_neg (by omega), show (i * 2 + 1) / 2 = i by omega]
    refine ⟨g, cap, rfl, hl, hb, (Array.getElem?_eq_some_iff.1 hg).1, fun j => frozen_of_row w g j cur e hg, fun i hi => ⟨_, _, h0 i hi, h1 i hi⟩, fun i hi => ?_⟩
    obtain ⟨g1, g2, g3⟩ := hG i hi
    refine ⟨g1, g3.2.1, fun e2 => ?_, g2, some ⟨G i, 0, none⟩, 4, C i, by omega, h0 i hi, h1 i hi, Or.inr ⟨rfl, g3⟩⟩
    have hx := (g3.2.2.1 0 (by omega)).1
    rw [e2, Nat.zero_mul] at hx
    have hy := h0 0 hn
    rw [Nat.zero_mul] at hy
    rw [hy] at hx
    cases hx

theorem cell_two (w : World) (x y : Value) (t : TypeId) : ∀ j u, [x, y][j]? = some u → (w.alloc (.cells #[x, y] t)).cell? ((⟨w.heap.size, 0, none⟩ : Addr).add j) = some u := by
  intro j u h
  rw [Addr.add_lit, Nat.zero_add, cell_of_row _ _ _ _ _ _ (heap_new w _), ← Array.getElem?_toList]
  exact h
theorem own_keep {w w' : World} {base e size n : Nat} {v : Value} {xs : List Value} (h : w.ownsRow base e size v n xs) (hb : Below w.heap.size w w') : w'.ownsRow base e size v n xs := by
  refine ⟨h.1, ?_⟩
  rcases h.2 with h0 | ⟨g, cap, cur, h1, h2, hg, h3⟩
  · exact Or.inl h0
  · exact Or.inr ⟨g, cap, cur, h1, h2, (hb.block g (Array.getElem?_eq_some_iff.1 hg).1).trans hg, h3⟩
theorem own_ne {w : World} {base e k g : Nat} {v : Value} {ds : List Bl} {G C : Nat → Nat} {ps : List Pg} (h : w.ownsRow base e 2 v k (flat2 ds G C k)) (hk : 0 < k) (hr : PgRow w g 4 ps) : v.ownBlock ≠ some g := by
  rcases h.2 with ⟨_, h0⟩ | ⟨g', cap, cur, rfl, hb, hg, hnc, hcm, hcs, htake⟩
  · omega
  · intro e2
    simp only [Value.ownBlock, Option.some.injEq] at e2
    subst e2
    have hx := (hr.2.2.1 0 (by omega)).1
    rw [Nat.zero_mul, cell_of_row w _ _ cur e _ hg, ← Array.getElem?_toList] at hx
    have h1 := flat2_at ds G C k 0 (by omega)
    rw [← htake, List.getElem?_take, if_pos (by omega), hx] at h1
    simp at h1
theorem PgRow.grown {w w' : World} {g n : Nat} {ps : List Pg} {row : Option Nat} (h : PgRow w g n ps) (hg : w.grownBy w' row) (hne : row ≠ some g) : PgRow w' g n ps := by
  have hb := hg.block g h.2.1 (fun e => hne e.symm)
  have hc : ∀ o, w'.cell? ⟨g, o, none⟩ = w.cell? ⟨g, o, none⟩ := fun o => World.cell?_of_block (w := w) hb
  exact ⟨h.1, Nat.lt_of_lt_of_le h.2.1 hg.size, fun i hi => by
    obtain ⟨h0, h1, h2, h3, h4⟩ := h.2.2.1 i hi
    exact ⟨(hc _).trans h0, (hc _).trans h1, (hc _).trans h2, (hc _).trans h3, (hc _).trans h4⟩, fun j => (World.frozen?_of_block (w := w) hb).trans (h.2.2.2 j)⟩

set_option maxHeartbeats 1000000 in
theorem sCopyDev (A : Option Addr) (n c : Nat) (ds : List Bl) (w : World) (h : DevAt w A n ds) (hv : deviceValidF ds = true) :
    Calls Try.prog 69 #[.slice A n c] w fun e w' => ∃ g G c', e = .returned (.slice (some ⟨g, 0, none⟩) n c') ∧ DvRow w' w.heap.size g n n G ds ∧ Below w.heap.size w w' := by
  have HP := Lib.hid h
  have hm := h.2.1
  have HL := Lib.hid h.1
  have hn1 := (dv_len ds n h.1 hv).1
  have hn12 := (dv_len ds n h.1 hv).2
  have HV := Lib.hid (fun k hk => bv_len _ (dv_at ds n k h.1 hv hk))
  clear h hv
  obtain ⟨i0, hi, hzz⟩ := Option.map_eq_some_iff.1 infoBlock
  simp only [Prod.mk.injEq] at hzz
  obtain ⟨hz0, hz1, hz2⟩ := hzz
  have HI := Lib.hid hi
  have HZ0 := Lib.hid hz0
  have HZ1 := Lib.hid hz1
  have HZ2 := Lib.hid hz2
  clear hi hz0 hz1 hz2
  go_enter Try.func69, Try.ntmps69
  go_wp2
  have HB0 := Lib.hid (bel_1 w (.cells #[] 25))
  have HO0 : Hid ((w.alloc (.cells #[] 25)).ownsRow w.heap.size 25 2 (.slice (some ⟨w.heap.size, 0, none⟩) 0 0) 0 []) := Lib.hid (World.ownsRow_made w #[] 0 (Nat.le_refl _) (by unfold maxLen; omega) (by simp))
  generalize w.alloc (.cells #[] 25) = W at *
  go_loopg [3, 4] n (fun gk v i wr => ∃ (k : Nat) (G C : Nat → Nat), gk + k = n ∧ k ≤ n ∧ i = .int .i64 (k : Int) ∧ Hid (wr.ownsRow w.heap.size 25 2 v k (flat2 ds G C k) ∧ ∀ i, i < k → w.heap.size ≤ G i ∧ (∀ j, j < k → j ≠ i → G j ≠ G i) ∧ PgRow wr (G i) 4 (blAt ds i).pages) ∧ Hid (Below w.heap.size w wr))
  case atStart => exact ⟨0, fun _ => 0, fun _ => 0, by omega, by omega, rfl, ⟨HO0.out, fun i hi => absurd hi (by omega)⟩, HB0.out⟩
  case round =>
    obtain ⟨k, G, C, hgk, hk, rfl, HQ, HB⟩ := hrel
    by_cases hkn : k = n
    · obtain ⟨g, cc, rfl, hD⟩ := own_dev (by rw [HL.out, hkn]) (by omega) HQ.out.1 HQ.out.2
      have HD := Lib.hid hD
      clear hD
      subst hkn
      go_wp2
      go_ret
      exact ⟨g, G, cc, rfl, HD.out, HB.out⟩
    · obtain ⟨b, o, rfl, hC⟩ := HP.out.2.2 (by omega)
      obtain ⟨A', m, c', c0, c1, hps⟩ := (hC k (by omega)).keepS (stays_below HB.out)
      obtain rfl : m = 4 := hps.1.symm.trans (HV.out k (by omega))
      have HM := Lib.hid hps
      clear hC hps
      rcases hp : blAt ds k with ⟨z, ps⟩
      rw [hp] at c0 HM
      simp only [] at c0 HM
      have HE := Lib.hid hp
      clear hp
      go_wp2_with fail
      refine (sCopy _ _ _ ps _ HM.out).mono ?_
      rintro e w1 ⟨g1, c1', rfl, hg1, hR1, hb1⟩
      have HX := Lib.hid (bel_t hb1 (bel_1 w1 (.cells #[.int .i64 z, .slice (some ⟨g1, 0, none⟩) 4 c1'] 25)))
      have HO1 := Lib.hid (own_keep HQ.out.1 HX.out)
      have HR1 := Lib.hid (hR1.keep (bel_1 w1 (.cells #[.int .i64 z, .slice (some ⟨g1, 0, none⟩) 4 c1'] 25)))
      have HG1 : Hid (∀ i, i < k → PgRow (w1.alloc (.cells #[.int .i64 z, .slice (some ⟨g1, 0, none⟩) 4 c1'] 25)) (G i) 4 (blAt ds i).pages) := Lib.hid (fun i hi => (HQ.out.2 i hi).2.2.keep HX.out)
      have HBX := Lib.hid (bel_t HB.out HX.out)
      have HLT := Lib.hid HQ.out.1.lt
      have hsz : w.heap.size ≤ wr.heap.size := HB.out.size
      have hsz1 : wr.heap.size ≤ (w1.alloc (.cells #[.int .i64 z, .slice (some ⟨g1, 0, none⟩) 4 c1'] 25)).heap.size := HX.out.size
      clear hb1 hR1
      go_wp2_with (refine wpList_append_own _ rfl (.tmp 12) (.tmp 18) 41 rfl w.heap.size 25 i0 (.agg #[.int .i64 0, .slice none 0 0]) 2 32 Try.underlying41 HI.out HZ0.out HZ1.out HZ2.out rfl (by decide) _ k (flat2 ds G C k) rfl HO1.out ⟨w1.heap.size, 0, none⟩ 1 1 [.int .i64 z, .slice (some ⟨g1, 0, none⟩) 4 c1'] rfl rfl (cell_two _ _ _ _) (fun x hx => by simp at hx; rcases hx with rfl | rfl <;> rfl) (by unfold maxLen; omega) (by omega) (by omega) ?_; intro v' w3 hown' hgrow3 hnil3)
      have HO3 := Lib.hid hown'
      have HG3 := Lib.hid hgrow3
      clear hown' hgrow3 hnil3
      go_wp2
      go_roundg (gk - 1)
      case rel =>
        rw [flat2_succ ds G C k g1 c1' z (by rw [HE.out])] at HO3
        refine ⟨k + 1, _, _, by omega, by omega, by simp, ⟨HO3.out, fun i hi => ?_⟩, (HBX.out.grown HG3.out (by omega) (fun q hq => (HLT.out q hq).1) : Below _ _ _)⟩
        by_cases e : i = k
        · subst e
          simp only [↓reduceIte, HE.out]
          refine ⟨by omega, fun j hj hji => ?_, HR1.out.grown HG3.out (fun e2 => by have := (HLT.out _ e2).2; omega)⟩
          rw [if_neg hji]
          have := (HQ.out.2 j (by omega)).2.2.2.1
          omega
        · simp only [if_neg e]
          obtain ⟨h1, h2, h3⟩ := HQ.out.2 i (by omega)
          refine ⟨h1, fun j hj hji => ?_, (HG1.out i (by omega)).grown HG3.out (own_ne HQ.out.1 (by omega) h3)⟩
          by_cases ej : j = k
          · rw [if_pos ej]; have := h3.2.1; omega
          · rw [if_neg ej]; exact h2 j (by omega) hji
      case measure => omega

end Go.Proofs.Yteekikaebmkioaa
