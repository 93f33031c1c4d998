/-auto What the program's and the reference's NewDevice return. -/
import Derived.Test.YteekikaebmkioaaDevOut
namespace Go.Proofs.Yteekikaebmkioaa
open Go.RowKit
set_option linter.unusedVariables false

theorem nd_1 (m : Int) (h : ¬ (1 ≤ m ∧ m ≤ 12)) : newDeviceF m = [] := by
  rw [newDeviceF, if_neg]
  simp only [inB, Bool.and_eq_true, decide_eq_true_eq]
  exact h
theorem nd_2 (n : Nat) (h : 1 ≤ n ∧ n ≤ 12) : newDeviceF (n : Int) = List.replicate n ⟨0, [Pg.zero, Pg.zero, Pg.zero, Pg.zero]⟩ := by
  rw [newDeviceF, inB_t (by omega) (by omega), if_pos rfl, nb_1 0 (by omega)]; simp
theorem rep_at (n k : Nat) (x : Bl) (hk : k < n) : blAt (List.replicate n x) k = x := by simp [blAt, List.getD, hk]
theorem blk0 {w w' : World} {v : Value} (h : BlkOut w w' (newBlockF 0) v) : ∃ q c, v = .agg #[.int .i64 0, .slice (some ⟨q, 0, none⟩) 4 c] ∧ w.heap.size ≤ q ∧ PgRow w' q 4 [Pg.zero, Pg.zero, Pg.zero, Pg.zero] := by
  rw [nb_1 0 (by omega)] at h
  obtain ⟨A, n, c, q, rfl, hn, hq, hS⟩ := h
  rcases hS with ⟨rfl, h0⟩ | ⟨rfl, hR⟩
  · simp at h0
  · obtain rfl : 4 = n := hR.1
    exact ⟨q, c, rfl, hq, hR⟩

set_option maxHeartbeats 1000000 in
theorem sNewDevice (m : Int) (w : World) :
    Calls Try.prog 77 #[.int .i64 m] w fun e w' => ∃ v, e = .returned v ∧ DevOut w w' (newDeviceF m) v ∧ Below w.heap.size w w' := by
  by_cases hm : 1 ≤ m ∧ m ≤ 12
  · obtain ⟨n, rfl⟩ : ∃ n : Nat, m = (n : Int) := ⟨m.toNat, by omega⟩
    have hn1 : 1 ≤ n := by omega
    have hn12 : n ≤ 12 := by omega
    have hin : inB (n : Int) 1 12 = true := inB_t (by omega) (by omega)
    obtain ⟨ds, HDS⟩ : ∃ ds, Hid (newDeviceF (n : Int) = ds) := ⟨_, rfl⟩
    have hds := HDS.out.symm.trans (nd_2 n ⟨hn1, hn12⟩)
    have HL : Hid (ds.length = n) := Lib.hid (by rw [hds]; simp)
    have HE : Hid (∀ k, k < n → blAt ds k = ⟨0, [Pg.zero, Pg.zero, Pg.zero, Pg.zero]⟩) := Lib.hid (fun k hk => by rw [hds]; exact rep_at n k _ hk)
    rw [HDS.out]
    clear hm hds HDS
    obtain ⟨i0, hi, hzz⟩ := Option.map_eq_some_iff.1 infoBlock
    simp only [Prod.mk.injEq] at hzz
    obtain ⟨hz0, hz1, hz2⟩ := hzz
    have HI := Lib.hid hi
    have HZ0 := Lib.hid hz0
    have HZ1 := Lib.hid hz1
    have HZ2 := Lib.hid hz2
    clear hi hz0 hz1 hz2
    go_enter Try.func77, Try.ntmps77
    go_wp2
    have HB0 := Lib.hid (bel_1 w (.cells #[] 25))
    have HO0 : Hid ((w.alloc (.cells #[] 25)).ownsRow w.heap.size 25 2 (.slice (some ⟨w.heap.size, 0, none⟩) 0 0) 0 []) := Lib.hid (World.ownsRow_made w #[] 0 (Nat.le_refl _) (by unfold maxLen; omega) (by simp))
    generalize w.alloc (.cells #[] 25) = W at *
    go_loopg [3, 4] n (fun gk v i wr => ∃ (k : Nat) (G C : Nat → Nat), gk + k = n ∧ k ≤ n ∧ i = .int .i64 (k : Int) ∧ Hid (wr.ownsRow w.heap.size 25 2 v k (flat2 ds G C k) ∧ ∀ i, i < k → w.heap.size ≤ G i ∧ (∀ j, j < k → j ≠ i → G j ≠ G i) ∧ PgRow wr (G i) 4 (blAt ds i).pages) ∧ Hid (Below w.heap.size w wr))
    case atStart => exact ⟨0, fun _ => 0, fun _ => 0, by omega, by omega, rfl, ⟨HO0.out, fun i hi => absurd hi (by omega)⟩, HB0.out⟩
    case round =>
      obtain ⟨k, G, C, hgk, hk, rfl, HQ, HB⟩ := hrel
      by_cases hkn : k = n
      · obtain ⟨g, cc, rfl, hD⟩ := own_dev (by rw [HL.out, hkn]) (by omega) HQ.out.1 HQ.out.2
        have HD := Lib.hid hD
        clear hD
        subst hkn
        go_wp2
        go_ret
        exact ⟨_, rfl, ⟨_, _, _, rfl, Or.inr ⟨g, G, rfl, by omega, HD.out⟩⟩, HB.out⟩
      · have hkl : (k : Int) < (n : Int) := by omega
        go_wp2_with fail
        refine (l1In_any _ _ _ _).mono ?_
        rw [hin]
        rintro e w' ⟨rfl, rfl⟩
        go_wp2_with fail
        refine (sNewBlock _ _).mono ?_
        rintro e w1 ⟨v1, rfl, hO1, hb1⟩
        obtain ⟨g1, c1', rfl, hg1, hR1⟩ := blk0 hO1
        have HX := Lib.hid (bel_t hb1 (bel_1 w1 (.cells #[.int .i64 0, .slice (some ⟨g1, 0, none⟩) 4 c1'] 25)))
        have HO1 := Lib.hid (own_keep HQ.out.1 HX.out)
        have HR1 := Lib.hid (hR1.keep (bel_1 w1 (.cells #[.int .i64 0, .slice (some ⟨g1, 0, none⟩) 4 c1'] 25)))
        have HG1 : Hid (∀ i, i < k → PgRow (w1.alloc (.cells #[.int .i64 0, .slice (some ⟨g1, 0, none⟩) 4 c1'] 25)) (G i) 4 (blAt ds i).pages) := Lib.hid (fun i hi => (HQ.out.2 i hi).2.2.keep HX.out)
        have HBY := Lib.hid (bel_t HB.out HX.out)
        have HLT := Lib.hid HQ.out.1.lt
        have hsz : w.heap.size ≤ wr.heap.size := HB.out.size
        have hsz1 : wr.heap.size ≤ (w1.alloc (.cells #[.int .i64 0, .slice (some ⟨g1, 0, none⟩) 4 c1'] 25)).heap.size := HX.out.size
        clear hb1 hR1 hO1
        go_wp2_with (refine wpList_append_own _ rfl (.tmp 15) (.tmp 17) 41 rfl w.heap.size 25 i0 (.agg #[.int .i64 0, .slice none 0 0]) 2 32 Try.underlying41 HI.out HZ0.out HZ1.out HZ2.out rfl (by decide) _ k (flat2 ds G C k) rfl HO1.out ⟨w1.heap.size, 0, none⟩ 1 1 [.int .i64 0, .slice (some ⟨g1, 0, none⟩) 4 c1'] rfl rfl (cell_two _ _ _ _) (fun x hx => by simp at hx; rcases hx with rfl | rfl <;> rfl) (by unfold maxLen; omega) (by omega) (by omega) ?_; intro v' w3 hown' hgrow3 hnil3)
        have HO3 := Lib.hid hown'
        have HG3 := Lib.hid hgrow3
        clear hown' hgrow3 hnil3
        go_wp2
        go_roundg (gk - 1)
        case rel =>
          rw [flat2_succ ds G C k g1 c1' 0 (by rw [HE.out k (by omega)])] at HO3
          refine ⟨k + 1, _, _, by omega, by omega, by simp, ⟨HO3.out, fun i hi => ?_⟩, (HBY.out.grown HG3.out (by omega) (fun q hq => (HLT.out q hq).1) : Below _ _ _)⟩
          by_cases e : i = k
          · subst e
            simp only [↓reduceIte, HE.out i (by omega)]
            refine ⟨by omega, fun j hj hji => ?_, HR1.out.grown HG3.out (fun e2 => by have := (HLT.out _ e2).2; omega)⟩
            rw [if_neg hji]
            have := (HQ.out.2 j (by omega)).2.2.2.1
            omega
          · simp only [if_neg e]
            obtain ⟨h1, h2, h3⟩ := HQ.out.2 i (by omega)
            refine ⟨h1, fun j hj hji => ?_, (HG1.out i (by omega)).grown HG3.out (own_ne HQ.out.1 (by omega) h3)⟩
            by_cases ej : j = k
            · rw [if_pos ej]; have := h3.2.1; omega
            · rw [if_neg ej]; exact h2 j (by omega) hji
        case measure => omega
  · have HF := Lib.hid (nd_1 m hm)
    have hin : inB m 1 12 = false := by simp only [inB, Bool.and_eq_false_iff, decide_eq_false_iff_not]; omega
    by_cases h0 : 0 < m
    all_goals
      clear hm
      go_enter Try.func77, Try.ntmps77
      go_wp2
      refine wp_loop_rounds 1 ?_
      rw [rounds_succ]
      go_wp2_with (go_at_call 59; refine (l1In_any _ _ _ _).mono ?_; rintro e w' ⟨rfl, rfl⟩)
      go_ret
      exact ⟨_, rfl, by rw [HF.out]; exact ⟨_, 0, 0, rfl, Or.inl ⟨rfl, rfl⟩⟩, bel_1 _ _⟩

end Go.Proofs.Yteekikaebmkioaa
