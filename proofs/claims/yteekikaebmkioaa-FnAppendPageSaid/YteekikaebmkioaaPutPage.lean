/-auto What the program's and the reference's Program return. -/
import Derived.Test.YteekikaebmkioaaDevOut
import Derived.Test.YteekikaebmkioaaRegs2
namespace Go.Proofs.Yteekikaebmkioaa
open Go.RowKit
set_option linter.unusedVariables false

theorem leafW {W X : World} (h : Below W.heap.size W X) : ∃ Y, Y = X := ⟨_, rfl⟩
theorem pr_1 (ds : List Bl) (x : Int) (p : Pg) (h : deviceValidF ds = false) : programF ds x p = ([], -1) := by rw [programF, h]; rfl
theorem pr_2 (ds : List Bl) (n : Nat) (x : Int) (p : Pg) (hl : ds.length = n) (h : ¬ (0 ≤ x ∧ x < n)) : programF ds x p = ([], -1) := by
  rw [programF, hl, if_neg]
  simp only [Bool.and_eq_true, inB, decide_eq_true_eq]
  omega
theorem pr_3 (ds : List Bl) (x : Int) (p : Pg) (h : pageValidF p = false) : programF ds x p = ([], -1) := by rw [programF, if_neg]; simp [h]
theorem pr_4 (ds : List Bl) (x : Int) (p : Pg) (h : p.full = false) : programF ds x p = ([], -1) := by rw [programF, if_neg]; simp [h]
theorem pr_5 (ds : List Bl) (n k : Nat) (p : Pg) (hl : ds.length = n) (hv : deviceValidF ds = true) (hk : k < n) (hp : pageValidF p = true) (hf : p.full = true) (b : Bl) (v : Int) (hw : writeBlockF (blAt ds k) p = (b, v)) (h0 : v < 0) : programF ds (k : Int) p = (ds, -1) := by
  rw [programF, hv, hl, hp, hf, inB_t (by omega) (by omega)]
  simp only [Bool.and_self, ↓reduceIte, Int.toNat_natCast, hw, if_pos h0]
theorem pr_6 (ds : List Bl) (n k : Nat) (p : Pg) (hl : ds.length = n) (hv : deviceValidF ds = true) (hk : k < n) (hp : pageValidF p = true) (hf : p.full = true) (b : Bl) (v : Int) (hw : writeBlockF (blAt ds k) p = (b, v)) (h0 : ¬ v < 0) : programF ds (k : Int) p = (ds.set k b, (k : Int) * 4 + v) := by
  rw [programF, hv, hl, hp, hf, inB_t (by omega) (by omega)]
  simp only [Bool.and_self, ↓reduceIte, Int.toNat_natCast, hw, if_neg h0]
theorem wb_all (b : Bl) (p : Pg) (hv : blockValidF b = true) (hp : pageValidF p = true) (hf : p.full = true) : (writeBlockF b p).1.pages.length = 4 ∧ (writeBlockF b p).2 < 4 ∧ ((writeBlockF b p).2 < 0 → (writeBlockF b p).1 = b) := by
  have h4 := bn_lt b hv
  by_cases h0 : 0 ≤ blockNextF b
  · obtain ⟨k, hk⟩ : ∃ k : Nat, blockNextF b = (k : Int) := ⟨(blockNextF b).toNat, by omega⟩
    rw [wb_4 b p k hv hp hf hk]
    exact ⟨by simp [bv_len b hv], by dsimp only; omega, fun h => absurd h (by dsimp only; omega)⟩
  · rw [wb_5 b p _ hv hp hf rfl h0]
    exact ⟨bv_len b hv, h4, fun _ => rfl⟩
theorem pr_lens (ds : List Bl) (n : Nat) (x : Int) (p : Pg) (hl : ds.length = n) (hp : ∀ i, i < n → (blAt ds i).pages.length ≤ 1048576) :
    (programF ds x p).1.length ≤ n ∧ ∀ i, i < (programF ds x p).1.length → (blAt (programF ds x p).1 i).pages.length ≤ 1048576 := by
  have hnil : ∀ r : List Bl × Int, r = ([], -1) → r.1.length ≤ n ∧ ∀ i, i < r.1.length → (blAt r.1 i).pages.length ≤ 1048576 := fun r e => by
    rw [e]; exact ⟨Nat.zero_le _, fun i hi => absurd hi (by simp)⟩
  cases hv : deviceValidF ds
  · exact hnil _ (pr_1 ds x p hv)
  · by_cases hx : 0 ≤ x ∧ x < n
    · cases hpv : pageValidF p
      · exact hnil _ (pr_3 ds x p hpv)
      · cases hf : p.full
        · exact hnil _ (pr_4 ds x p hf)
        · obtain ⟨k, rfl⟩ : ∃ k : Nat, x = (k : Int) := ⟨x.toNat, by omega⟩
          have hw := wb_all (blAt ds k) p (dv_at ds n k hl hv (by omega)) hpv hf
          rcases hwb : writeBlockF (blAt ds k) p with ⟨b, v⟩
          rw [hwb] at hw
          by_cases h0 : v < 0
          · rw [pr_5 ds n k p hl hv (by omega) hpv hf b v hwb h0]
            exact ⟨by dsimp only; omega, fun i hi => hp i (by dsimp only at hi; omega)⟩
          · rw [pr_6 ds n k p hl hv (by omega) hpv hf b v hwb h0]
            dsimp only
            rw [List.length_set, hl]
            refine ⟨Nat.le_refl _, fun i hi => ?_⟩
            rw [blAt_set ds k i _ (by omega)]
            split
            · rw [hw.1]; omega
            · exact hp i hi
    · exact hnil _ (pr_2 ds n x p hl hx)

set_option maxHeartbeats 2000000 in
theorem iProgram (A : Option Addr) (n c : Nat) (ds : List Bl) (x : Int) (f : Bool) (fi pl va st : Int) (w : World) (h : DevAt w A n ds) :
    Calls Try.prog 37 #[.slice A n c, .int .i64 x, .agg #[.bool f, .int .i64 fi, .int .i64 pl, .int .i64 va, .int .i64 st]] w fun e w' => ∃ v, e = .returned (.tuple #[v, .int .i64 (programF ds x ⟨f, fi, pl, va, st⟩).2]) ∧ DevOut w w' (programF ds x ⟨f, fi, pl, va, st⟩).1 v ∧ Below w.heap.size w w' := by
  have HP := Lib.hid h
  have hm := h.2.1
  have HL := Lib.hid h.1
  clear h
  go_enter Try.func37, Try.ntmps37
  go_wp2_with fail
  refine (iDeviceValid _ _ _ ds _ (HP.out.keep (bel_1 _ _))).mono ?_
  rintro e w1 ⟨rfl, hb1⟩
  have HB1 := Lib.hid (bel_t (bel_1 _ _) hb1)
  have p0 : w1.cell? ⟨w.heap.size, 0, none⟩ = some (.bool f) := stays_below hb1 _ _ _ (by simp [go_sem])
  have p1 : w1.cell? ⟨w.heap.size, 1, none⟩ = some (.int .i64 fi) := stays_below hb1 _ _ _ (by simp [go_sem])
  have p2 : w1.cell? ⟨w.heap.size, 2, none⟩ = some (.int .i64 pl) := stays_below hb1 _ _ _ (by simp [go_sem])
  have p3 : w1.cell? ⟨w.heap.size, 3, none⟩ = some (.int .i64 va) := stays_below hb1 _ _ _ (by simp [go_sem])
  have p4 : w1.cell? ⟨w.heap.size, 4, none⟩ = some (.int .i64 st) := stays_below hb1 _ _ _ (by simp [go_sem])
  clear hb1
  cases hv : deviceValidF ds
  · have HF := Lib.hid (pr_1 ds x ⟨f, fi, pl, va, st⟩ hv)
    clear hv
    go_wp2
    go_ret2
    exact ⟨.slice none 0 0, by rw [HF.out]; rfl, by rw [HF.out]; exact ⟨none, 0, 0, rfl, Or.inl ⟨rfl, rfl⟩⟩, HB1.out⟩
  · have HV := Lib.hid hv
    have hn12 := (dv_len ds n HL.out hv).2
    clear hv
    by_cases hx : 0 ≤ x ∧ x < n
    · obtain ⟨k, rfl⟩ : ∃ k : Nat, x = (k : Int) := ⟨x.toNat, by omega⟩
      have hk : k < n := by omega
      have hkI : (k : Int) < (n : Int) := by omega
      have hin : inB (k : Int) 0 ((n : Int) - 1) = true := inB_t (by omega) (by omega)
      clear hx
      go_wp2_with fail
      refine (iPageValid _ _ _ _ _ _).mono ?_
      rintro e w2 ⟨rfl, hb2⟩
      have HB2 := Lib.hid (bel_t HB1.out hb2)
      replace p0 := stays_below hb2 _ _ _ p0
      replace p1 := stays_below hb2 _ _ _ p1
      replace p2 := stays_below hb2 _ _ _ p2
      replace p3 := stays_below hb2 _ _ _ p3
      replace p4 := stays_below hb2 _ _ _ p4
      clear hb2
      cases hpv : pageValidF ⟨f, fi, pl, va, st⟩
      · have HF := Lib.hid (pr_3 ds (k : Int) ⟨f, fi, pl, va, st⟩ hpv)
        clear hpv
        go_wp2
        go_ret2
        exact ⟨.slice none 0 0, by rw [HF.out]; rfl, by rw [HF.out]; exact ⟨none, 0, 0, rfl, Or.inl ⟨rfl, rfl⟩⟩, HB2.out⟩
      · cases f
        · have HF := Lib.hid (pr_4 ds (k : Int) ⟨false, fi, pl, va, st⟩ rfl)
          clear hpv
          go_wp2
          go_ret2
          exact ⟨.slice none 0 0, by rw [HF.out]; rfl, by rw [HF.out]; exact ⟨none, 0, 0, rfl, Or.inl ⟨rfl, rfl⟩⟩, HB2.out⟩
        · have HPV := Lib.hid hpv
          clear hpv
          go_wp2_with fail
          refine (iCloneDev _ _ _ ds _ (HP.out.keep HB2.out) HV.out).mono ?_
          rintro e w3 ⟨g, G, c3, rfl, hD3, hb3⟩
          have HB3 := Lib.hid (bel_t HB2.out hb3)
          have HD3 := Lib.hid hD3
          replace p0 := stays_below hb3 _ _ _ p0
          replace p1 := stays_below hb3 _ _ _ p1
          replace p2 := stays_below hb3 _ _ _ p2
          replace p3 := stays_below hb3 _ _ _ p3
          replace p4 := stays_below hb3 _ _ _ p4
          have hw23 := hb3.size
          have hw02 := HB2.out.size
          clear hb3 hD3
          obtain ⟨b, o, rfl, hC⟩ := HP.out.2.2 (by omega)
          obtain ⟨A', m, c', c0, c1, hps⟩ := (hC k hk).keepS (stays_below HB3.out)
          have HM := Lib.hid hps
          have hsb : b < w3.heap.size := block_lt_of_cell c0
          have hsp : w.heap.size < w3.heap.size := block_lt_of_cell p0
          clear hC hps
          obtain ⟨⟨wb, nx⟩, HWB⟩ : ∃ r, Hid (writeBlockF (blAt ds k) ⟨true, fi, pl, va, st⟩ = r) := ⟨_, rfl⟩
          have hall := wb_all (blAt ds k) ⟨true, fi, pl, va, st⟩ (dv_at ds n k HL.out HV.out hk) HPV.out rfl
          rw [HWB.out] at hall
          simp only [] at hall
          obtain ⟨hl4, hnx4, hsame⟩ := hall
          have HSM := Lib.hid hsame
          clear hsame
          rcases hp : blAt ds k with ⟨z, ps⟩
          rw [hp] at c0 HM
          simp only [] at c0 HM
          have HE := Lib.hid hp
          have HW2 : Hid (writeBlockF ⟨z, ps⟩ ⟨true, fi, pl, va, st⟩ = (wb, nx)) := Lib.hid (by rw [← hp]; exact HWB.out)
          clear hp
          go_wp2_with fail
          refine reg_begin (by kernel_rfl) (fun hHeld => ?_)
          refine reg_take 0 37 (v := ?_) rfl rfl (by kernel_rfl) (by kernel_rfl) (by kernel_rfl) (fun _ _ _ h => h) (Or.inl ⟨by rfl, ?_⟩) hHeld ?_
          rotate_left 1
          · intro wS hSw; go_simp <;> with_reducible rfl
          simp only [put_lit, List.set_cons_zero, List.set_cons_succ]
          refine reg_take 1 38 (v := ?_) rfl rfl (by kernel_rfl) (by kernel_rfl) (by kernel_rfl) (fun _ _ _ h => h) (Or.inl ⟨by rfl, ?_⟩) hHeld ?_
          rotate_left 1
          · intro wS hSw; go_simp <;> with_reducible rfl
          simp only [put_lit, List.set_cons_zero, List.set_cons_succ]
          refine reg_take 2 39 (v := ?_) rfl rfl (by kernel_rfl) (by kernel_rfl) (by kernel_rfl) (fun _ _ _ h => h) (Or.inl ⟨by rfl, ?_⟩) hHeld ?_
          rotate_left 1
          · intro wS hSw; go_simp <;> with_reducible rfl
          simp only [put_lit, List.set_cons_zero, List.set_cons_succ]
          refine reg_take 3 40 (v := ?_) rfl rfl (by kernel_rfl) (by kernel_rfl) (by kernel_rfl) (fun _ _ _ h => h) (Or.inl ⟨by rfl, ?_⟩) hHeld ?_
          rotate_left 1
          · intro wS hSw; have hqS := bcellB hSw; go_simp <;> with_reducible rfl
          simp only [put_lit, List.set_cons_zero, List.set_cons_succ]
          refine reg_take 4 41 (v := ?_) rfl rfl (by kernel_rfl) (by kernel_rfl) (by kernel_rfl) (fun _ _ _ h => h) (Or.inl ⟨by rfl, ?_⟩) hHeld ?_
          rotate_left 1
          · intro wS hSw; have hqS := bcellB hSw; go_simp <;> with_reducible rfl
          simp only [put_lit, List.set_cons_zero, List.set_cons_succ]
          refine wpAnyH_ready (rs := [5, 9]) (by kernel_rfl) (by simp) ?_
          refine AllReadyH.cons rfl (fun K hK => ?_) ?_
          · skip
            go_simp
            refine (iWriteBlock _ _ _ _ ps _ _ _ _ _ _ (by first | exact HM.out.keep hHeld | exact HM.out.keep (reg_alloc hHeld (Nat.le_refl _) _))).mono ?_
            rw [HW2.out]
            simp only []
            rintro e w51 ⟨v5, rfl, ⟨A5, n5, c5, q5, rfl, hn5, hq5, hS5⟩, hb51⟩
            obtain rfl : n5 = 4 := (hS5.at hn5).1.symm.trans hl4
            have HS5 := Lib.hid hS5
            have hq5' : w3.heap.size ≤ q5 := by have := hHeld.size; (try simp at hq5); omega
            have hq5s : q5 < w51.heap.size := by rcases hS5 with h0 | h0; omega; exact h0.2.2.1
            clear hS5
            have hn51 : w3.heap.size ≤ w51.heap.size := Nat.le_trans hHeld.size hb51.size
            (try have hq5n : w3.heap.size < q5 := by (have h9 : (w3.alloc (.cells #[.int .i64 0, .slice none 0 0] _)).heap.size ≤ q5 := hq5; simp at h9; omega))
            go_wp2_with fail
            refine hK.out _ _ ?_ (fun hHeld => ?_)
            · exact reg_call hHeld hb51 (Nat.le_refl _)
            clear hK K
            (try simp only [put_lit, List.set_cons_zero, List.set_cons_succ])
            refine reg_take 6 36 (v := ?_) rfl rfl (by kernel_rfl) (by kernel_rfl) (by kernel_rfl) (fun _ _ _ h => h) (Or.inl ⟨by rfl, ?_⟩) hHeld ?_
            rotate_left 1
            · intro wS hSw; go_simp <;> with_reducible rfl
            simp only [put_lit, List.set_cons_zero, List.set_cons_succ]
            refine reg_take 7 43 (v := ?_) rfl rfl (by kernel_rfl) (by kernel_rfl) (by kernel_rfl) (fun _ _ _ h => h) (Or.inl ⟨by rfl, ?_⟩) hHeld ?_
            rotate_left 1
            · intro wS hSw; go_simp <;> with_reducible rfl
            simp only [put_lit, List.set_cons_zero, List.set_cons_succ]
            refine reg_take 8 44 (v := ?_) rfl rfl (by kernel_rfl) (by kernel_rfl) (by kernel_rfl) (fun _ _ _ h => h) (Or.inl ⟨by rfl, ?_⟩) hHeld ?_
            rotate_left 1
            · intro wS hSw; go_simp <;> with_reducible rfl
            simp only [put_lit, List.set_cons_zero, List.set_cons_succ]
            refine wpAnyH_ready (rs := [9]) (by kernel_rfl) (by simp) ?_
            refine AllReadyH.cons rfl (fun K hK => ?_) AllReadyH.nil
            go_simp
            refine hK.out _ _ ?_ (fun hHeld => ?_)
            · exact reg_alloc hHeld (Nat.le_refl _) _
            clear hK K
            (try simp only [put_lit, List.set_cons_zero, List.set_cons_succ])
            refine wpAnyH_ready (rs := [10]) (by kernel_rfl) (by simp) ?_
            refine AllReadyH.cons rfl (fun K hK => ?_) AllReadyH.nil
            go_simp
            refine hK.out _ _ ?_ (fun hHeld => ?_)
            · first | exact reg_swap hHeld (by first | with_reducible assumption | exact Nat.le_refl _ | (simp; done) | (simp; omega)) _ | exact (hHeld.setCell (p := ⟨w3.heap.size, 0, none⟩) (Nat.le_refl _) _).setCell (p := ⟨w3.heap.size, 1, none⟩) (Nat.le_refl _) _
            clear hK K
            (try simp only [put_lit, List.set_cons_zero, List.set_cons_succ])
            refine reg_take 11 10 (v := ?_) rfl rfl (by kernel_rfl) (by kernel_rfl) (by kernel_rfl) (fun _ _ _ h => h) (Or.inl ⟨by rfl, ?_⟩) hHeld ?_
            rotate_left 1
            · intro wS hSw; go_simp <;> with_reducible rfl
            simp only [put_lit, List.set_cons_zero, List.set_cons_succ]
            refine wpAnyH_done (by kernel_rfl) ?_ _
            obtain ⟨X, eX⟩ := leafW hHeld
            have x0 : X.cell? ⟨w51.heap.size, 0, none⟩ = some (.int .i64 wb.wear) := by rw [eX]; go_simp
            have x1 : X.cell? ⟨w51.heap.size, 1, none⟩ = some (.slice A5 4 c5) := by rw [eX]; go_simp
            have S5 : Hid (Sl X A5 4 q5 wb.pages) := Lib.hid (by rw [eX]; first | exact HS5.out.keep (bel_1 _ _) | exact (HS5.out.setOther (a := ⟨w3.heap.size, 0, none⟩) (by simp; omega) _).setOther (a := ⟨w3.heap.size, 1, none⟩) (by simp; omega) _)
            rw [← eX] at hHeld ⊢
            clear eX
            have hq5z : q5 < X.heap.size := by rcases S5.out with h0 | h0; omega; exact h0.2.2.1
            have HDX := Lib.hid (HD3.out.keep hHeld)
            have HBX := Lib.hid (bel_t HB3.out hHeld)
            have HGZ : Hid (∀ j, j < n → G j < w3.heap.size) := Lib.hid (fun j hj => (HD3.out.2.2.2.2.2 j hj).2.1)
            have hgz := HD3.out.2.2.1
            have hlo := HD3.out.2.1
            obtain ⟨v0, v1, e0, e1⟩ := HDX.out.2.2.2.2.1 k hk
            have hf0 := HDX.out.2.2.2.1 (k * 2)
            have hf1 := HDX.out.2.2.2.1 (k * 2 + 1)
            clear hHeld
            by_cases hnx : nx < 0
            · have HF := Lib.hid (pr_5 ds n k ⟨true, fi, pl, va, st⟩ HL.out HV.out hk HPV.out rfl wb nx HWB.out hnx)
              have HWS := Lib.hid (HSM.out hnx)
              go_wp2
              go_ret2
              rw [HF.out]
              simp only []
              refine ⟨_, rfl, ?_, ?_⟩
              · exact ⟨some ⟨g, 0, none⟩, n, c3, rfl, Or.inr ⟨g, G, rfl, by omega, HDX.out.lower (by omega)⟩⟩
              · exact HBX.out
            · have HF := Lib.hid (pr_6 ds n k ⟨true, fi, pl, va, st⟩ HL.out HV.out hk HPV.out rfl wb nx HWB.out hnx)
              go_wp2
              go_ret2
              rw [HF.out]
              simp only []
              refine ⟨_, rfl, ?_, ?_⟩
              · rw [s2_eq]
                exact ⟨some ⟨g, 0, none⟩, n, c3, rfl, Or.inr ⟨g, _, rfl, by omega, (HDX.out.set (k' := n) (p := k) (q := q5) (m := 4) (c := c5) (A := A5) hk (fun i hi => Or.inl hi) wb (by omega) S5.out (by omega) hq5z (by omega) (fun j hj _ => by have := HGZ.out j hj; omega)).lower (by omega)⟩⟩
              · rw [s2_eq]
                exact bel_2s HBX.out (by have := HDX.out.2.1; omega) _ _ _ _
            
          refine AllReadyH.cons rfl (fun K hK => ?_) AllReadyH.nil
          go_simp
          refine hK.out _ _ ?_ (fun hHeld => ?_)
          · exact reg_alloc hHeld (Nat.le_refl _) _
          clear hK K
          (try simp only [put_lit, List.set_cons_zero, List.set_cons_succ])
          refine wpAnyH_ready (rs := [5]) (by kernel_rfl) (by simp) ?_
          refine AllReadyH.cons rfl (fun K hK => ?_) AllReadyH.nil
          go_simp
          refine (iWriteBlock _ _ _ _ ps _ _ _ _ _ _ (by first | exact HM.out.keep hHeld | exact HM.out.keep (reg_alloc hHeld (Nat.le_refl _) _))).mono ?_
          rw [HW2.out]
          simp only []
          rintro e w55 ⟨v5, rfl, ⟨A5, n5, c5, q5, rfl, hn5, hq5, hS5⟩, hb55⟩
          obtain rfl : n5 = 4 := (hS5.at hn5).1.symm.trans hl4
          have HS5 := Lib.hid hS5
          have hq5' : w3.heap.size ≤ q5 := by have := hHeld.size; (try simp at hq5); omega
          have hq5s : q5 < w55.heap.size := by rcases hS5 with h0 | h0; omega; exact h0.2.2.1
          clear hS5
          have hn55 : w3.heap.size ≤ w55.heap.size := Nat.le_trans hHeld.size hb55.size
          (try have hq5n : w3.heap.size < q5 := by (have h9 : (w3.alloc (.cells #[.int .i64 0, .slice none 0 0] _)).heap.size ≤ q5 := hq5; simp at h9; omega))
          have hGa55 : ∀ o, w55.cell? ⟨w3.heap.size, o, none⟩ = (#[.int .i64 0, .slice none 0 0] : Array Value)[o]? := fun o => ((bcell hb55).1 _ o (by simp)).trans (by simp [go_sem])
          have hGa55f : ∀ o, w55.frozen? ⟨w3.heap.size, o, none⟩ = false := fun o => ((bcell hb55).2 _ o (by simp)).trans (by simp [go_sem])
          have hGa55s : w3.heap.size < w55.heap.size := Nat.lt_of_lt_of_le (by simp) hb55.size
          go_wp2_with fail
          refine hK.out _ _ ?_ (fun hHeld => ?_)
          · exact reg_call hHeld hb55 (Nat.le_refl _)
          clear hK K
          (try simp only [put_lit, List.set_cons_zero, List.set_cons_succ])
          refine reg_take 6 36 (v := ?_) rfl rfl (by kernel_rfl) (by kernel_rfl) (by kernel_rfl) (fun _ _ _ h => h) (Or.inl ⟨by rfl, ?_⟩) hHeld ?_
          rotate_left 1
          · intro wS hSw; go_simp <;> with_reducible rfl
          simp only [put_lit, List.set_cons_zero, List.set_cons_succ]
          refine reg_take 7 43 (v := ?_) rfl rfl (by kernel_rfl) (by kernel_rfl) (by kernel_rfl) (fun _ _ _ h => h) (Or.inl ⟨by rfl, ?_⟩) hHeld ?_
          rotate_left 1
          · intro wS hSw; go_simp <;> with_reducible rfl
          simp only [put_lit, List.set_cons_zero, List.set_cons_succ]
          refine reg_take 8 44 (v := ?_) rfl rfl (by kernel_rfl) (by kernel_rfl) (by kernel_rfl) (fun _ _ _ h => h) (Or.inl ⟨by rfl, ?_⟩) hHeld ?_
          rotate_left 1
          · intro wS hSw; go_simp <;> with_reducible rfl
          simp only [put_lit, List.set_cons_zero, List.set_cons_succ]
          refine wpAnyH_ready (rs := [10]) (by kernel_rfl) (by simp) ?_
          refine AllReadyH.cons rfl (fun K hK => ?_) AllReadyH.nil
          go_simp
          refine hK.out _ _ ?_ (fun hHeld => ?_)
          · first | exact reg_swap hHeld (by first | with_reducible assumption | exact Nat.le_refl _ | (simp; done) | (simp; omega)) _ | exact (hHeld.setCell (p := ⟨w3.heap.size, 0, none⟩) (Nat.le_refl _) _).setCell (p := ⟨w3.heap.size, 1, none⟩) (Nat.le_refl _) _
          clear hK K
          (try simp only [put_lit, List.set_cons_zero, List.set_cons_succ])
          refine reg_take 11 10 (v := ?_) rfl rfl (by kernel_rfl) (by kernel_rfl) (by kernel_rfl) (fun _ _ _ h => h) (Or.inl ⟨by rfl, ?_⟩) hHeld ?_
          rotate_left 1
          · intro wS hSw; go_simp <;> with_reducible rfl
          simp only [put_lit, List.set_cons_zero, List.set_cons_succ]
          refine wpAnyH_done (by kernel_rfl) ?_ _
          obtain ⟨X, eX⟩ := leafW hHeld
          have x0 : X.cell? ⟨w3.heap.size, 0, none⟩ = some (.int .i64 wb.wear) := by rw [eX]; go_simp
          have x1 : X.cell? ⟨w3.heap.size, 1, none⟩ = some (.slice A5 4 c5) := by rw [eX]; go_simp
          have S5 : Hid (Sl X A5 4 q5 wb.pages) := Lib.hid (by rw [eX]; first | exact HS5.out.keep (bel_1 _ _) | exact (HS5.out.setOther (a := ⟨w3.heap.size, 0, none⟩) (by simp; omega) _).setOther (a := ⟨w3.heap.size, 1, none⟩) (by simp; omega) _)
          rw [← eX] at hHeld ⊢
          clear eX
          have hq5z : q5 < X.heap.size := by rcases S5.out with h0 | h0; omega; exact h0.2.2.1
          have HDX := Lib.hid (HD3.out.keep hHeld)
          have HBX := Lib.hid (bel_t HB3.out hHeld)
          have HGZ : Hid (∀ j, j < n → G j < w3.heap.size) := Lib.hid (fun j hj => (HD3.out.2.2.2.2.2 j hj).2.1)
          have hgz := HD3.out.2.2.1
          have hlo := HD3.out.2.1
          obtain ⟨v0, v1, e0, e1⟩ := HDX.out.2.2.2.2.1 k hk
          have hf0 := HDX.out.2.2.2.1 (k * 2)
          have hf1 := HDX.out.2.2.2.1 (k * 2 + 1)
          clear hHeld
          by_cases hnx : nx < 0
          · have HF := Lib.hid (pr_5 ds n k ⟨true, fi, pl, va, st⟩ HL.out HV.out hk HPV.out rfl wb nx HWB.out hnx)
            have HWS := Lib.hid (HSM.out hnx)
            go_wp2
            go_ret2
            rw [HF.out]
            simp only []
            refine ⟨_, rfl, ?_, ?_⟩
            · exact ⟨some ⟨g, 0, none⟩, n, c3, rfl, Or.inr ⟨g, G, rfl, by omega, HDX.out.lower (by omega)⟩⟩
            · exact HBX.out
          · have HF := Lib.hid (pr_6 ds n k ⟨true, fi, pl, va, st⟩ HL.out HV.out hk HPV.out rfl wb nx HWB.out hnx)
            go_wp2
            go_ret2
            rw [HF.out]
            simp only []
            refine ⟨_, rfl, ?_, ?_⟩
            · rw [s2_eq]
              exact ⟨some ⟨g, 0, none⟩, n, c3, rfl, Or.inr ⟨g, _, rfl, by omega, (HDX.out.set (k' := n) (p := k) (q := q5) (m := 4) (c := c5) (A := A5) hk (fun i hi => Or.inl hi) wb (by omega) S5.out (by omega) hq5z (by omega) (fun j hj _ => by have := HGZ.out j hj; omega)).lower (by omega)⟩⟩
            · rw [s2_eq]
              exact bel_2s HBX.out (by have := HDX.out.2.1; omega) _ _ _ _
          
    · have HF := Lib.hid (pr_2 ds n x ⟨f, fi, pl, va, st⟩ HL.out hx)
      have hin : inB x 0 ((n : Int) - 1) = false := by simp only [inB, Bool.and_eq_false_iff, decide_eq_false_iff_not]; omega
      by_cases h0 : x < 0
      all_goals
        try have h00 : (n : Int) ≤ x := by omega
        clear hx
        go_wp2
        go_ret2
        exact ⟨.slice none 0 0, by rw [HF.out]; rfl, by rw [HF.out]; exact ⟨none, 0, 0, rfl, Or.inl ⟨rfl, rfl⟩⟩, HB1.out⟩

set_option maxHeartbeats 2000000 in
theorem sProgram (A : Option Addr) (n c : Nat) (ds : List Bl) (x : Int) (f : Bool) (fi pl va st : Int) (w : World) (h : DevAt w A n ds) :
    Calls Try.prog 38 #[.slice A n c, .int .i64 x, .agg #[.bool f, .int .i64 fi, .int .i64 pl, .int .i64 va, .int .i64 st]] w fun e w' => ∃ v, e = .returned (.tuple #[v, .int .i64 (programF ds x ⟨f, fi, pl, va, st⟩).2]) ∧ DevOut w w' (programF ds x ⟨f, fi, pl, va, st⟩).1 v ∧ Below w.heap.size w w' := by
  have HP := Lib.hid h
  have hm := h.2.1
  have HL := Lib.hid h.1
  clear h
  go_enter Try.func38, Try.ntmps38
  go_wp2_with fail
  refine (sDeviceValid _ _ _ ds _ (HP.out.keep (bel_1 _ _))).mono ?_
  rintro e w1 ⟨rfl, hb1⟩
  have HB1 := Lib.hid (bel_t (bel_1 _ _) hb1)
  have p0 : w1.cell? ⟨w.heap.size, 0, none⟩ = some (.bool f) := stays_below hb1 _ _ _ (by simp [go_sem])
  have p1 : w1.cell? ⟨w.heap.size, 1, none⟩ = some (.int .i64 fi) := stays_below hb1 _ _ _ (by simp [go_sem])
  have p2 : w1.cell? ⟨w.heap.size, 2, none⟩ = some (.int .i64 pl) := stays_below hb1 _ _ _ (by simp [go_sem])
  have p3 : w1.cell? ⟨w.heap.size, 3, none⟩ = some (.int .i64 va) := stays_below hb1 _ _ _ (by simp [go_sem])
  have p4 : w1.cell? ⟨w.heap.size, 4, none⟩ = some (.int .i64 st) := stays_below hb1 _ _ _ (by simp [go_sem])
  clear hb1
  cases hv : deviceValidF ds
  · have HF := Lib.hid (pr_1 ds x ⟨f, fi, pl, va, st⟩ hv)
    clear hv
    go_wp2
    go_ret2
    exact ⟨.slice (some ⟨w1.heap.size, 0, none⟩) 0 0, by rw [HF.out]; rfl, by rw [HF.out]; exact ⟨_, 0, 0, rfl, Or.inl ⟨rfl, rfl⟩⟩, bel_t HB1.out (bel_1 _ _)⟩
  · have HV := Lib.hid hv
    have hn12 := (dv_len ds n HL.out hv).2
    clear hv
    by_cases hx : 0 ≤ x ∧ x < n
    · obtain ⟨k, rfl⟩ : ∃ k : Nat, x = (k : Int) := ⟨x.toNat, by omega⟩
      have hk : k < n := by omega
      have hkI : (k : Int) < (n : Int) := by omega
      have hin : inB (k : Int) 0 ((n : Int) - 1) = true := inB_t (by omega) (by omega)
      clear hx
      go_wp2_with fail
      refine (l1In_any _ _ _ _).mono ?_
      rw [hin]
      rintro e w' ⟨rfl, rfl⟩
      go_wp2_with fail
      refine (sPageValid _ _ _ _ _ _).mono ?_
      rintro e w2 ⟨rfl, hb2⟩
      have HB2 := Lib.hid (bel_t HB1.out hb2)
      replace p0 := stays_below hb2 _ _ _ p0
      replace p1 := stays_below hb2 _ _ _ p1
      replace p2 := stays_below hb2 _ _ _ p2
      replace p3 := stays_below hb2 _ _ _ p3
      replace p4 := stays_below hb2 _ _ _ p4
      clear hb2
      cases hpv : pageValidF ⟨f, fi, pl, va, st⟩
      · have HF := Lib.hid (pr_3 ds (k : Int) ⟨f, fi, pl, va, st⟩ hpv)
        clear hpv
        go_wp2
        go_ret2
        exact ⟨.slice (some ⟨w2.heap.size, 0, none⟩) 0 0, by rw [HF.out]; rfl, by rw [HF.out]; exact ⟨_, 0, 0, rfl, Or.inl ⟨rfl, rfl⟩⟩, bel_t HB2.out (bel_1 _ _)⟩
      · cases f
        · have HF := Lib.hid (pr_4 ds (k : Int) ⟨false, fi, pl, va, st⟩ rfl)
          clear hpv
          go_wp2
          go_ret2
          exact ⟨.slice (some ⟨w2.heap.size, 0, none⟩) 0 0, by rw [HF.out]; rfl, by rw [HF.out]; exact ⟨_, 0, 0, rfl, Or.inl ⟨rfl, rfl⟩⟩, bel_t HB2.out (bel_1 _ _)⟩
        · have HPV := Lib.hid hpv
          clear hpv
          go_wp2_with fail
          refine (sCopyDev _ _ _ ds _ (HP.out.keep HB2.out) HV.out).mono ?_
          rintro e w3 ⟨g, G, c3, rfl, hD3, hb3⟩
          have HB3 := Lib.hid (bel_t HB2.out hb3)
          have HD3 := Lib.hid hD3
          replace p0 := stays_below hb3 _ _ _ p0
          replace p1 := stays_below hb3 _ _ _ p1
          replace p2 := stays_below hb3 _ _ _ p2
          replace p3 := stays_below hb3 _ _ _ p3
          replace p4 := stays_below hb3 _ _ _ p4
          have hw23 := hb3.size
          have hw02 := HB2.out.size
          clear hb3 hD3
          obtain ⟨b, o, rfl, hC⟩ := HP.out.2.2 (by omega)
          obtain ⟨A', m, c', c0, c1, hps⟩ := (hC k hk).keepS (stays_below HB3.out)
          have HM := Lib.hid hps
          have hsb : b < w3.heap.size := block_lt_of_cell c0
          have hsp : w.heap.size < w3.heap.size := block_lt_of_cell p0
          clear hC hps
          obtain ⟨⟨wb, nx⟩, HWB⟩ : ∃ r, Hid (writeBlockF (blAt ds k) ⟨true, fi, pl, va, st⟩ = r) := ⟨_, rfl⟩
          have hall := wb_all (blAt ds k) ⟨true, fi, pl, va, st⟩ (dv_at ds n k HL.out HV.out hk) HPV.out rfl
          rw [HWB.out] at hall
          simp only [] at hall
          obtain ⟨hl4, hnx4, hsame⟩ := hall
          have HSM := Lib.hid hsame
          clear hsame
          rcases hp : blAt ds k with ⟨z, ps⟩
          rw [hp] at c0 HM
          simp only [] at c0 HM
          have HE := Lib.hid hp
          have HW2 : Hid (writeBlockF ⟨z, ps⟩ ⟨true, fi, pl, va, st⟩ = (wb, nx)) := Lib.hid (by rw [← hp]; exact HWB.out)
          clear hp
          go_wp2_with fail
          refine reg_begin (by kernel_rfl) (fun hHeld => ?_)
          refine reg_take 0 36 (v := ?_) rfl rfl (by kernel_rfl) (by kernel_rfl) (by kernel_rfl) (fun _ _ _ h => h) (Or.inl ⟨by rfl, ?_⟩) hHeld ?_
          rotate_left 1
          · intro wS hSw; go_simp <;> with_reducible rfl
          simp only [put_lit, List.set_cons_zero, List.set_cons_succ]
          refine reg_take 1 37 (v := ?_) rfl rfl (by kernel_rfl) (by kernel_rfl) (by kernel_rfl) (fun _ _ _ h => h) (Or.inl ⟨by rfl, ?_⟩) hHeld ?_
          rotate_left 1
          · intro wS hSw; go_simp <;> with_reducible rfl
          simp only [put_lit, List.set_cons_zero, List.set_cons_succ]
          refine reg_take 2 38 (v := ?_) rfl rfl (by kernel_rfl) (by kernel_rfl) (by kernel_rfl) (fun _ _ _ h => h) (Or.inl ⟨by rfl, ?_⟩) hHeld ?_
          rotate_left 1
          · intro wS hSw; go_simp <;> with_reducible rfl
          simp only [put_lit, List.set_cons_zero, List.set_cons_succ]
          refine reg_take 3 39 (v := ?_) rfl rfl (by kernel_rfl) (by kernel_rfl) (by kernel_rfl) (fun _ _ _ h => h) (Or.inl ⟨by rfl, ?_⟩) hHeld ?_
          rotate_left 1
          · intro wS hSw; have hqS := bcellB hSw; go_simp <;> with_reducible rfl
          simp only [put_lit, List.set_cons_zero, List.set_cons_succ]
          refine reg_take 4 40 (v := ?_) rfl rfl (by kernel_rfl) (by kernel_rfl) (by kernel_rfl) (fun _ _ _ h => h) (Or.inl ⟨by rfl, ?_⟩) hHeld ?_
          rotate_left 1
          · intro wS hSw; have hqS := bcellB hSw; go_simp <;> with_reducible rfl
          simp only [put_lit, List.set_cons_zero, List.set_cons_succ]
          refine wpAnyH_ready (rs := [5, 9]) (by kernel_rfl) (by simp) ?_
          refine AllReadyH.cons rfl (fun K hK => ?_) ?_
          · skip
            go_simp
            refine (sWriteBlock _ _ _ _ ps _ _ _ _ _ _ (by first | exact HM.out.keep hHeld | exact HM.out.keep (reg_alloc hHeld (Nat.le_refl _) _))).mono ?_
            rw [HW2.out]
            simp only []
            rintro e w51 ⟨v5, rfl, ⟨A5, n5, c5, q5, rfl, hn5, hq5, hS5⟩, hb51⟩
            obtain rfl : n5 = 4 := (hS5.at hn5).1.symm.trans hl4
            have HS5 := Lib.hid hS5
            have hq5' : w3.heap.size ≤ q5 := by have := hHeld.size; (try simp at hq5); omega
            have hq5s : q5 < w51.heap.size := by rcases hS5 with h0 | h0; omega; exact h0.2.2.1
            clear hS5
            have hn51 : w3.heap.size ≤ w51.heap.size := Nat.le_trans hHeld.size hb51.size
            (try have hq5n : w3.heap.size < q5 := by (have h9 : (w3.alloc (.cells #[.int .i64 0, .slice none 0 0] _)).heap.size ≤ q5 := hq5; simp at h9; omega))
            go_wp2_with fail
            refine hK.out _ _ ?_ (fun hHeld => ?_)
            · exact reg_call hHeld hb51 (Nat.le_refl _)
            clear hK K
            (try simp only [put_lit, List.set_cons_zero, List.set_cons_succ])
            refine reg_take 6 35 (v := ?_) rfl rfl (by kernel_rfl) (by kernel_rfl) (by kernel_rfl) (fun _ _ _ h => h) (Or.inl ⟨by rfl, ?_⟩) hHeld ?_
            rotate_left 1
            · intro wS hSw; go_simp <;> with_reducible rfl
            simp only [put_lit, List.set_cons_zero, List.set_cons_succ]
            refine reg_take 7 42 (v := ?_) rfl rfl (by kernel_rfl) (by kernel_rfl) (by kernel_rfl) (fun _ _ _ h => h) (Or.inl ⟨by rfl, ?_⟩) hHeld ?_
            rotate_left 1
            · intro wS hSw; go_simp <;> with_reducible rfl
            simp only [put_lit, List.set_cons_zero, List.set_cons_succ]
            refine reg_take 8 43 (v := ?_) rfl rfl (by kernel_rfl) (by kernel_rfl) (by kernel_rfl) (fun _ _ _ h => h) (Or.inl ⟨by rfl, ?_⟩) hHeld ?_
            rotate_left 1
            · intro wS hSw; go_simp <;> with_reducible rfl
            simp only [put_lit, List.set_cons_zero, List.set_cons_succ]
            refine wpAnyH_ready (rs := [9]) (by kernel_rfl) (by simp) ?_
            refine AllReadyH.cons rfl (fun K hK => ?_) AllReadyH.nil
            go_simp
            refine hK.out _ _ ?_ (fun hHeld => ?_)
            · exact reg_alloc hHeld (Nat.le_refl _) _
            clear hK K
            (try simp only [put_lit, List.set_cons_zero, List.set_cons_succ])
            refine wpAnyH_ready (rs := [10]) (by kernel_rfl) (by simp) ?_
            refine AllReadyH.cons rfl (fun K hK => ?_) AllReadyH.nil
            go_simp
            refine hK.out _ _ ?_ (fun hHeld => ?_)
            · first | exact reg_swap hHeld (by first | with_reducible assumption | exact Nat.le_refl _ | (simp; done) | (simp; omega)) _ | exact (hHeld.setCell (p := ⟨w3.heap.size, 0, none⟩) (Nat.le_refl _) _).setCell (p := ⟨w3.heap.size, 1, none⟩) (Nat.le_refl _) _
            clear hK K
            (try simp only [put_lit, List.set_cons_zero, List.set_cons_succ])
            refine reg_take 11 10 (v := ?_) rfl rfl (by kernel_rfl) (by kernel_rfl) (by kernel_rfl) (fun _ _ _ h => h) (Or.inl ⟨by rfl, ?_⟩) hHeld ?_
            rotate_left 1
            · intro wS hSw; go_simp <;> with_reducible rfl
            simp only [put_lit, List.set_cons_zero, List.set_cons_succ]
            refine wpAnyH_done (by kernel_rfl) ?_ _
            obtain ⟨X, eX⟩ := leafW hHeld
            have x0 : X.cell? ⟨w51.heap.size, 0, none⟩ = some (.int .i64 wb.wear) := by rw [eX]; go_simp
            have x1 : X.cell? ⟨w51.heap.size, 1, none⟩ = some (.slice A5 4 c5) := by rw [eX]; go_simp
            have S5 : Hid (Sl X A5 4 q5 wb.pages) := Lib.hid (by rw [eX]; first | exact HS5.out.keep (bel_1 _ _) | exact (HS5.out.setOther (a := ⟨w3.heap.size, 0, none⟩) (by simp; omega) _).setOther (a := ⟨w3.heap.size, 1, none⟩) (by simp; omega) _)
            rw [← eX] at hHeld ⊢
            clear eX
            have hq5z : q5 < X.heap.size := by rcases S5.out with h0 | h0; omega; exact h0.2.2.1
            have HDX := Lib.hid (HD3.out.keep hHeld)
            have HBX := Lib.hid (bel_t HB3.out hHeld)
            have HGZ : Hid (∀ j, j < n → G j < w3.heap.size) := Lib.hid (fun j hj => (HD3.out.2.2.2.2.2 j hj).2.1)
            have hgz := HD3.out.2.2.1
            have hlo := HD3.out.2.1
            obtain ⟨v0, v1, e0, e1⟩ := HDX.out.2.2.2.2.1 k hk
            have hf0 := HDX.out.2.2.2.1 (k * 2)
            have hf1 := HDX.out.2.2.2.1 (k * 2 + 1)
            clear hHeld
            by_cases hnx : nx < 0
            · have HF := Lib.hid (pr_5 ds n k ⟨true, fi, pl, va, st⟩ HL.out HV.out hk HPV.out rfl wb nx HWB.out hnx)
              have HWS := Lib.hid (HSM.out hnx)
              go_wp2
              go_ret2
              rw [HF.out]
              simp only []
              refine ⟨_, rfl, ?_, ?_⟩
              · rw [s2_eq]
                have hset := HDX.out.set (k' := n) (p := k) (q := q5) (m := 4) (c := c5) (A := A5) hk (fun i hi => Or.inl hi) wb (by omega) S5.out (by omega) hq5z (by omega) (fun j hj _ => by have := HGZ.out j hj; omega)
                rw [show ds.set k wb = ds by rw [HWS.out]; exact bls_set_self ds k (by rw [HL.out]; exact hk)] at hset
                exact ⟨some ⟨g, 0, none⟩, n, c3, rfl, Or.inr ⟨g, _, rfl, by omega, hset.lower (by omega)⟩⟩
              · rw [s2_eq]
                exact bel_2s HBX.out (by have := HDX.out.2.1; omega) _ _ _ _
            · have HF := Lib.hid (pr_6 ds n k ⟨true, fi, pl, va, st⟩ HL.out HV.out hk HPV.out rfl wb nx HWB.out hnx)
              go_wp2
              go_ret2
              rw [HF.out]
              simp only []
              refine ⟨_, rfl, ?_, ?_⟩
              · rw [s2_eq]
                exact ⟨some ⟨g, 0, none⟩, n, c3, rfl, Or.inr ⟨g, _, rfl, by omega, (HDX.out.set (k' := n) (p := k) (q := q5) (m := 4) (c := c5) (A := A5) hk (fun i hi => Or.inl hi) wb (by omega) S5.out (by omega) hq5z (by omega) (fun j hj _ => by have := HGZ.out j hj; omega)).lower (by omega)⟩⟩
              · rw [s2_eq]
                exact bel_2s HBX.out (by have := HDX.out.2.1; omega) _ _ _ _
            
          refine AllReadyH.cons rfl (fun K hK => ?_) AllReadyH.nil
          go_simp
          refine hK.out _ _ ?_ (fun hHeld => ?_)
          · exact reg_alloc hHeld (Nat.le_refl _) _
          clear hK K
          (try simp only [put_lit, List.set_cons_zero, List.set_cons_succ])
          refine wpAnyH_ready (rs := [5]) (by kernel_rfl) (by simp) ?_
          refine AllReadyH.cons rfl (fun K hK => ?_) AllReadyH.nil
          go_simp
          refine (sWriteBlock _ _ _ _ ps _ _ _ _ _ _ (by first | exact HM.out.keep hHeld | exact HM.out.keep (reg_alloc hHeld (Nat.le_refl _) _))).mono ?_
          rw [HW2.out]
          simp only []
          rintro e w55 ⟨v5, rfl, ⟨A5, n5, c5, q5, rfl, hn5, hq5, hS5⟩, hb55⟩
          obtain rfl : n5 = 4 := (hS5.at hn5).1.symm.trans hl4
          have HS5 := Lib.hid hS5
          have hq5' : w3.heap.size ≤ q5 := by have := hHeld.size; (try simp at hq5); omega
          have hq5s : q5 < w55.heap.size := by rcases hS5 with h0 | h0; omega; exact h0.2.2.1
          clear hS5
          have hn55 : w3.heap.size ≤ w55.heap.size := Nat.le_trans hHeld.size hb55.size
          (try have hq5n : w3.heap.size < q5 := by (have h9 : (w3.alloc (.cells #[.int .i64 0, .slice none 0 0] _)).heap.size ≤ q5 := hq5; simp at h9; omega))
          have hGa55 : ∀ o, w55.cell? ⟨w3.heap.size, o, none⟩ = (#[.int .i64 0, .slice none 0 0] : Array Value)[o]? := fun o => ((bcell hb55).1 _ o (by simp)).trans (by simp [go_sem])
          have hGa55f : ∀ o, w55.frozen? ⟨w3.heap.size, o, none⟩ = false := fun o => ((bcell hb55).2 _ o (by simp)).trans (by simp [go_sem])
          have hGa55s : w3.heap.size < w55.heap.size := Nat.lt_of_lt_of_le (by simp) hb55.size
          go_wp2_with fail
          refine hK.out _ _ ?_ (fun hHeld => ?_)
          · exact reg_call hHeld hb55 (Nat.le_refl _)
          clear hK K
          (try simp only [put_lit, List.set_cons_zero, List.set_cons_succ])
          refine reg_take 6 35 (v := ?_) rfl rfl (by kernel_rfl) (by kernel_rfl) (by kernel_rfl) (fun _ _ _ h => h) (Or.inl ⟨by rfl, ?_⟩) hHeld ?_
          rotate_left 1
          · intro wS hSw; go_simp <;> with_reducible rfl
          simp only [put_lit, List.set_cons_zero, List.set_cons_succ]
          refine reg_take 7 42 (v := ?_) rfl rfl (by kernel_rfl) (by kernel_rfl) (by kernel_rfl) (fun _ _ _ h => h) (Or.inl ⟨by rfl, ?_⟩) hHeld ?_
          rotate_left 1
          · intro wS hSw; go_simp <;> with_reducible rfl
          simp only [put_lit, List.set_cons_zero, List.set_cons_succ]
          refine reg_take 8 43 (v := ?_) rfl rfl (by kernel_rfl) (by kernel_rfl) (by kernel_rfl) (fun _ _ _ h => h) (Or.inl ⟨by rfl, ?_⟩) hHeld ?_
          rotate_left 1
          · intro wS hSw; go_simp <;> with_reducible rfl
          simp only [put_lit, List.set_cons_zero, List.set_cons_succ]
          refine wpAnyH_ready (rs := [10]) (by kernel_rfl) (by simp) ?_
          refine AllReadyH.cons rfl (fun K hK => ?_) AllReadyH.nil
          go_simp
          refine hK.out _ _ ?_ (fun hHeld => ?_)
          · first | exact reg_swap hHeld (by first | with_reducible assumption | exact Nat.le_refl _ | (simp; done) | (simp; omega)) _ | exact (hHeld.setCell (p := ⟨w3.heap.size, 0, none⟩) (Nat.le_refl _) _).setCell (p := ⟨w3.heap.size, 1, none⟩) (Nat.le_refl _) _
          clear hK K
          (try simp only [put_lit, List.set_cons_zero, List.set_cons_succ])
          refine reg_take 11 10 (v := ?_) rfl rfl (by kernel_rfl) (by kernel_rfl) (by kernel_rfl) (fun _ _ _ h => h) (Or.inl ⟨by rfl, ?_⟩) hHeld ?_
          rotate_left 1
          · intro wS hSw; go_simp <;> with_reducible rfl
          simp only [put_lit, List.set_cons_zero, List.set_cons_succ]
          refine wpAnyH_done (by kernel_rfl) ?_ _
          obtain ⟨X, eX⟩ := leafW hHeld
          have x0 : X.cell? ⟨w3.heap.size, 0, none⟩ = some (.int .i64 wb.wear) := by rw [eX]; go_simp
          have x1 : X.cell? ⟨w3.heap.size, 1, none⟩ = some (.slice A5 4 c5) := by rw [eX]; go_simp
          have S5 : Hid (Sl X A5 4 q5 wb.pages) := Lib.hid (by rw [eX]; first | exact HS5.out.keep (bel_1 _ _) | exact (HS5.out.setOther (a := ⟨w3.heap.size, 0, none⟩) (by simp; omega) _).setOther (a := ⟨w3.heap.size, 1, none⟩) (by simp; omega) _)
          rw [← eX] at hHeld ⊢
          clear eX
          have hq5z : q5 < X.heap.size := by rcases S5.out with h0 | h0; omega; exact h0.2.2.1
          have HDX := Lib.hid (HD3.out.keep hHeld)
          have HBX := Lib.hid (bel_t HB3.out hHeld)
          have HGZ : Hid (∀ j, j < n → G j < w3.heap.size) := Lib.hid (fun j hj => (HD3.out.2.2.2.2.2 j hj).2.1)
          have hgz := HD3.out.2.2.1
          have hlo := HD3.out.2.1
          obtain ⟨v0, v1, e0, e1⟩ := HDX.out.2.2.2.2.1 k hk
          have hf0 := HDX.out.2.2.2.1 (k * 2)
          have hf1 := HDX.out.2.2.2.1 (k * 2 + 1)
          clear hHeld
          by_cases hnx : nx < 0
          · have HF := Lib.hid (pr_5 ds n k ⟨true, fi, pl, va, st⟩ HL.out HV.out hk HPV.out rfl wb nx HWB.out hnx)
            have HWS := Lib.hid (HSM.out hnx)
            go_wp2
            go_ret2
            rw [HF.out]
            simp only []
            refine ⟨_, rfl, ?_, ?_⟩
            · rw [s2_eq]
              have hset := HDX.out.set (k' := n) (p := k) (q := q5) (m := 4) (c := c5) (A := A5) hk (fun i hi => Or.inl hi) wb (by omega) S5.out (by omega) hq5z (by omega) (fun j hj _ => by have := HGZ.out j hj; omega)
              rw [show ds.set k wb = ds by rw [HWS.out]; exact bls_set_self ds k (by rw [HL.out]; exact hk)] at hset
              exact ⟨some ⟨g, 0, none⟩, n, c3, rfl, Or.inr ⟨g, _, rfl, by omega, hset.lower (by omega)⟩⟩
            · rw [s2_eq]
              exact bel_2s HBX.out (by have := HDX.out.2.1; omega) _ _ _ _
          · have HF := Lib.hid (pr_6 ds n k ⟨true, fi, pl, va, st⟩ HL.out HV.out hk HPV.out rfl wb nx HWB.out hnx)
            go_wp2
            go_ret2
            rw [HF.out]
            simp only []
            refine ⟨_, rfl, ?_, ?_⟩
            · rw [s2_eq]
              exact ⟨some ⟨g, 0, none⟩, n, c3, rfl, Or.inr ⟨g, _, rfl, by omega, (HDX.out.set (k' := n) (p := k) (q := q5) (m := 4) (c := c5) (A := A5) hk (fun i hi => Or.inl hi) wb (by omega) S5.out (by omega) hq5z (by omega) (fun j hj _ => by have := HGZ.out j hj; omega)).lower (by omega)⟩⟩
            · rw [s2_eq]
              exact bel_2s HBX.out (by have := HDX.out.2.1; omega) _ _ _ _
          
    · have HF := Lib.hid (pr_2 ds n x ⟨f, fi, pl, va, st⟩ HL.out hx)
      have hin : inB x 0 ((n : Int) - 1) = false := by simp only [inB, Bool.and_eq_false_iff, decide_eq_false_iff_not]; omega
      by_cases h0 : x < 0
      all_goals
        try have h00 : (n : Int) ≤ x := by omega
        clear hx
        go_wp2_with (go_at_call 59; refine (l1In_any _ _ _ _).mono ?_; rintro e w' ⟨rfl, rfl⟩)
        go_ret2
        exact ⟨.slice (some ⟨w1.heap.size, 0, none⟩) 0 0, by rw [HF.out]; rfl, by rw [HF.out]; exact ⟨_, 0, 0, rfl, Or.inl ⟨rfl, rfl⟩⟩, bel_t HB1.out (bel_1 _ _)⟩

end Go.Proofs.Yteekikaebmkioaa
