/-auto What the program's and the reference's WriteBlock and EraseBlock return. -/
import Derived.Test.YteekikaebmkioaaClone
namespace Go.Proofs.Yteekikaebmkioaa
open Go.RowKit
set_option linter.unusedVariables false

theorem wb_1 (b : Bl) (p : Pg) (h : blockValidF b = false) : writeBlockF b p = (Bl.zero, -1) := by rw [writeBlockF, h]; rfl
theorem wb_2 (b : Bl) (p : Pg) (h : pageValidF p = false) : writeBlockF b p = (Bl.zero, -1) := by rw [writeBlockF, h]; cases blockValidF b <;> rfl
theorem wb_3 (b : Bl) (p : Pg) (h : p.full = false) : writeBlockF b p = (Bl.zero, -1) := by rw [writeBlockF, h]; cases blockValidF b <;> cases pageValidF p <;> rfl
theorem wb_4 (b : Bl) (p : Pg) (k : Nat) (h1 : blockValidF b = true) (h2 : pageValidF p = true) (h3 : p.full = true) (hk : blockNextF b = (k : Int)) : writeBlockF b p = (⟨b.wear, b.pages.set k p⟩, (k : Int)) := by
  rw [writeBlockF, h1, h2, h3, hk]; simp
theorem wb_5 (b : Bl) (p : Pg) (v : Int) (h1 : blockValidF b = true) (h2 : pageValidF p = true) (h3 : p.full = true) (hk : blockNextF b = v) (hv : ¬ 0 ≤ v) : writeBlockF b p = (b, v) := by
  rw [writeBlockF, h1, h2, h3, hk]; simp [hv]
theorem ff_lt (ps : List Pg) (m k : Nat) : freeFrom ps m k < ((k + m : Nat) : Int) := by
  induction m generalizing k with
  | zero => rw [freeFrom_zero]; omega
  | succ m ih =>
    rw [freeFrom_succ]
    split
    · have := ih (k + 1); omega
    · omega
theorem bn_lt (b : Bl) (h : blockValidF b = true) : blockNextF b < 4 := by
  have := ff_lt b.pages b.pages.length 0
  rw [blockNextF, h]
  rw [bv_len b h] at this ⊢
  simpa using this
theorem eb_1 (b : Bl) (h : blockValidF b = false) : eraseBlockF b = (Bl.zero, false) := by rw [eraseBlockF, h]; rfl
theorem eb_2 (z : Int) (ps : List Pg) (h : blockValidF ⟨z, ps⟩ = true) (hz : z = 100) : eraseBlockF ⟨z, ps⟩ = (⟨z, ps⟩, false) := by rw [eraseBlockF, h]; simp [hz]
theorem eb_3 (z : Int) (ps : List Pg) (h : blockValidF ⟨z, ps⟩ = true) (hz : ¬ z = 100) : eraseBlockF ⟨z, ps⟩ = (newBlockF (z + 1), true) := by rw [eraseBlockF, h]; simp [hz]
theorem bv_wear (b : Bl) (h : blockValidF b = true) : 0 ≤ b.wear ∧ b.wear ≤ 100 := by
  rw [blockValidF] at h
  simp only [Bool.and_eq_true, inB, decide_eq_true_eq] at h
  exact h.1.1
theorem out_zero (w w' : World) : BlkOut w w' Bl.zero (.agg #[.int .i64 0, .slice none 0 0]) := ⟨none, 0, 0, w.heap.size, rfl, by omega, Nat.le_refl _, Or.inl ⟨rfl, rfl⟩⟩

set_option maxHeartbeats 1000000 in
theorem iWriteBlock (z : Int) (A : Option Addr) (n c : Nat) (ps : List Pg) (f : Bool) (fi pl va st : Int) (w : World) (h : PgsAt w A n ps) :
    Calls Try.prog 23 #[.agg #[.int .i64 z, .slice A n c], .agg #[.bool f, .int .i64 fi, .int .i64 pl, .int .i64 va, .int .i64 st]] w fun e w' => ∃ v, e = .returned (.tuple #[v, .int .i64 (writeBlockF ⟨z, ps⟩ ⟨f, fi, pl, va, st⟩).2]) ∧ BlkOut w w' (writeBlockF ⟨z, ps⟩ ⟨f, fi, pl, va, st⟩).1 v ∧ Below w.heap.size w w' := by
  have HP := Lib.hid h
  clear h
  go_enter Try.func23, Try.ntmps23
  go_wp2_with fail
  have HB0 := Lib.hid (bel_3 w (.cells #[.int .i64 z, .slice A n c] 25) (.cells #[.bool f, .int .i64 fi, .int .i64 pl, .int .i64 va, .int .i64 st] 32) (.cells #[.int .i64 0, .slice none 0 0] 25))
  have b0 : (((w.alloc (.cells #[.int .i64 z, .slice A n c] 25)).alloc (.cells #[.bool f, .int .i64 fi, .int .i64 pl, .int .i64 va, .int .i64 st] 32)).alloc (.cells #[.int .i64 0, .slice none 0 0] 25)).cell? ⟨w.heap.size, 0, none⟩ = some (.int .i64 z) := by simp [go_sem]
  have b1 : (((w.alloc (.cells #[.int .i64 z, .slice A n c] 25)).alloc (.cells #[.bool f, .int .i64 fi, .int .i64 pl, .int .i64 va, .int .i64 st] 32)).alloc (.cells #[.int .i64 0, .slice none 0 0] 25)).cell? ⟨w.heap.size, 1, none⟩ = some (.slice A n c) := by simp [go_sem]
  have p0 : (((w.alloc (.cells #[.int .i64 z, .slice A n c] 25)).alloc (.cells #[.bool f, .int .i64 fi, .int .i64 pl, .int .i64 va, .int .i64 st] 32)).alloc (.cells #[.int .i64 0, .slice none 0 0] 25)).cell? ⟨w.heap.size + 1, 0, none⟩ = some (.bool f) := by simp [go_sem]
  have p1 : (((w.alloc (.cells #[.int .i64 z, .slice A n c] 25)).alloc (.cells #[.bool f, .int .i64 fi, .int .i64 pl, .int .i64 va, .int .i64 st] 32)).alloc (.cells #[.int .i64 0, .slice none 0 0] 25)).cell? ⟨w.heap.size + 1, 1, none⟩ = some (.int .i64 fi) := by simp [go_sem]
  have p2 : (((w.alloc (.cells #[.int .i64 z, .slice A n c] 25)).alloc (.cells #[.bool f, .int .i64 fi, .int .i64 pl, .int .i64 va, .int .i64 st] 32)).alloc (.cells #[.int .i64 0, .slice none 0 0] 25)).cell? ⟨w.heap.size + 1, 2, none⟩ = some (.int .i64 pl) := by simp [go_sem]
  have p3 : (((w.alloc (.cells #[.int .i64 z, .slice A n c] 25)).alloc (.cells #[.bool f, .int .i64 fi, .int .i64 pl, .int .i64 va, .int .i64 st] 32)).alloc (.cells #[.int .i64 0, .slice none 0 0] 25)).cell? ⟨w.heap.size + 1, 3, none⟩ = some (.int .i64 va) := by simp [go_sem]
  have p4 : (((w.alloc (.cells #[.int .i64 z, .slice A n c] 25)).alloc (.cells #[.bool f, .int .i64 fi, .int .i64 pl, .int .i64 va, .int .i64 st] 32)).alloc (.cells #[.int .i64 0, .slice none 0 0] 25)).cell? ⟨w.heap.size + 1, 4, none⟩ = some (.int .i64 st) := by simp [go_sem]
  have r0 : (((w.alloc (.cells #[.int .i64 z, .slice A n c] 25)).alloc (.cells #[.bool f, .int .i64 fi, .int .i64 pl, .int .i64 va, .int .i64 st] 32)).alloc (.cells #[.int .i64 0, .slice none 0 0] 25)).cell? ⟨w.heap.size + 2, 0, none⟩ = some (.int .i64 0) := by simp [go_sem]
  have f0 : (((w.alloc (.cells #[.int .i64 z, .slice A n c] 25)).alloc (.cells #[.bool f, .int .i64 fi, .int .i64 pl, .int .i64 va, .int .i64 st] 32)).alloc (.cells #[.int .i64 0, .slice none 0 0] 25)).frozen? ⟨w.heap.size + 2, 0, none⟩ = false := by simp [go_sem]
  have r1 : (((w.alloc (.cells #[.int .i64 z, .slice A n c] 25)).alloc (.cells #[.bool f, .int .i64 fi, .int .i64 pl, .int .i64 va, .int .i64 st] 32)).alloc (.cells #[.int .i64 0, .slice none 0 0] 25)).cell? ⟨w.heap.size + 2, 1, none⟩ = some (.slice none 0 0) := by simp [go_sem]
  have f1 : (((w.alloc (.cells #[.int .i64 z, .slice A n c] 25)).alloc (.cells #[.bool f, .int .i64 fi, .int .i64 pl, .int .i64 va, .int .i64 st] 32)).alloc (.cells #[.int .i64 0, .slice none 0 0] 25)).frozen? ⟨w.heap.size + 2, 1, none⟩ = false := by simp [go_sem]
  have hW : (((w.alloc (.cells #[.int .i64 z, .slice A n c] 25)).alloc (.cells #[.bool f, .int .i64 fi, .int .i64 pl, .int .i64 va, .int .i64 st] 32)).alloc (.cells #[.int .i64 0, .slice none 0 0] 25)).heap.size = w.heap.size + 3 := by simp
  generalize (((w.alloc (.cells #[.int .i64 z, .slice A n c] 25)).alloc (.cells #[.bool f, .int .i64 fi, .int .i64 pl, .int .i64 va, .int .i64 st] 32)).alloc (.cells #[.int .i64 0, .slice none 0 0] 25)) = W at *
  refine (iBlockValid _ _ _ _ ps _ (HP.out.keep HB0.out)).mono ?_
  rintro e w1 ⟨rfl, hb1⟩
  have HB1 := Lib.hid (bel_t HB0.out hb1)
  replace b0 := stays_below hb1 _ _ _ b0
  replace b1 := stays_below hb1 _ _ _ b1
  replace p0 := stays_below hb1 _ _ _ p0
  replace p1 := stays_below hb1 _ _ _ p1
  replace p2 := stays_below hb1 _ _ _ p2
  replace p3 := stays_below hb1 _ _ _ p3
  replace p4 := stays_below hb1 _ _ _ p4
  replace r0 := stays_below hb1 _ _ _ r0
  replace r1 := stays_below hb1 _ _ _ r1
  replace f0 := ((bcell hb1).2 _ _ (by omega)).trans f0
  replace f1 := ((bcell hb1).2 _ _ (by omega)).trans f1
  have hs1 : w.heap.size + 3 ≤ w1.heap.size := by have := hb1.size; omega
  clear hb1 hW
  cases hv : blockValidF ⟨z, ps⟩
  · skip
    have HF := Lib.hid (wb_1 _ ⟨f, fi, pl, va, st⟩ hv)
    go_wp2
    refine bodyPost_ret (v := .tuple #[.agg #[.int .i64 0, .slice none 0 0], .int .i64 (-1)]) (by simp [results, Try.results23, go_sem, r0, r1]) rfl ⟨_, by rw [HF.out], ?_, ?_⟩
    · rw [HF.out]; exact out_zero _ _
    · exact (HB1.out.setCell (p := ⟨w.heap.size + 2, 0, none⟩) (by simp <;> omega) _).setCell (p := ⟨w.heap.size + 2, 1, none⟩) (by simp <;> omega) _
  · have hn4 : n = 4 := HP.out.1.symm.trans (bv_len _ hv)
    subst hn4
    go_wp2_with fail
    refine (iPageValid _ _ _ _ _ _).mono ?_
    rintro e w2 ⟨rfl, hb2⟩
    have HB2 := Lib.hid (bel_t HB1.out hb2)
    replace b0 := stays_below hb2 _ _ _ b0
    replace b1 := stays_below hb2 _ _ _ b1
    replace p0 := stays_below hb2 _ _ _ p0
    replace p1 := stays_below hb2 _ _ _ p1
    replace p2 := stays_below hb2 _ _ _ p2
    replace p3 := stays_below hb2 _ _ _ p3
    replace p4 := stays_below hb2 _ _ _ p4
    replace r0 := stays_below hb2 _ _ _ r0
    replace r1 := stays_below hb2 _ _ _ r1
    replace f0 := ((bcell hb2).2 _ _ (by omega)).trans f0
    replace f1 := ((bcell hb2).2 _ _ (by omega)).trans f1
    have hs2 : w.heap.size + 3 ≤ w2.heap.size := by have := hb2.size; omega
    clear hb2 HB1
    cases hp : pageValidF ⟨f, fi, pl, va, st⟩
    · skip
      have HF := Lib.hid (wb_2 ⟨z, ps⟩ _ hp)
      go_wp2
      refine bodyPost_ret (v := .tuple #[.agg #[.int .i64 0, .slice none 0 0], .int .i64 (-1)]) (by simp [results, Try.results23, go_sem, r0, r1]) rfl ⟨_, by rw [HF.out], ?_, ?_⟩
      · rw [HF.out]; exact out_zero _ _
      · exact (HB2.out.setCell (p := ⟨w.heap.size + 2, 0, none⟩) (by simp <;> omega) _).setCell (p := ⟨w.heap.size + 2, 1, none⟩) (by simp <;> omega) _
    · cases f
      · skip
        have HF := Lib.hid (wb_3 ⟨z, ps⟩ ⟨false, fi, pl, va, st⟩ rfl)
        go_wp2
        refine bodyPost_ret (v := .tuple #[.agg #[.int .i64 0, .slice none 0 0], .int .i64 (-1)]) (by simp [results, Try.results23, go_sem, r0, r1]) rfl ⟨_, by rw [HF.out], ?_, ?_⟩
        · rw [HF.out]; exact out_zero _ _
        · exact (HB2.out.setCell (p := ⟨w.heap.size + 2, 0, none⟩) (by simp <;> omega) _).setCell (p := ⟨w.heap.size + 2, 1, none⟩) (by simp <;> omega) _
      · have HV := Lib.hid hv
        have HPV := Lib.hid hp
        clear hv hp
        go_wp2_with fail
        refine (iClone _ _ _ ps _ (HP.out.keep HB2.out)).mono ?_
        rintro e w3 ⟨g, c', rfl, hg, hR3, hb3⟩
        have HB3 := Lib.hid (bel_t HB2.out hb3)
        have HR3 := Lib.hid hR3
        have hg3 := hR3.2.1
        replace b0 := stays_below hb3 _ _ _ b0
        replace b1 := stays_below hb3 _ _ _ b1
        replace p0 := stays_below hb3 _ _ _ p0
        replace p1 := stays_below hb3 _ _ _ p1
        replace p2 := stays_below hb3 _ _ _ p2
        replace p3 := stays_below hb3 _ _ _ p3
        replace p4 := stays_below hb3 _ _ _ p4
        replace r0 := stays_below hb3 _ _ _ r0
        replace r1 := stays_below hb3 _ _ _ r1
        replace f0 := ((bcell hb3).2 _ _ (by omega)).trans f0
        replace f1 := ((bcell hb3).2 _ _ (by omega)).trans f1
        have hs3 : w.heap.size + 3 ≤ w3.heap.size := by have := hb3.size; omega
        have hz3 : w.heap.size < w3.heap.size := by omega
        have hz3' : w.heap.size + 1 < w3.heap.size := by omega
        have hz3'' : w.heap.size + 1 + 1 < w3.heap.size := by omega
        clear hb3 hR3 HB2
        go_wp2_with fail
        refine (iBlockNext _ _ _ _ ps _ (HP.out.keep (bel_t HB3.out (bel_1 _ _)))).mono ?_
        obtain ⟨v, HN⟩ : ∃ v, Hid (blockNextF ⟨z, ps⟩ = v) := ⟨_, rfl⟩
        rw [HN.out]
        rintro e w4 ⟨rfl, hb4⟩
        have HV4 := Lib.hid (bel_t (bel_1 _ _) hb4)
        have HB4 := Lib.hid (bel_t HB3.out HV4.out)
        have HR4 := Lib.hid (HR3.out.keep HV4.out)
        have o0 : w4.cell? ⟨w3.heap.size, 0, none⟩ = some (.int .i64 z) := stays_below hb4 _ _ _ (by simp [go_sem])
        have o1 : w4.cell? ⟨w3.heap.size, 1, none⟩ = some (.slice (some ⟨g, 0, none⟩) 4 c') := stays_below hb4 _ _ _ (by simp [go_sem])
        replace p0 := stays_below HV4.out _ _ _ p0
        replace p1 := stays_below HV4.out _ _ _ p1
        replace p2 := stays_below HV4.out _ _ _ p2
        replace p3 := stays_below HV4.out _ _ _ p3
        replace p4 := stays_below HV4.out _ _ _ p4
        replace r0 := stays_below HV4.out _ _ _ r0
        replace r1 := stays_below HV4.out _ _ _ r1
        replace f0 := ((bcell HV4.out).2 _ _ (by omega)).trans f0
        replace f1 := ((bcell HV4.out).2 _ _ (by omega)).trans f1
        clear hb4 b0 b1 HR3 HB3 HV4
        have n1 : ¬ g = w3.heap.size := by omega
        have n2 : ¬ w3.heap.size = g := by omega
        have n3 : ¬ g = w.heap.size + 1 := by omega
        have n4 : ¬ w.heap.size + 1 = g := by omega
        have n5 : ¬ g = w.heap.size + 2 := by omega
        have n6 : ¬ w.heap.size + 2 = g := by omega
        have n5' : ¬ g = w.heap.size + 1 + 1 := by omega
        have n6' : ¬ w.heap.size + 1 + 1 = g := by omega
        have n7 : ¬ w3.heap.size = w.heap.size + 2 := by omega
        have n8 : ¬ w.heap.size + 2 = w3.heap.size := by omega
        have hv4 : v < 4 := by rw [← HN.out]; exact bn_lt _ HV.out
        by_cases hv0 : 0 ≤ v
        · obtain ⟨k, rfl⟩ : ∃ k : Nat, v = (k : Int) := ⟨v.toNat, by omega⟩
          have hk4 : k < 4 := by omega
          have HF := Lib.hid (wb_4 ⟨z, ps⟩ ⟨true, fi, pl, va, st⟩ k HV.out HPV.out rfl HN.out)
          obtain ⟨e0, e1, e2, e3, e4⟩ := HR4.out.2.2.1 k hk4
          have u0 := HR4.out.2.2.2 (k * 5)
          have u1 := HR4.out.2.2.2 (k * 5 + 1)
          have u2 := HR4.out.2.2.2 (k * 5 + 2)
          have u3 := HR4.out.2.2.2 (k * 5 + 3)
          have u4 := HR4.out.2.2.2 (k * 5 + 4)
          go_wp2
          refine bodyPost_ret (v := .tuple #[.agg #[.int .i64 z, .slice (some ⟨g, 0, none⟩) 4 c'], .int .i64 (k : Int)]) (by simp [results, Try.results23, go_sem, r0, r1]) rfl ⟨_, by rw [HF.out], ?_, ?_⟩
          · rw [HF.out, s5_eq]
            exact ⟨some ⟨g, 0, none⟩, 4, c', g, rfl, by omega, by omega, Or.inr ⟨rfl, ((HR4.out.set hk4 ⟨true, fi, pl, va, st⟩).setOther (a := ⟨w.heap.size + 2, 0, none⟩) n6 _).setOther (a := ⟨w.heap.size + 2, 1, none⟩) n6 _⟩⟩
          · rw [s5_eq]
            exact ((bel_5 HB4.out (by omega) ⟨true, fi, pl, va, st⟩).setCell (p := ⟨w.heap.size + 2, 0, none⟩) (by simp <;> omega) _).setCell (p := ⟨w.heap.size + 2, 1, none⟩) (by simp <;> omega) _
        · have HF := Lib.hid (wb_5 ⟨z, ps⟩ ⟨true, fi, pl, va, st⟩ v HV.out HPV.out rfl HN.out hv0)
          go_wp2
          refine bodyPost_ret (v := .tuple #[.agg #[.int .i64 z, .slice (some ⟨g, 0, none⟩) 4 c'], .int .i64 v]) (by simp [results, Try.results23, go_sem, r0, r1]) rfl ⟨_, by rw [HF.out], ?_, ?_⟩
          · rw [HF.out]
            exact ⟨some ⟨g, 0, none⟩, 4, c', g, rfl, by omega, by omega, Or.inr ⟨rfl, (HR4.out.setOther (a := ⟨w.heap.size + 2, 0, none⟩) n6 _).setOther (a := ⟨w.heap.size + 2, 1, none⟩) n6 _⟩⟩
          · exact (HB4.out.setCell (p := ⟨w.heap.size + 2, 0, none⟩) (by simp <;> omega) _).setCell (p := ⟨w.heap.size + 2, 1, none⟩) (by simp <;> omega) _

set_option maxHeartbeats 1000000 in
theorem iEraseBlock (z : Int) (A : Option Addr) (n c : Nat) (ps : List Pg) (w : World) (h : PgsAt w A n ps) :
    Calls Try.prog 28 #[.agg #[.int .i64 z, .slice A n c]] w fun e w' => ∃ v, e = .returned (.tuple #[v, .bool (eraseBlockF ⟨z, ps⟩).2]) ∧ BlkOut w w' (eraseBlockF ⟨z, ps⟩).1 v ∧ Below w.heap.size w w' := by
  have HP := Lib.hid h
  clear h
  go_enter Try.func28, Try.ntmps28
  go_wp2_with fail
  have HB0 := Lib.hid (bel_2 w (.cells #[.int .i64 z, .slice A n c] 25) (.cells #[.int .i64 0, .slice none 0 0] 25))
  have b0 : ((w.alloc (.cells #[.int .i64 z, .slice A n c] 25)).alloc (.cells #[.int .i64 0, .slice none 0 0] 25)).cell? ⟨w.heap.size, 0, none⟩ = some (.int .i64 z) := by simp [go_sem]
  have b1 : ((w.alloc (.cells #[.int .i64 z, .slice A n c] 25)).alloc (.cells #[.int .i64 0, .slice none 0 0] 25)).cell? ⟨w.heap.size, 1, none⟩ = some (.slice A n c) := by simp [go_sem]
  have r0 : ((w.alloc (.cells #[.int .i64 z, .slice A n c] 25)).alloc (.cells #[.int .i64 0, .slice none 0 0] 25)).cell? ⟨w.heap.size + 1, 0, none⟩ = some (.int .i64 0) := by simp [go_sem]
  have f0 : ((w.alloc (.cells #[.int .i64 z, .slice A n c] 25)).alloc (.cells #[.int .i64 0, .slice none 0 0] 25)).frozen? ⟨w.heap.size + 1, 0, none⟩ = false := by simp [go_sem]
  have r1 : ((w.alloc (.cells #[.int .i64 z, .slice A n c] 25)).alloc (.cells #[.int .i64 0, .slice none 0 0] 25)).cell? ⟨w.heap.size + 1, 1, none⟩ = some (.slice none 0 0) := by simp [go_sem]
  have f1 : ((w.alloc (.cells #[.int .i64 z, .slice A n c] 25)).alloc (.cells #[.int .i64 0, .slice none 0 0] 25)).frozen? ⟨w.heap.size + 1, 1, none⟩ = false := by simp [go_sem]
  have hW : ((w.alloc (.cells #[.int .i64 z, .slice A n c] 25)).alloc (.cells #[.int .i64 0, .slice none 0 0] 25)).heap.size = w.heap.size + 2 := by simp
  generalize ((w.alloc (.cells #[.int .i64 z, .slice A n c] 25)).alloc (.cells #[.int .i64 0, .slice none 0 0] 25)) = W at *
  refine (iBlockValid _ _ _ _ ps _ (HP.out.keep HB0.out)).mono ?_
  rintro e w1 ⟨rfl, hb1⟩
  have HB1 := Lib.hid (bel_t HB0.out hb1)
  replace b0 := stays_below hb1 _ _ _ b0
  replace b1 := stays_below hb1 _ _ _ b1
  replace r0 := stays_below hb1 _ _ _ r0
  replace r1 := stays_below hb1 _ _ _ r1
  replace f0 := ((bcell hb1).2 _ _ (by omega)).trans f0
  replace f1 := ((bcell hb1).2 _ _ (by omega)).trans f1
  have hs1 : w.heap.size + 2 ≤ w1.heap.size := by have := hb1.size; omega
  clear hb1 hW
  cases hv : blockValidF ⟨z, ps⟩
  · have HF := Lib.hid (eb_1 _ hv)
    go_wp2
    refine bodyPost_ret (v := .tuple #[.agg #[.int .i64 0, .slice none 0 0], .bool false]) (by simp [results, Try.results28, go_sem, r0, r1]) rfl ⟨_, by rw [HF.out], ?_, ?_⟩
    · rw [HF.out]; exact out_zero _ _
    · exact (HB1.out.setCell (p := ⟨w.heap.size + 1, 0, none⟩) (by simp <;> omega) _).setCell (p := ⟨w.heap.size + 1, 1, none⟩) (by simp <;> omega) _
  · have hn4 : n = 4 := HP.out.1.symm.trans (bv_len _ hv)
    subst hn4
    have hw : 0 ≤ z ∧ z ≤ 100 := bv_wear _ hv
    by_cases hz : z = 100
    · have HF := Lib.hid (eb_2 z ps hv hz)
      subst hz
      clear hv
      go_wp2_with fail
      refine (iClone _ _ _ ps _ (HP.out.keep HB1.out)).mono ?_
      rintro e w2 ⟨g, c', rfl, hg, hR2, hb2⟩
      have HB2 := Lib.hid (bel_t HB1.out hb2)
      have HR2 := Lib.hid hR2
      replace r0 := stays_below hb2 _ _ _ r0
      replace r1 := stays_below hb2 _ _ _ r1
      replace f0 := ((bcell hb2).2 _ _ (by omega)).trans f0
      replace f1 := ((bcell hb2).2 _ _ (by omega)).trans f1
      clear hb2 hR2 b0 b1
      go_wp2
      refine bodyPost_ret (v := .tuple #[.agg #[.int .i64 100, .slice (some ⟨g, 0, none⟩) 4 c'], .bool false]) (by simp [results, Try.results28, go_sem, r0, r1]) rfl ⟨_, by rw [HF.out], ?_, ?_⟩
      · rw [HF.out]
        exact ⟨some ⟨g, 0, none⟩, 4, c', g, rfl, by omega, by omega, Or.inr ⟨rfl, (HR2.out.setOther (a := ⟨w.heap.size + 1, 0, none⟩) (by simp; omega) _).setOther (a := ⟨w.heap.size + 1, 1, none⟩) (by simp; omega) _⟩⟩
      · exact (HB2.out.setCell (p := ⟨w.heap.size + 1, 0, none⟩) (by simp <;> omega) _).setCell (p := ⟨w.heap.size + 1, 1, none⟩) (by simp <;> omega) _
    · have HF := Lib.hid (eb_3 z ps hv hz)
      have hzz : (z == 100) = false := by simpa using hz
      clear hv
      go_wp2_with fail
      refine (iNewBlock _ _).mono ?_
      rintro e w2 ⟨v, rfl, ⟨A', n', c', q, rfl, hn', hq, hS⟩, hb2⟩
      have HB2 := Lib.hid (bel_t HB1.out hb2)
      have HS := Lib.hid hS
      replace r0 := stays_below hb2 _ _ _ r0
      replace r1 := stays_below hb2 _ _ _ r1
      replace f0 := ((bcell hb2).2 _ _ (by omega)).trans f0
      replace f1 := ((bcell hb2).2 _ _ (by omega)).trans f1
      clear hb2 hS b0 b1
      generalize hnw : newBlockF (z + 1) = nb at *
      go_wp2
      refine bodyPost_ret (v := .tuple #[.agg #[.int .i64 nb.wear, .slice A' n' c'], .bool true]) (by simp [results, Try.results28, go_sem, r0, r1]) rfl ⟨_, by rw [HF.out], ?_, ?_⟩
      · rw [HF.out]
        exact ⟨A', n', c', q, rfl, hn', by omega, (HS.out.setOther (a := ⟨w.heap.size + 1, 0, none⟩) (by simp; omega) _).setOther (a := ⟨w.heap.size + 1, 1, none⟩) (by simp; omega) _⟩
      · exact (HB2.out.setCell (p := ⟨w.heap.size + 1, 0, none⟩) (by simp <;> omega) _).setCell (p := ⟨w.heap.size + 1, 1, none⟩) (by simp <;> omega) _

set_option maxHeartbeats 1000000 in
theorem sWriteBlock (z : Int) (A : Option Addr) (n c : Nat) (ps : List Pg) (f : Bool) (fi pl va st : Int) (w : World) (h : PgsAt w A n ps) :
    Calls Try.prog 24 #[.agg #[.int .i64 z, .slice A n c], .agg #[.bool f, .int .i64 fi, .int .i64 pl, .int .i64 va, .int .i64 st]] w fun e w' => ∃ v, e = .returned (.tuple #[v, .int .i64 (writeBlockF ⟨z, ps⟩ ⟨f, fi, pl, va, st⟩).2]) ∧ BlkOut w w' (writeBlockF ⟨z, ps⟩ ⟨f, fi, pl, va, st⟩).1 v ∧ Below w.heap.size w w' := by
  have HP := Lib.hid h
  clear h
  go_enter Try.func24, Try.ntmps24
  go_wp2_with fail
  have HB0 := Lib.hid (bel_3 w (.cells #[.int .i64 z, .slice A n c] 25) (.cells #[.bool f, .int .i64 fi, .int .i64 pl, .int .i64 va, .int .i64 st] 32) (.cells #[.int .i64 0, .slice none 0 0] 25))
  have b0 : (((w.alloc (.cells #[.int .i64 z, .slice A n c] 25)).alloc (.cells #[.bool f, .int .i64 fi, .int .i64 pl, .int .i64 va, .int .i64 st] 32)).alloc (.cells #[.int .i64 0, .slice none 0 0] 25)).cell? ⟨w.heap.size, 0, none⟩ = some (.int .i64 z) := by simp [go_sem]
  have b1 : (((w.alloc (.cells #[.int .i64 z, .slice A n c] 25)).alloc (.cells #[.bool f, .int .i64 fi, .int .i64 pl, .int .i64 va, .int .i64 st] 32)).alloc (.cells #[.int .i64 0, .slice none 0 0] 25)).cell? ⟨w.heap.size, 1, none⟩ = some (.slice A n c) := by simp [go_sem]
  have p0 : (((w.alloc (.cells #[.int .i64 z, .slice A n c] 25)).alloc (.cells #[.bool f, .int .i64 fi, .int .i64 pl, .int .i64 va, .int .i64 st] 32)).alloc (.cells #[.int .i64 0, .slice none 0 0] 25)).cell? ⟨w.heap.size + 1, 0, none⟩ = some (.bool f) := by simp [go_sem]
  have p1 : (((w.alloc (.cells #[.int .i64 z, .slice A n c] 25)).alloc (.cells #[.bool f, .int .i64 fi, .int .i64 pl, .int .i64 va, .int .i64 st] 32)).alloc (.cells #[.int .i64 0, .slice none 0 0] 25)).cell? ⟨w.heap.size + 1, 1, none⟩ = some (.int .i64 fi) := by simp [go_sem]
  have p2 : (((w.alloc (.cells #[.int .i64 z, .slice A n c] 25)).alloc (.cells #[.bool f, .int .i64 fi, .int .i64 pl, .int .i64 va, .int .i64 st] 32)).alloc (.cells #[.int .i64 0, .slice none 0 0] 25)).cell? ⟨w.heap.size + 1, 2, none⟩ = some (.int .i64 pl) := by simp [go_sem]
  have p3 : (((w.alloc (.cells #[.int .i64 z, .slice A n c] 25)).alloc (.cells #[.bool f, .int .i64 fi, .int .i64 pl, .int .i64 va, .int .i64 st] 32)).alloc (.cells #[.int .i64 0, .slice none 0 0] 25)).cell? ⟨w.heap.size + 1, 3, none⟩ = some (.int .i64 va) := by simp [go_sem]
  have p4 : (((w.alloc (.cells #[.int .i64 z, .slice A n c] 25)).alloc (.cells #[.bool f, .int .i64 fi, .int .i64 pl, .int .i64 va, .int .i64 st] 32)).alloc (.cells #[.int .i64 0, .slice none 0 0] 25)).cell? ⟨w.heap.size + 1, 4, none⟩ = some (.int .i64 st) := by simp [go_sem]
  have r0 : (((w.alloc (.cells #[.int .i64 z, .slice A n c] 25)).alloc (.cells #[.bool f, .int .i64 fi, .int .i64 pl, .int .i64 va, .int .i64 st] 32)).alloc (.cells #[.int .i64 0, .slice none 0 0] 25)).cell? ⟨w.heap.size + 2, 0, none⟩ = some (.int .i64 0) := by simp [go_sem]
  have f0 : (((w.alloc (.cells #[.int .i64 z, .slice A n c] 25)).alloc (.cells #[.bool f, .int .i64 fi, .int .i64 pl, .int .i64 va, .int .i64 st] 32)).alloc (.cells #[.int .i64 0, .slice none 0 0] 25)).frozen? ⟨w.heap.size + 2, 0, none⟩ = false := by simp [go_sem]
  have r1 : (((w.alloc (.cells #[.int .i64 z, .slice A n c] 25)).alloc (.cells #[.bool f, .int .i64 fi, .int .i64 pl, .int .i64 va, .int .i64 st] 32)).alloc (.cells #[.int .i64 0, .slice none 0 0] 25)).cell? ⟨w.heap.size + 2, 1, none⟩ = some (.slice none 0 0) := by simp [go_sem]
  have f1 : (((w.alloc (.cells #[.int .i64 z, .slice A n c] 25)).alloc (.cells #[.bool f, .int .i64 fi, .int .i64 pl, .int .i64 va, .int .i64 st] 32)).alloc (.cells #[.int .i64 0, .slice none 0 0] 25)).frozen? ⟨w.heap.size + 2, 1, none⟩ = false := by simp [go_sem]
  have hW : (((w.alloc (.cells #[.int .i64 z, .slice A n c] 25)).alloc (.cells #[.bool f, .int .i64 fi, .int .i64 pl, .int .i64 va, .int .i64 st] 32)).alloc (.cells #[.int .i64 0, .slice none 0 0] 25)).heap.size = w.heap.size + 3 := by simp
  generalize (((w.alloc (.cells #[.int .i64 z, .slice A n c] 25)).alloc (.cells #[.bool f, .int .i64 fi, .int .i64 pl, .int .i64 va, .int .i64 st] 32)).alloc (.cells #[.int .i64 0, .slice none 0 0] 25)) = W at *
  refine (sBlockValid _ _ _ _ ps _ (HP.out.keep HB0.out)).mono ?_
  rintro e w1 ⟨rfl, hb1⟩
  have HB1 := Lib.hid (bel_t HB0.out hb1)
  replace b0 := stays_below hb1 _ _ _ b0
  replace b1 := stays_below hb1 _ _ _ b1
  replace p0 := stays_below hb1 _ _ _ p0
  replace p1 := stays_below hb1 _ _ _ p1
  replace p2 := stays_below hb1 _ _ _ p2
  replace p3 := stays_below hb1 _ _ _ p3
  replace p4 := stays_below hb1 _ _ _ p4
  replace r0 := stays_below hb1 _ _ _ r0
  replace r1 := stays_below hb1 _ _ _ r1
  replace f0 := ((bcell hb1).2 _ _ (by omega)).trans f0
  replace f1 := ((bcell hb1).2 _ _ (by omega)).trans f1
  have hs1 : w.heap.size + 3 ≤ w1.heap.size := by have := hb1.size; omega
  clear hb1 hW
  cases hv : blockValidF ⟨z, ps⟩
  · skip
    have HF := Lib.hid (wb_1 _ ⟨f, fi, pl, va, st⟩ hv)
    go_wp2
    refine bodyPost_ret (v := .tuple #[.agg #[.int .i64 0, .slice none 0 0], .int .i64 (-1)]) (by simp [results, Try.results24, go_sem, r0, r1]) rfl ⟨_, by rw [HF.out], ?_, ?_⟩
    · rw [HF.out]; exact out_zero _ _
    · exact (HB1.out.setCell (p := ⟨w.heap.size + 2, 0, none⟩) (by simp <;> omega) _).setCell (p := ⟨w.heap.size + 2, 1, none⟩) (by simp <;> omega) _
  · have hn4 : n = 4 := HP.out.1.symm.trans (bv_len _ hv)
    subst hn4
    go_wp2_with fail
    refine (sPageValid _ _ _ _ _ _).mono ?_
    rintro e w2 ⟨rfl, hb2⟩
    have HB2 := Lib.hid (bel_t HB1.out hb2)
    replace b0 := stays_below hb2 _ _ _ b0
    replace b1 := stays_below hb2 _ _ _ b1
    replace p0 := stays_below hb2 _ _ _ p0
    replace p1 := stays_below hb2 _ _ _ p1
    replace p2 := stays_below hb2 _ _ _ p2
    replace p3 := stays_below hb2 _ _ _ p3
    replace p4 := stays_below hb2 _ _ _ p4
    replace r0 := stays_below hb2 _ _ _ r0
    replace r1 := stays_below hb2 _ _ _ r1
    replace f0 := ((bcell hb2).2 _ _ (by omega)).trans f0
    replace f1 := ((bcell hb2).2 _ _ (by omega)).trans f1
    have hs2 : w.heap.size + 3 ≤ w2.heap.size := by have := hb2.size; omega
    clear hb2 HB1
    cases hp : pageValidF ⟨f, fi, pl, va, st⟩
    · skip
      have HF := Lib.hid (wb_2 ⟨z, ps⟩ _ hp)
      go_wp2
      refine bodyPost_ret (v := .tuple #[.agg #[.int .i64 0, .slice none 0 0], .int .i64 (-1)]) (by simp [results, Try.results24, go_sem, r0, r1]) rfl ⟨_, by rw [HF.out], ?_, ?_⟩
      · rw [HF.out]; exact out_zero _ _
      · exact (HB2.out.setCell (p := ⟨w.heap.size + 2, 0, none⟩) (by simp <;> omega) _).setCell (p := ⟨w.heap.size + 2, 1, none⟩) (by simp <;> omega) _
    · cases f
      · skip
        have HF := Lib.hid (wb_3 ⟨z, ps⟩ ⟨false, fi, pl, va, st⟩ rfl)
        go_wp2
        refine bodyPost_ret (v := .tuple #[.agg #[.int .i64 0, .slice none 0 0], .int .i64 (-1)]) (by simp [results, Try.results24, go_sem, r0, r1]) rfl ⟨_, by rw [HF.out], ?_, ?_⟩
        · rw [HF.out]; exact out_zero _ _
        · exact (HB2.out.setCell (p := ⟨w.heap.size + 2, 0, none⟩) (by simp <;> omega) _).setCell (p := ⟨w.heap.size + 2, 1, none⟩) (by simp <;> omega) _
      · have HV := Lib.hid hv
        have HPV := Lib.hid hp
        clear hv hp
        go_wp2_with fail
        refine (sCopy _ _ _ ps _ (HP.out.keep HB2.out)).mono ?_
        rintro e w3 ⟨g, c', rfl, hg, hR3, hb3⟩
        have HB3 := Lib.hid (bel_t HB2.out hb3)
        have HR3 := Lib.hid hR3
        have hg3 := hR3.2.1
        replace b0 := stays_below hb3 _ _ _ b0
        replace b1 := stays_below hb3 _ _ _ b1
        replace p0 := stays_below hb3 _ _ _ p0
        replace p1 := stays_below hb3 _ _ _ p1
        replace p2 := stays_below hb3 _ _ _ p2
        replace p3 := stays_below hb3 _ _ _ p3
        replace p4 := stays_below hb3 _ _ _ p4
        replace r0 := stays_below hb3 _ _ _ r0
        replace r1 := stays_below hb3 _ _ _ r1
        replace f0 := ((bcell hb3).2 _ _ (by omega)).trans f0
        replace f1 := ((bcell hb3).2 _ _ (by omega)).trans f1
        have hs3 : w.heap.size + 3 ≤ w3.heap.size := by have := hb3.size; omega
        have hz3 : w.heap.size < w3.heap.size := by omega
        have hz3' : w.heap.size + 1 < w3.heap.size := by omega
        have hz3'' : w.heap.size + 1 + 1 < w3.heap.size := by omega
        clear hb3 hR3 HB2
        go_wp2_with fail
        refine (sBlockNext _ _ _ _ ps _ (HP.out.keep (bel_t HB3.out (bel_1 _ _)))).mono ?_
        obtain ⟨v, HN⟩ : ∃ v, Hid (blockNextF ⟨z, ps⟩ = v) := ⟨_, rfl⟩
        rw [HN.out]
        rintro e w4 ⟨rfl, hb4⟩
        have HV4 := Lib.hid (bel_t (bel_1 _ _) hb4)
        have HB4 := Lib.hid (bel_t HB3.out HV4.out)
        have HR4 := Lib.hid (HR3.out.keep HV4.out)
        have o0 : w4.cell? ⟨w3.heap.size, 0, none⟩ = some (.int .i64 z) := stays_below hb4 _ _ _ (by simp [go_sem])
        have o1 : w4.cell? ⟨w3.heap.size, 1, none⟩ = some (.slice (some ⟨g, 0, none⟩) 4 c') := stays_below hb4 _ _ _ (by simp [go_sem])
        replace p0 := stays_below HV4.out _ _ _ p0
        replace p1 := stays_below HV4.out _ _ _ p1
        replace p2 := stays_below HV4.out _ _ _ p2
        replace p3 := stays_below HV4.out _ _ _ p3
        replace p4 := stays_below HV4.out _ _ _ p4
        replace r0 := stays_below HV4.out _ _ _ r0
        replace r1 := stays_below HV4.out _ _ _ r1
        replace f0 := ((bcell HV4.out).2 _ _ (by omega)).trans f0
        replace f1 := ((bcell HV4.out).2 _ _ (by omega)).trans f1
        clear hb4 b0 b1 HR3 HB3 HV4
        have n1 : ¬ g = w3.heap.size := by omega
        have n2 : ¬ w3.heap.size = g := by omega
        have n3 : ¬ g = w.heap.size + 1 := by omega
        have n4 : ¬ w.heap.size + 1 = g := by omega
        have n5 : ¬ g = w.heap.size + 2 := by omega
        have n6 : ¬ w.heap.size + 2 = g := by omega
        have n5' : ¬ g = w.heap.size + 1 + 1 := by omega
        have n6' : ¬ w.heap.size + 1 + 1 = g := by omega
        have n7 : ¬ w3.heap.size = w.heap.size + 2 := by omega
        have n8 : ¬ w.heap.size + 2 = w3.heap.size := by omega
        have hv4 : v < 4 := by rw [← HN.out]; exact bn_lt _ HV.out
        by_cases hv0 : 0 ≤ v
        · obtain ⟨k, rfl⟩ : ∃ k : Nat, v = (k : Int) := ⟨v.toNat, by omega⟩
          have hk4 : k < 4 := by omega
          have HF := Lib.hid (wb_4 ⟨z, ps⟩ ⟨true, fi, pl, va, st⟩ k HV.out HPV.out rfl HN.out)
          obtain ⟨e0, e1, e2, e3, e4⟩ := HR4.out.2.2.1 k hk4
          have u0 := HR4.out.2.2.2 (k * 5)
          have u1 := HR4.out.2.2.2 (k * 5 + 1)
          have u2 := HR4.out.2.2.2 (k * 5 + 2)
          have u3 := HR4.out.2.2.2 (k * 5 + 3)
          have u4 := HR4.out.2.2.2 (k * 5 + 4)
          go_wp2
          refine bodyPost_ret (v := .tuple #[.agg #[.int .i64 z, .slice (some ⟨g, 0, none⟩) 4 c'], .int .i64 (k : Int)]) (by simp [results, Try.results24, go_sem, r0, r1]) rfl ⟨_, by rw [HF.out], ?_, ?_⟩
          · rw [HF.out, s5_eq]
            exact ⟨some ⟨g, 0, none⟩, 4, c', g, rfl, by omega, by omega, Or.inr ⟨rfl, ((HR4.out.set hk4 ⟨true, fi, pl, va, st⟩).setOther (a := ⟨w.heap.size + 2, 0, none⟩) n6 _).setOther (a := ⟨w.heap.size + 2, 1, none⟩) n6 _⟩⟩
          · rw [s5_eq]
            exact ((bel_5 HB4.out (by omega) ⟨true, fi, pl, va, st⟩).setCell (p := ⟨w.heap.size + 2, 0, none⟩) (by simp <;> omega) _).setCell (p := ⟨w.heap.size + 2, 1, none⟩) (by simp <;> omega) _
        · have HF := Lib.hid (wb_5 ⟨z, ps⟩ ⟨true, fi, pl, va, st⟩ v HV.out HPV.out rfl HN.out hv0)
          go_wp2
          refine bodyPost_ret (v := .tuple #[.agg #[.int .i64 z, .slice (some ⟨g, 0, none⟩) 4 c'], .int .i64 v]) (by simp [results, Try.results24, go_sem, r0, r1]) rfl ⟨_, by rw [HF.out], ?_, ?_⟩
          · rw [HF.out]
            exact ⟨some ⟨g, 0, none⟩, 4, c', g, rfl, by omega, by omega, Or.inr ⟨rfl, (HR4.out.setOther (a := ⟨w.heap.size + 2, 0, none⟩) n6 _).setOther (a := ⟨w.heap.size + 2, 1, none⟩) n6 _⟩⟩
          · exact (HB4.out.setCell (p := ⟨w.heap.size + 2, 0, none⟩) (by simp <;> omega) _).setCell (p := ⟨w.heap.size + 2, 1, none⟩) (by simp <;> omega) _

set_option maxHeartbeats 1000000 in
theorem sEraseBlock (z : Int) (A : Option Addr) (n c : Nat) (ps : List Pg) (w : World) (h : PgsAt w A n ps) :
    Calls Try.prog 29 #[.agg #[.int .i64 z, .slice A n c]] w fun e w' => ∃ v, e = .returned (.tuple #[v, .bool (eraseBlockF ⟨z, ps⟩).2]) ∧ BlkOut w w' (eraseBlockF ⟨z, ps⟩).1 v ∧ Below w.heap.size w w' := by
  have HP := Lib.hid h
  clear h
  go_enter Try.func29, Try.ntmps29
  go_wp2_with fail
  have HB0 := Lib.hid (bel_2 w (.cells #[.int .i64 z, .slice A n c] 25) (.cells #[.int .i64 0, .slice none 0 0] 25))
  have b0 : ((w.alloc (.cells #[.int .i64 z, .slice A n c] 25)).alloc (.cells #[.int .i64 0, .slice none 0 0] 25)).cell? ⟨w.heap.size, 0, none⟩ = some (.int .i64 z) := by simp [go_sem]
  have b1 : ((w.alloc (.cells #[.int .i64 z, .slice A n c] 25)).alloc (.cells #[.int .i64 0, .slice none 0 0] 25)).cell? ⟨w.heap.size, 1, none⟩ = some (.slice A n c) := by simp [go_sem]
  have r0 : ((w.alloc (.cells #[.int .i64 z, .slice A n c] 25)).alloc (.cells #[.int .i64 0, .slice none 0 0] 25)).cell? ⟨w.heap.size + 1, 0, none⟩ = some (.int .i64 0) := by simp [go_sem]
  have f0 : ((w.alloc (.cells #[.int .i64 z, .slice A n c] 25)).alloc (.cells #[.int .i64 0, .slice none 0 0] 25)).frozen? ⟨w.heap.size + 1, 0, none⟩ = false := by simp [go_sem]
  have r1 : ((w.alloc (.cells #[.int .i64 z, .slice A n c] 25)).alloc (.cells #[.int .i64 0, .slice none 0 0] 25)).cell? ⟨w.heap.size + 1, 1, none⟩ = some (.slice none 0 0) := by simp [go_sem]
  have f1 : ((w.alloc (.cells #[.int .i64 z, .slice A n c] 25)).alloc (.cells #[.int .i64 0, .slice none 0 0] 25)).frozen? ⟨w.heap.size + 1, 1, none⟩ = false := by simp [go_sem]
  have hW : ((w.alloc (.cells #[.int .i64 z, .slice A n c] 25)).alloc (.cells #[.int .i64 0, .slice none 0 0] 25)).heap.size = w.heap.size + 2 := by simp
  generalize ((w.alloc (.cells #[.int .i64 z, .slice A n c] 25)).alloc (.cells #[.int .i64 0, .slice none 0 0] 25)) = W at *
  refine (sBlockValid _ _ _ _ ps _ (HP.out.keep HB0.out)).mono ?_
  rintro e w1 ⟨rfl, hb1⟩
  have HB1 := Lib.hid (bel_t HB0.out hb1)
  replace b0 := stays_below hb1 _ _ _ b0
  replace b1 := stays_below hb1 _ _ _ b1
  replace r0 := stays_below hb1 _ _ _ r0
  replace r1 := stays_below hb1 _ _ _ r1
  replace f0 := ((bcell hb1).2 _ _ (by omega)).trans f0
  replace f1 := ((bcell hb1).2 _ _ (by omega)).trans f1
  have hs1 : w.heap.size + 2 ≤ w1.heap.size := by have := hb1.size; omega
  clear hb1 hW
  cases hv : blockValidF ⟨z, ps⟩
  · have HF := Lib.hid (eb_1 _ hv)
    go_wp2
    refine bodyPost_ret (v := .tuple #[.agg #[.int .i64 0, .slice none 0 0], .bool false]) (by simp [results, Try.results29, go_sem, r0, r1]) rfl ⟨_, by rw [HF.out], ?_, ?_⟩
    · rw [HF.out]; exact out_zero _ _
    · exact (HB1.out.setCell (p := ⟨w.heap.size + 1, 0, none⟩) (by simp <;> omega) _).setCell (p := ⟨w.heap.size + 1, 1, none⟩) (by simp <;> omega) _
  · have hn4 : n = 4 := HP.out.1.symm.trans (bv_len _ hv)
    subst hn4
    have hw : 0 ≤ z ∧ z ≤ 100 := bv_wear _ hv
    by_cases hz : z = 100
    · have HF := Lib.hid (eb_2 z ps hv hz)
      subst hz
      clear hv
      go_wp2_with fail
      refine (sCopy _ _ _ ps _ (HP.out.keep HB1.out)).mono ?_
      rintro e w2 ⟨g, c', rfl, hg, hR2, hb2⟩
      have HB2 := Lib.hid (bel_t HB1.out hb2)
      have HR2 := Lib.hid hR2
      replace r0 := stays_below hb2 _ _ _ r0
      replace r1 := stays_below hb2 _ _ _ r1
      replace f0 := ((bcell hb2).2 _ _ (by omega)).trans f0
      replace f1 := ((bcell hb2).2 _ _ (by omega)).trans f1
      clear hb2 hR2 b0 b1
      go_wp2
      refine bodyPost_ret (v := .tuple #[.agg #[.int .i64 100, .slice (some ⟨g, 0, none⟩) 4 c'], .bool false]) (by simp [results, Try.results29, go_sem, r0, r1]) rfl ⟨_, by rw [HF.out], ?_, ?_⟩
      · rw [HF.out]
        exact ⟨some ⟨g, 0, none⟩, 4, c', g, rfl, by omega, by omega, Or.inr ⟨rfl, (HR2.out.setOther (a := ⟨w.heap.size + 1, 0, none⟩) (by simp; omega) _).setOther (a := ⟨w.heap.size + 1, 1, none⟩) (by simp; omega) _⟩⟩
      · exact (HB2.out.setCell (p := ⟨w.heap.size + 1, 0, none⟩) (by simp <;> omega) _).setCell (p := ⟨w.heap.size + 1, 1, none⟩) (by simp <;> omega) _
    · have HF := Lib.hid (eb_3 z ps hv hz)
      have hzz : (z == 100) = false := by simpa using hz
      clear hv
      go_wp2_with fail
      refine (sNewBlock _ _).mono ?_
      rintro e w2 ⟨v, rfl, ⟨A', n', c', q, rfl, hn', hq, hS⟩, hb2⟩
      have HB2 := Lib.hid (bel_t HB1.out hb2)
      have HS := Lib.hid hS
      replace r0 := stays_below hb2 _ _ _ r0
      replace r1 := stays_below hb2 _ _ _ r1
      replace f0 := ((bcell hb2).2 _ _ (by omega)).trans f0
      replace f1 := ((bcell hb2).2 _ _ (by omega)).trans f1
      clear hb2 hS b0 b1
      generalize hnw : newBlockF (z + 1) = nb at *
      go_wp2
      refine bodyPost_ret (v := .tuple #[.agg #[.int .i64 nb.wear, .slice A' n' c'], .bool true]) (by simp [results, Try.results29, go_sem, r0, r1]) rfl ⟨_, by rw [HF.out], ?_, ?_⟩
      · rw [HF.out]
        exact ⟨A', n', c', q, rfl, hn', by omega, (HS.out.setOther (a := ⟨w.heap.size + 1, 0, none⟩) (by simp; omega) _).setOther (a := ⟨w.heap.size + 1, 1, none⟩) (by simp; omega) _⟩
      · exact (HB2.out.setCell (p := ⟨w.heap.size + 1, 0, none⟩) (by simp <;> omega) _).setCell (p := ⟨w.heap.size + 1, 1, none⟩) (by simp <;> omega) _

end Go.Proofs.Yteekikaebmkioaa
