/- The reference's AppendPage once more, its arguments in form: with the capacity of the device's slice. -/
import Derived.Test.YteekikaebmkioaaAppend
import Derived.Test.YteekikaebmkioaaCapD
import Derived.Deep.DrawnRows
namespace Go.Proofs.Yteekikaebmkioaa
open Go.RowKit
set_option linter.unusedVariables false
attribute [local go_sem ↓] Go.wp_at_zero Go.wp_at_succ

set_option maxRecDepth 100000 in
set_option maxHeartbeats 4000000 in
theorem sAppendPageC (A : Option Addr) (n c : Nat) (ds : List Bl) (g h k t : Int) (fi pl va st : Int) (w : World) (hd : DevAt w A n ds) (hv : headsValidF ds g h k = true) (ht : 0 ≤ t ∧ t ≤ 2) (hpv : pageValidF ⟨true, fi, pl, va, st⟩ = true) :
    Calls Try.prog 54 #[.slice A n c, .agg #[.int .i64 g, .int .i64 h, .int .i64 k], .int .i64 t, .agg #[.bool true, .int .i64 fi, .int .i64 pl, .int .i64 va, .int .i64 st]] w fun e w' => ∃ gd G c', e = .returned (.tuple #[.slice (some ⟨gd, 0, none⟩) n c', .agg #[.int .i64 (appendF ds g h k t ⟨true, fi, pl, va, st⟩).g, .int .i64 (appendF ds g h k t ⟨true, fi, pl, va, st⟩).h, .int .i64 (appendF ds g h k t ⟨true, fi, pl, va, st⟩).k], .int .i64 (appendF ds g h k t ⟨true, fi, pl, va, st⟩).at_]) ∧ RowC w' gd n c' ∧ DvRow w' w.heap.size gd n n G (appendF ds g h k t ⟨true, fi, pl, va, st⟩).ds ∧ Below w.heap.size w w' := by
  have HP := Lib.hid hd
  have hm := hd.2.1
  have HL := Lib.hid hd.1
  clear hd
  have HV := Lib.hid hv
  have HT := Lib.hid ht
  have HPV := Lib.hid hpv
  have ht0 := ht.1
  have ht2 := ht.2
  clear hv ht hpv
  go_enter Try.func54, Try.ntmps54
  go_wp2_with fail
  have HB0 := Lib.hid (bel_3 w (.cells #[.int .i64 g, .int .i64 h, .int .i64 k] 54) (.cells #[.bool true, .int .i64 fi, .int .i64 pl, .int .i64 va, .int .i64 st] 32) (.cells #[.int .i64 0, .int .i64 0, .int .i64 0] 54))
  have h0 : (((w.alloc (.cells #[.int .i64 g, .int .i64 h, .int .i64 k] 54)).alloc (.cells #[.bool true, .int .i64 fi, .int .i64 pl, .int .i64 va, .int .i64 st] 32)).alloc (.cells #[.int .i64 0, .int .i64 0, .int .i64 0] 54)).cell? ⟨w.heap.size, 0, none⟩ = some (.int .i64 g) := by simp [go_sem]
  have h1 : (((w.alloc (.cells #[.int .i64 g, .int .i64 h, .int .i64 k] 54)).alloc (.cells #[.bool true, .int .i64 fi, .int .i64 pl, .int .i64 va, .int .i64 st] 32)).alloc (.cells #[.int .i64 0, .int .i64 0, .int .i64 0] 54)).cell? ⟨w.heap.size, 1, none⟩ = some (.int .i64 h) := by simp [go_sem]
  have h2 : (((w.alloc (.cells #[.int .i64 g, .int .i64 h, .int .i64 k] 54)).alloc (.cells #[.bool true, .int .i64 fi, .int .i64 pl, .int .i64 va, .int .i64 st] 32)).alloc (.cells #[.int .i64 0, .int .i64 0, .int .i64 0] 54)).cell? ⟨w.heap.size, 2, none⟩ = some (.int .i64 k) := by simp [go_sem]
  have u0 : (((w.alloc (.cells #[.int .i64 g, .int .i64 h, .int .i64 k] 54)).alloc (.cells #[.bool true, .int .i64 fi, .int .i64 pl, .int .i64 va, .int .i64 st] 32)).alloc (.cells #[.int .i64 0, .int .i64 0, .int .i64 0] 54)).frozen? ⟨w.heap.size, 0, none⟩ = false := by simp [go_sem]
  have u1 : (((w.alloc (.cells #[.int .i64 g, .int .i64 h, .int .i64 k] 54)).alloc (.cells #[.bool true, .int .i64 fi, .int .i64 pl, .int .i64 va, .int .i64 st] 32)).alloc (.cells #[.int .i64 0, .int .i64 0, .int .i64 0] 54)).frozen? ⟨w.heap.size, 1, none⟩ = false := by simp [go_sem]
  have u2 : (((w.alloc (.cells #[.int .i64 g, .int .i64 h, .int .i64 k] 54)).alloc (.cells #[.bool true, .int .i64 fi, .int .i64 pl, .int .i64 va, .int .i64 st] 32)).alloc (.cells #[.int .i64 0, .int .i64 0, .int .i64 0] 54)).frozen? ⟨w.heap.size, 2, none⟩ = false := by simp [go_sem]
  have p0 : (((w.alloc (.cells #[.int .i64 g, .int .i64 h, .int .i64 k] 54)).alloc (.cells #[.bool true, .int .i64 fi, .int .i64 pl, .int .i64 va, .int .i64 st] 32)).alloc (.cells #[.int .i64 0, .int .i64 0, .int .i64 0] 54)).cell? ⟨w.heap.size + 1, 0, none⟩ = some (.bool true) := by simp [go_sem]
  have p1 : (((w.alloc (.cells #[.int .i64 g, .int .i64 h, .int .i64 k] 54)).alloc (.cells #[.bool true, .int .i64 fi, .int .i64 pl, .int .i64 va, .int .i64 st] 32)).alloc (.cells #[.int .i64 0, .int .i64 0, .int .i64 0] 54)).cell? ⟨w.heap.size + 1, 1, none⟩ = some (.int .i64 fi) := by simp [go_sem]
  have p2 : (((w.alloc (.cells #[.int .i64 g, .int .i64 h, .int .i64 k] 54)).alloc (.cells #[.bool true, .int .i64 fi, .int .i64 pl, .int .i64 va, .int .i64 st] 32)).alloc (.cells #[.int .i64 0, .int .i64 0, .int .i64 0] 54)).cell? ⟨w.heap.size + 1, 2, none⟩ = some (.int .i64 pl) := by simp [go_sem]
  have p3 : (((w.alloc (.cells #[.int .i64 g, .int .i64 h, .int .i64 k] 54)).alloc (.cells #[.bool true, .int .i64 fi, .int .i64 pl, .int .i64 va, .int .i64 st] 32)).alloc (.cells #[.int .i64 0, .int .i64 0, .int .i64 0] 54)).cell? ⟨w.heap.size + 1, 3, none⟩ = some (.int .i64 va) := by simp [go_sem]
  have p4 : (((w.alloc (.cells #[.int .i64 g, .int .i64 h, .int .i64 k] 54)).alloc (.cells #[.bool true, .int .i64 fi, .int .i64 pl, .int .i64 va, .int .i64 st] 32)).alloc (.cells #[.int .i64 0, .int .i64 0, .int .i64 0] 54)).cell? ⟨w.heap.size + 1, 4, none⟩ = some (.int .i64 st) := by simp [go_sem]
  have r0 : (((w.alloc (.cells #[.int .i64 g, .int .i64 h, .int .i64 k] 54)).alloc (.cells #[.bool true, .int .i64 fi, .int .i64 pl, .int .i64 va, .int .i64 st] 32)).alloc (.cells #[.int .i64 0, .int .i64 0, .int .i64 0] 54)).cell? ⟨w.heap.size + 2, 0, none⟩ = some (.int .i64 0) := by simp [go_sem]
  have r1 : (((w.alloc (.cells #[.int .i64 g, .int .i64 h, .int .i64 k] 54)).alloc (.cells #[.bool true, .int .i64 fi, .int .i64 pl, .int .i64 va, .int .i64 st] 32)).alloc (.cells #[.int .i64 0, .int .i64 0, .int .i64 0] 54)).cell? ⟨w.heap.size + 2, 1, none⟩ = some (.int .i64 0) := by simp [go_sem]
  have r2 : (((w.alloc (.cells #[.int .i64 g, .int .i64 h, .int .i64 k] 54)).alloc (.cells #[.bool true, .int .i64 fi, .int .i64 pl, .int .i64 va, .int .i64 st] 32)).alloc (.cells #[.int .i64 0, .int .i64 0, .int .i64 0] 54)).cell? ⟨w.heap.size + 2, 2, none⟩ = some (.int .i64 0) := by simp [go_sem]
  have f0 : (((w.alloc (.cells #[.int .i64 g, .int .i64 h, .int .i64 k] 54)).alloc (.cells #[.bool true, .int .i64 fi, .int .i64 pl, .int .i64 va, .int .i64 st] 32)).alloc (.cells #[.int .i64 0, .int .i64 0, .int .i64 0] 54)).frozen? ⟨w.heap.size + 2, 0, none⟩ = false := by simp [go_sem]
  have f1 : (((w.alloc (.cells #[.int .i64 g, .int .i64 h, .int .i64 k] 54)).alloc (.cells #[.bool true, .int .i64 fi, .int .i64 pl, .int .i64 va, .int .i64 st] 32)).alloc (.cells #[.int .i64 0, .int .i64 0, .int .i64 0] 54)).frozen? ⟨w.heap.size + 2, 1, none⟩ = false := by simp [go_sem]
  have f2 : (((w.alloc (.cells #[.int .i64 g, .int .i64 h, .int .i64 k] 54)).alloc (.cells #[.bool true, .int .i64 fi, .int .i64 pl, .int .i64 va, .int .i64 st] 32)).alloc (.cells #[.int .i64 0, .int .i64 0, .int .i64 0] 54)).frozen? ⟨w.heap.size + 2, 2, none⟩ = false := by simp [go_sem]
  have hs0 : w.heap.size + 3 ≤ (((w.alloc (.cells #[.int .i64 g, .int .i64 h, .int .i64 k] 54)).alloc (.cells #[.bool true, .int .i64 fi, .int .i64 pl, .int .i64 va, .int .i64 st] 32)).alloc (.cells #[.int .i64 0, .int .i64 0, .int .i64 0] 54)).heap.size := by simp
  generalize (((w.alloc (.cells #[.int .i64 g, .int .i64 h, .int .i64 k] 54)).alloc (.cells #[.bool true, .int .i64 fi, .int .i64 pl, .int .i64 va, .int .i64 st] 32)).alloc (.cells #[.int .i64 0, .int .i64 0, .int .i64 0] 54)) = w0 at *
  refine (sHeadsValid _ _ _ ds _ _ _ _ (HP.out.keep HB0.out)).mono ?_
  rw [HV.out]
  rintro e w1 ⟨rfl, hb1⟩
  have HB1 := Lib.hid (bel_t HB0.out hb1)
  replace h0 := stays_below hb1 _ _ _ h0
  replace h1 := stays_below hb1 _ _ _ h1
  replace h2 := stays_below hb1 _ _ _ h2
  replace p0 := stays_below hb1 _ _ _ p0
  replace p1 := stays_below hb1 _ _ _ p1
  replace p2 := stays_below hb1 _ _ _ p2
  replace p3 := stays_below hb1 _ _ _ p3
  replace p4 := stays_below hb1 _ _ _ p4
  replace r0 := stays_below hb1 _ _ _ r0
  replace r1 := stays_below hb1 _ _ _ r1
  replace r2 := stays_below hb1 _ _ _ r2
  replace f0 := ((bcell hb1).2 _ _ (by omega)).trans f0
  replace f1 := ((bcell hb1).2 _ _ (by omega)).trans f1
  replace f2 := ((bcell hb1).2 _ _ (by omega)).trans f2
  replace u0 := ((bcell hb1).2 _ _ (by omega)).trans u0
  replace u1 := ((bcell hb1).2 _ _ (by omega)).trans u1
  replace u2 := ((bcell hb1).2 _ _ (by omega)).trans u2
  have hs1 : w.heap.size + 3 ≤ w1.heap.size := by have := (hb1).size; omega
  clear hb1
  have hin : inB t 0 2 = true := inB_t ht0 ht2
  go_wp2_with fail
  refine (l1In_any _ _ _ _).mono ?_
  rw [hin]
  rintro e w' ⟨rfl, rfl⟩
  go_wp2_with fail
  refine (sPageValid _ _ _ _ _ _).mono ?_
  rw [HPV.out]
  rintro e w2 ⟨rfl, hb2⟩
  have HB2 := Lib.hid (bel_t HB1.out hb2)
  replace h0 := stays_below hb2 _ _ _ h0
  replace h1 := stays_below hb2 _ _ _ h1
  replace h2 := stays_below hb2 _ _ _ h2
  replace p0 := stays_below hb2 _ _ _ p0
  replace p1 := stays_below hb2 _ _ _ p1
  replace p2 := stays_below hb2 _ _ _ p2
  replace p3 := stays_below hb2 _ _ _ p3
  replace p4 := stays_below hb2 _ _ _ p4
  replace r0 := stays_below hb2 _ _ _ r0
  replace r1 := stays_below hb2 _ _ _ r1
  replace r2 := stays_below hb2 _ _ _ r2
  replace f0 := ((bcell hb2).2 _ _ (by omega)).trans f0
  replace f1 := ((bcell hb2).2 _ _ (by omega)).trans f1
  replace f2 := ((bcell hb2).2 _ _ (by omega)).trans f2
  replace u0 := ((bcell hb2).2 _ _ (by omega)).trans u0
  replace u1 := ((bcell hb2).2 _ _ (by omega)).trans u1
  replace u2 := ((bcell hb2).2 _ _ (by omega)).trans u2
  have hs2 : w.heap.size + 3 ≤ w2.heap.size := by have := (hb2).size; omega
  clear hb2
  have hob := ho_b ds n g h k t HL.out HV.out
  have hdv := (hv_in ds n g h k HL.out HV.out).1
  have hn12 := dv_len ds n HL.out hdv
  have HDV := Lib.hid hdv
  clear hdv
  go_wp2_with fail
  refine (sHeadOf _ _ _ ds _ _ _ _ _ (HP.out.keep HB2.out)).mono ?_
  rintro e w3 ⟨rfl, hb3⟩
  have HB3 := Lib.hid (bel_t HB2.out hb3)
  replace h0 := stays_below hb3 _ _ _ h0
  replace h1 := stays_below hb3 _ _ _ h1
  replace h2 := stays_below hb3 _ _ _ h2
  replace p0 := stays_below hb3 _ _ _ p0
  replace p1 := stays_below hb3 _ _ _ p1
  replace p2 := stays_below hb3 _ _ _ p2
  replace p3 := stays_below hb3 _ _ _ p3
  replace p4 := stays_below hb3 _ _ _ p4
  replace r0 := stays_below hb3 _ _ _ r0
  replace r1 := stays_below hb3 _ _ _ r1
  replace r2 := stays_below hb3 _ _ _ r2
  replace f0 := ((bcell hb3).2 _ _ (by omega)).trans f0
  replace f1 := ((bcell hb3).2 _ _ (by omega)).trans f1
  replace f2 := ((bcell hb3).2 _ _ (by omega)).trans f2
  replace u0 := ((bcell hb3).2 _ _ (by omega)).trans u0
  replace u1 := ((bcell hb3).2 _ _ (by omega)).trans u1
  replace u2 := ((bcell hb3).2 _ _ (by omega)).trans u2
  have hs3 : w.heap.size + 3 ≤ w3.heap.size := by have := (hb3).size; omega
  clear hb3
  obtain ⟨x, HX⟩ : ∃ x, Hid (headOfF ds g h k t = x) := ⟨_, rfl⟩
  rw [HX.out] at hob ⊢
  obtain ⟨hx1, hx2⟩ := hob
  go_upto_region 4 with fail
  go_cut [48] (fun x50 wx => ∃ c : Bool, x50 = .bool c ∧ Hid (c = true ↔ (x < 0 ∨ blockNextF (blAt ds x.toNat) < 0)) ∧ AtCut w wx g h k fi pl va st ∧ ∀ j, j < 3 → wx.frozen? ⟨w.heap.size, j, none⟩ = false)
  case first =>
    by_cases hx0 : x < 0
    · go_wp2_with fail
      go_meet
      exact ⟨_, rfl, Lib.hid (Iff.intro (fun _ => Or.inl hx0) (fun _ => rfl)), atCutN HB3.out h0 h1 h2 p0 p1 p2 p3 p4 r0 r1 r2 f0 f1 f2 hs3, fun j hj => by match j, hj with | 0, _ => exact u0 | 1, _ => exact u1 | 2, _ => exact u2⟩
    · obtain ⟨j, rfl⟩ : ∃ j : Nat, x = (j : Int) := ⟨x.toNat, by omega⟩
      have hj : j < n := by omega
      have hjI : (j : Int) < (n : Int) := by omega
      obtain ⟨b, o, rfl, hC⟩ := HP.out.2.2 (by omega)
      obtain ⟨A', m', c', c0, c1, hps⟩ := (hC j hj).keepS (stays_below HB3.out)
      have HQ := Lib.hid hps
      clear hC hps
      rcases hp : blAt ds j with ⟨z, ps⟩
      rw [hp] at c0 HQ
      simp only [] at c0 HQ
      have HE := Lib.hid hp
      clear hp
      go_wp2_with fail
      refine (sBlockNext _ _ _ _ ps _ HQ.out).mono ?_
      obtain ⟨nx, HNX⟩ : ∃ v, Hid (blockNextF ⟨z, ps⟩ = v) := ⟨_, rfl⟩
      rw [HNX.out]
      rintro e w4 ⟨rfl, hb4⟩
      have HB4 := Lib.hid (bel_t HB3.out hb4)
      replace h0 := stays_below hb4 _ _ _ h0
      replace h1 := stays_below hb4 _ _ _ h1
      replace h2 := stays_below hb4 _ _ _ h2
      replace p0 := stays_below hb4 _ _ _ p0
      replace p1 := stays_below hb4 _ _ _ p1
      replace p2 := stays_below hb4 _ _ _ p2
      replace p3 := stays_below hb4 _ _ _ p3
      replace p4 := stays_below hb4 _ _ _ p4
      replace r0 := stays_below hb4 _ _ _ r0
      replace r1 := stays_below hb4 _ _ _ r1
      replace r2 := stays_below hb4 _ _ _ r2
      replace f0 := ((bcell hb4).2 _ _ (by omega)).trans f0
      replace f1 := ((bcell hb4).2 _ _ (by omega)).trans f1
      replace f2 := ((bcell hb4).2 _ _ (by omega)).trans f2
      replace u0 := ((bcell hb4).2 _ _ (by omega)).trans u0
      replace u1 := ((bcell hb4).2 _ _ (by omega)).trans u1
      replace u2 := ((bcell hb4).2 _ _ (by omega)).trans u2
      have hs4 : w.heap.size + 3 ≤ w4.heap.size := by have := (hb4).size; omega
      clear hb4 c0 c1 HQ
      have HBX : Hid (blockNextF (blAt ds ((j : Int)).toNat) = nx) := Lib.hid (by rw [Int.toNat_natCast, HE.out]; exact HNX.out)
      go_wp2_with fail
      go_meet
      exact ⟨_, rfl, Lib.hid (Iff.intro (fun h => Or.inr (by rw [HBX.out]; simpa using h)) (fun h => by rw [HBX.out] at h; rcases h with h | h; exact absurd h (by omega); simpa using h)), atCutN HB4.out h0 h1 h2 p0 p1 p2 p3 p4 r0 r1 r2 f0 f1 f2 hs4, fun j hj => by match j, hj with | 0, _ => exact u0 | 1, _ => exact u1 | 2, _ => exact u2⟩
  case rest =>
    obtain ⟨c1, rfl, HCC, hcb, hu⟩ := hcut
    obtain ⟨w4, rfl⟩ : ∃ x, x = wc := ⟨_, rfl⟩
    clear h0 h1 h2 p0 p1 p2 p3 p4 r0 r1 r2 f0 f1 f2 u0 u1 u2
    obtain ⟨HB4, hs4, h0, h1, h2, p0, p1, p2, p3, p4, r0, r1, r2, f0, f1, f2⟩ := hcb
    replace HB4 := Lib.hid HB4
    have u0 := hu 0 (by omega)
    have u1 := hu 1 (by omega)
    have u2 := hu 2 (by omega)
    clear hu
    go_upto_if 48 with fail
    go_cut [11] (fun x11 wx => ∃ (m j : Nat) (g' h' k' : Int), x11 = .int .i64 (m : Int) ∧ Hid (appendF ds g h k t ⟨true, fi, pl, va, st⟩ = appPut ds (m : Int) g' h' k' ⟨true, fi, pl, va, st⟩) ∧ Hid (Put ds n m j ⟨true, fi, pl, va, st⟩) ∧ AtCut w wx g' h' k' fi pl va st)
    case first =>
      cases c1
      · have hc : ¬ (x < 0 ∨ blockNextF (blAt ds x.toNat) < 0) := fun hc => absurd (HCC.out.2 hc) (by simp)
        have HF := Lib.hid (ap_7 ds g h k t ⟨true, fi, pl, va, st⟩ HV.out HT.out HPV.out rfl x HX.out hc)
        obtain ⟨m, rfl⟩ : ∃ m : Nat, x = (m : Int) := ⟨x.toNat, by omega⟩
        rw [Int.toNat_natCast] at hc
        obtain ⟨j, hj⟩ : ∃ j : Nat, blockNextF (blAt ds m) = (j : Int) := ⟨(blockNextF (blAt ds m)).toNat, by omega⟩
        have HPT : Hid (Put ds n m j ⟨true, fi, pl, va, st⟩) := Lib.hid ⟨HL.out, HDV.out, by omega, HPV.out, rfl, hj⟩
        clear hc hj
        go_wp2_with fail
        go_meet
        exact ⟨m, j, _, _, _, rfl, HF, HPT, atCutN HB4.out h0 h1 h2 p0 p1 p2 p3 p4 r0 r1 r2 f0 f1 f2 hs4⟩
      · have HC : Hid (x < 0 ∨ blockNextF (blAt ds x.toNat) < 0) := Lib.hid (HCC.out.1 rfl)
        go_wp2_with fail
        refine (sFreshBlock _ _ _ ds _ _ _ _ (HP.out.keep HB4.out)).mono ?_
        obtain ⟨m, HM⟩ : ∃ m, Hid (freshBlockF ds g h k = m) := ⟨_, rfl⟩
        rw [HM.out]
        rintro e w5 ⟨rfl, hb5⟩
        have HB5 := Lib.hid (bel_t HB4.out hb5)
        replace h0 := stays_below hb5 _ _ _ h0
        replace h1 := stays_below hb5 _ _ _ h1
        replace h2 := stays_below hb5 _ _ _ h2
        replace p0 := stays_below hb5 _ _ _ p0
        replace p1 := stays_below hb5 _ _ _ p1
        replace p2 := stays_below hb5 _ _ _ p2
        replace p3 := stays_below hb5 _ _ _ p3
        replace p4 := stays_below hb5 _ _ _ p4
        replace r0 := stays_below hb5 _ _ _ r0
        replace r1 := stays_below hb5 _ _ _ r1
        replace r2 := stays_below hb5 _ _ _ r2
        replace f0 := ((bcell hb5).2 _ _ (by omega)).trans f0
        replace f1 := ((bcell hb5).2 _ _ (by omega)).trans f1
        replace f2 := ((bcell hb5).2 _ _ (by omega)).trans f2
        replace u0 := ((bcell hb5).2 _ _ (by omega)).trans u0
        replace u1 := ((bcell hb5).2 _ _ (by omega)).trans u1
        replace u2 := ((bcell hb5).2 _ _ (by omega)).trans u2
        have hs5 : w.heap.size + 3 ≤ w5.heap.size := by have := (hb5).size; omega
        clear hb5
        by_cases hm0 : m < 0
        · have HF := Lib.hid (ap_5 ds g h k t ⟨true, fi, pl, va, st⟩ HV.out HT.out HPV.out rfl x HX.out HC.out m HM.out hm0)
          go_wp2_with fail
          refine reg_beginB (B := w.heap.size + 2) (by kernel_rfl) (fun hHeld => ?_)
          refine reg_take 0 54 (v := ?_) rfl rfl (by kernel_rfl) (by kernel_rfl) (by kernel_rfl) (fun _ _ _ h => h) (Or.inl ⟨by rfl, ?_⟩) hHeld ?_
          rotate_left 1
          · intro wS hSw; go_simp <;> with_reducible rfl
          simp only [put_lit, List.set_cons_zero, List.set_cons_succ]
          refine reg_take 2 56 (v := ?_) rfl rfl (by kernel_rfl) (by kernel_rfl) (by kernel_rfl) (fun _ _ _ h => h) (Or.inl ⟨by rfl, ?_⟩) hHeld ?_
          rotate_left 1
          · intro wS hSw; have hqS := bcellB hSw; go_simp <;> with_reducible rfl
          simp only [put_lit, List.set_cons_zero, List.set_cons_succ]
          refine wpAnyH_ready (rs := [1]) (by kernel_rfl) (by simp) ?_
          refine AllReadyH.cons rfl (fun K hK => ?_) AllReadyH.nil
          go_simp
          refine (sCopyDevC _ _ _ ds _ (HP.out.keep (HB5.out.trans (hHeld.mono (by omega)))) HDV.out).mono ?_
          rintro e wc1 ⟨g5, G5, c5, rfl, hC5, hD5, hbc1⟩
          have HD5 := Lib.hid hD5
          have HC5 := Lib.hid hC5
          clear hD5 hC5
          have HBN := Lib.hid (bel_t HB5.out (below_drew hbc1))
          replace r0 := stays_below (below_drew hbc1) _ _ _ r0
          replace r1 := stays_below (below_drew hbc1) _ _ _ r1
          replace r2 := stays_below (below_drew hbc1) _ _ _ r2
          replace f0 := ((bcell (below_drew hbc1)).2 _ _ (by omega)).trans f0
          replace f1 := ((bcell (below_drew hbc1)).2 _ _ (by omega)).trans f1
          replace f2 := ((bcell (below_drew hbc1)).2 _ _ (by omega)).trans f2
          go_wp2_with fail
          refine hK.out _ _ ?_ (fun hHeld => ?_)
          · exact reg_call hHeld hbc1 (by omega)
          clear hK K
          (try simp only [put_lit, List.set_cons_zero, List.set_cons_succ])
          refine reg_take 3 8 (v := ?_) rfl rfl (by kernel_rfl) (by kernel_rfl) (by kernel_rfl) (fun _ _ _ h => h) (Or.inl ⟨by rfl, ?_⟩) hHeld ?_
          rotate_left 1
          · intro wS hSw; go_simp <;> with_reducible rfl
          simp only [put_lit, List.set_cons_zero, List.set_cons_succ]
          refine wpAnyH_ready (rs := [4]) (by kernel_rfl) (by simp) ?_
          refine AllReadyH.cons rfl (fun K hK => ?_) AllReadyH.nil
          go_simp
          refine hK.out _ _ ?_ (fun hHeld => ?_)
          · exact bel_t3 hHeld (Nat.le_refl _) g h k
          clear hK K
          (try simp only [put_lit, List.set_cons_zero, List.set_cons_succ])
          refine reg_take 5 10 (v := ?_) rfl rfl (by kernel_rfl) (by kernel_rfl) (by kernel_rfl) (fun _ _ _ h => h) (Or.inl ⟨by rfl, ?_⟩) hHeld ?_
          rotate_left 1
          · intro wS hSw; go_simp <;> with_reducible rfl
          simp only [put_lit, List.set_cons_zero, List.set_cons_succ]
          refine wpAnyH_done (by kernel_rfl) ?_ _
          go_wp2
          refine bodyPost_ret (v := .tuple #[.slice (some ⟨g5, 0, none⟩) n c5, .agg #[.int .i64 g, .int .i64 h, .int .i64 k], .int .i64 (-1)]) (by simp [results, Try.results54, go_sem, r0, r1, r2]) rfl ⟨g5, G5, c5, by rw [HF.out], ?_, ?_, ?_⟩
          · exact ((HC5.out.setCell _ _ _).setCell _ _ _).setCell _ _ _
          · rw [HF.out]; exact (((HD5.out.setLow (a := ⟨w.heap.size + 2, 0, none⟩) (by simp only [World.size_drew]; omega) _).setLow (a := ⟨w.heap.size + 2, 1, none⟩) (by simp only [World.size_drew]; omega) _).setLow (a := ⟨w.heap.size + 2, 2, none⟩) (by simp only [World.size_drew]; omega) _).lower (by simp only [World.size_drew]; omega)
          · first | exact bel_t3 (b := w.heap.size + 2) HBN.out (by omega) g h k | exact Below.drew (bel_t3 (b := w.heap.size + 2) HBN.out (by omega) g h k)
        · obtain ⟨m', hm', hmn, hfr⟩ := fb_in ds n g h k HL.out (by rw [HM.out]; omega)
          have hbn := (fa_in ds g h k m' hfr).1
          obtain rfl : m = (m' : Int) := HM.out.symm.trans hm'
          have HF := Lib.hid (ap_6 ds g h k t ⟨true, fi, pl, va, st⟩ HV.out HT.out HPV.out rfl x HX.out HC.out (m' : Int) HM.out hm0)
          have HPT : Hid (Put ds n m' 0 ⟨true, fi, pl, va, st⟩) := Lib.hid ⟨HL.out, HDV.out, hmn, HPV.out, rfl, hbn⟩
          clear hm' hfr hbn
          go_wp2_with fail
          refine (l6Set_any _ _ _ _ _ _).mono ?_
          rintro e w6 ⟨rfl, hb6⟩
          have HB6 := Lib.hid (bel_t HB5.out hb6)
          replace h0 := stays_below hb6 _ _ _ h0
          replace h1 := stays_below hb6 _ _ _ h1
          replace h2 := stays_below hb6 _ _ _ h2
          replace p0 := stays_below hb6 _ _ _ p0
          replace p1 := stays_below hb6 _ _ _ p1
          replace p2 := stays_below hb6 _ _ _ p2
          replace p3 := stays_below hb6 _ _ _ p3
          replace p4 := stays_below hb6 _ _ _ p4
          replace r0 := stays_below hb6 _ _ _ r0
          replace r1 := stays_below hb6 _ _ _ r1
          replace r2 := stays_below hb6 _ _ _ r2
          replace f0 := ((bcell hb6).2 _ _ (by omega)).trans f0
          replace f1 := ((bcell hb6).2 _ _ (by omega)).trans f1
          replace f2 := ((bcell hb6).2 _ _ (by omega)).trans f2
          replace u0 := ((bcell hb6).2 _ _ (by omega)).trans u0
          replace u1 := ((bcell hb6).2 _ _ (by omega)).trans u1
          replace u2 := ((bcell hb6).2 _ _ (by omega)).trans u2
          have hs6 : w.heap.size + 3 ≤ w6.heap.size := by have := (hb6).size; omega
          clear hb6
          go_wp2_with fail
          go_meet
          exact ⟨m', 0, _, _, _, rfl, HF, HPT, atCut HB6.out h0 h1 h2 p0 p1 p2 p3 p4 r0 r1 r2 f0 f1 f2 hs6 _ _ _⟩
    case rest =>
      obtain ⟨m, j, g', h', k', rfl, HF, HPT, hcb⟩ := hcut
      obtain ⟨w5, rfl⟩ : ∃ x, x = wc := ⟨_, rfl⟩
      obtain ⟨HB5, hs5, a0, a1, a2, b0, b1, b2, b3, b4, d0, d1, d2, e0, e1, e2⟩ := hcb
      replace HB5 := Lib.hid HB5
      clear h0 h1 h2 p0 p1 p2 p3 p4 r0 r1 r2 f0 f1 f2 u0 u1 u2 HX HV HT HPV
      go_wp2_with fail
      refine (sProgramC _ _ _ ds _ j _ _ _ _ _ (HP.out.keep HB5.out) HPT.out).mono ?_
      obtain ⟨rr, HRR⟩ : ∃ r, Hid (programF ds (m : Int) ⟨true, fi, pl, va, st⟩ = r) := ⟨_, rfl⟩
      rw [HRR.out]
      rintro e w6 ⟨g6, G6, c6, rfl, hC6, hD6, hb6⟩
      have HAP : Hid (appendF ds g h k t ⟨true, fi, pl, va, st⟩ = ⟨rr.1, g', h', k', rr.2⟩) := Lib.hid (by rw [HF.out, appPut, HRR.out])
      have HD6 := Lib.hid hD6
      have HC6 := Lib.hid hC6
      have HB6 := Lib.hid (bel_t HB5.out hb6)
      have hs6 : w.heap.size + 3 ≤ w6.heap.size := by have := hb6.size; omega
      replace a0 := stays_below hb6 _ _ _ a0
      replace a1 := stays_below hb6 _ _ _ a1
      replace a2 := stays_below hb6 _ _ _ a2
      replace d0 := stays_below hb6 _ _ _ d0
      replace d1 := stays_below hb6 _ _ _ d1
      replace d2 := stays_below hb6 _ _ _ d2
      replace e0 := ((bcell hb6).2 _ _ (by omega)).trans e0
      replace e1 := ((bcell hb6).2 _ _ (by omega)).trans e1
      replace e2 := ((bcell hb6).2 _ _ (by omega)).trans e2
      clear hb6 hD6 hC6 b0 b1 b2 b3 b4 HF HRR
      obtain ⟨rd, ra⟩ := rr
      simp only [] at *
      go_wp2_with fail
      refine reg_beginB (B := w.heap.size + 2) (by kernel_rfl) (fun hHeld => ?_)
      refine reg_take 0 68 (v := ?_) rfl rfl (by kernel_rfl) (by kernel_rfl) (by kernel_rfl) (fun _ _ _ h => h) (Or.inl ⟨by rfl, ?_⟩) hHeld ?_
      rotate_left 1
      · intro wS hSw; go_simp <;> with_reducible rfl
      simp only [put_lit, List.set_cons_zero, List.set_cons_succ]
      refine reg_take 1 69 (v := ?_) rfl rfl (by kernel_rfl) (by kernel_rfl) (by kernel_rfl) (fun _ _ _ h => h) (Or.inl ⟨by rfl, ?_⟩) hHeld ?_
      rotate_left 1
      · intro wS hSw; have hqS := bcellB hSw; go_simp <;> with_reducible rfl
      simp only [put_lit, List.set_cons_zero, List.set_cons_succ]
      refine reg_take 2 70 (v := ?_) rfl rfl (by kernel_rfl) (by kernel_rfl) (by kernel_rfl) (fun _ _ _ h => h) (Or.inl ⟨by rfl, ?_⟩) hHeld ?_
      rotate_left 1
      · intro wS hSw; go_simp <;> with_reducible rfl
      simp only [put_lit, List.set_cons_zero, List.set_cons_succ]
      refine reg_take 3 8 (v := ?_) rfl rfl (by kernel_rfl) (by kernel_rfl) (by kernel_rfl) (fun _ _ _ h => h) (Or.inl ⟨by rfl, ?_⟩) hHeld ?_
      rotate_left 1
      · intro wS hSw; go_simp <;> with_reducible rfl
      simp only [put_lit, List.set_cons_zero, List.set_cons_succ]
      refine wpAnyH_ready (rs := [4]) (by kernel_rfl) (by simp) ?_
      refine AllReadyH.cons rfl (fun K hK => ?_) AllReadyH.nil
      go_simp
      refine hK.out _ _ ?_ (fun hHeld => ?_)
      · exact bel_t3 hHeld (Nat.le_refl _) g' h' k'
      clear hK K
      (try simp only [put_lit, List.set_cons_zero, List.set_cons_succ])
      refine reg_take 5 10 (v := ?_) rfl rfl (by kernel_rfl) (by kernel_rfl) (by kernel_rfl) (fun _ _ _ h => h) (Or.inl ⟨by rfl, ?_⟩) hHeld ?_
      rotate_left 1
      · intro wS hSw; go_simp <;> with_reducible rfl
      simp only [put_lit, List.set_cons_zero, List.set_cons_succ]
      refine wpAnyH_done (by kernel_rfl) ?_ _
      go_wp2
      refine bodyPost_ret (v := .tuple #[.slice (some ⟨g6, 0, none⟩) n c6, .agg #[.int .i64 g', .int .i64 h', .int .i64 k'], .int .i64 ra]) (by simp [results, Try.results54, go_sem, d0, d1, d2]) rfl ⟨g6, G6, c6, by rw [HAP.out], ?_, ?_, ?_⟩
      · exact ((HC6.out.setCell _ _ _).setCell _ _ _).setCell _ _ _
      · rw [HAP.out]; exact (((HD6.out.setLow (a := ⟨w.heap.size + 2, 0, none⟩) (by simp only []; omega) _).setLow (a := ⟨w.heap.size + 2, 1, none⟩) (by simp only []; omega) _).setLow (a := ⟨w.heap.size + 2, 2, none⟩) (by simp only []; omega) _).lower (by omega)
      · exact Below.drew (bel_t3 (b := w.heap.size + 2) HB6.out (by omega) g' h' k')

end Go.Proofs.Yteekikaebmkioaa
