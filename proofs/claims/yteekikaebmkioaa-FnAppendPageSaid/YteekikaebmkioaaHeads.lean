/-auto What the program's and the reference's functions on heads return. -/
import Derived.Test.YteekikaebmkioaaDevices2
import Derived.LoopN
import Derived.Deep.QuietTactic
import Derived.BigQuiet
namespace Go.Proofs.Yteekikaebmkioaa
open Go.RowKit
set_option linter.unusedVariables false

/-- may a head be number x, of a device of n blocks -/
def headIn (n : Nat) (x : Int) : Bool := inB x (-1) ((n : Int) - 1)
/-- are two heads one block -/
def clash (x y : Int) : Bool := decide (0 ≤ x) && decide (x = y)
def headsValidF (ds : List Bl) (g h k : Int) : Bool :=
  deviceValidF ds && headIn ds.length g && headIn ds.length h && !clash h g && headIn ds.length k && !clash k g && !clash k h
def headOfF (ds : List Bl) (g h k t : Int) : Int :=
  if headsValidF ds g h k then (if t = 0 then g else if t = 1 then h else if t = 2 then k else -1) else -1
theorem hi_f (n : Nat) (x : Int) (h : ¬ (-1 ≤ x ∧ x < n)) : headIn n x = false := by
  simp only [headIn, inB, Bool.and_eq_false_iff, decide_eq_false_iff_not]; omega
theorem hi_t (n : Nat) (x : Int) (h : -1 ≤ x ∧ x < n) : headIn n x = true := inB_t h.1 (by omega)
theorem cl_t (x y : Int) (h : 0 ≤ x ∧ x = y) : clash x y = true := by
  obtain ⟨h1, rfl⟩ := h
  simp [clash, h1]
theorem cl_f (x y : Int) (h : ¬ (0 ≤ x ∧ x = y)) : clash x y = false := by
  simp only [clash, Bool.and_eq_false_iff, decide_eq_false_iff_not]; omega
theorem hv_dev (ds : List Bl) (g h k : Int) (hv : deviceValidF ds = false) : headsValidF ds g h k = false := by rw [headsValidF, hv]; rfl
theorem hv_g (ds : List Bl) (n : Nat) (g h k : Int) (hl : ds.length = n) (hx : ¬ (-1 ≤ g ∧ g < n)) : headsValidF ds g h k = false := by rw [headsValidF, hl, hi_f n g hx]; simp
theorem hv_h (ds : List Bl) (n : Nat) (g h k : Int) (hl : ds.length = n) (hx : ¬ (-1 ≤ h ∧ h < n)) : headsValidF ds g h k = false := by rw [headsValidF, hl, hi_f n h hx]; simp
theorem hv_k (ds : List Bl) (n : Nat) (g h k : Int) (hl : ds.length = n) (hx : ¬ (-1 ≤ k ∧ k < n)) : headsValidF ds g h k = false := by rw [headsValidF, hl, hi_f n k hx]; simp
theorem hv_10 (ds : List Bl) (n : Nat) (g h k : Int) (hl : ds.length = n) (hx : 0 ≤ h ∧ h = g) : headsValidF ds g h k = false := by rw [headsValidF, cl_t h g hx]; simp
theorem hv_20 (ds : List Bl) (n : Nat) (g h k : Int) (hl : ds.length = n) (hx : 0 ≤ k ∧ k = g) : headsValidF ds g h k = false := by rw [headsValidF, cl_t k g hx]; simp
theorem hv_21 (ds : List Bl) (n : Nat) (g h k : Int) (hl : ds.length = n) (hx : 0 ≤ k ∧ k = h) : headsValidF ds g h k = false := by rw [headsValidF, cl_t k h hx]; simp
theorem hv_all (ds : List Bl) (n : Nat) (g h k : Int) (hl : ds.length = n) (hv : deviceValidF ds = true)
    (hx : (-1 ≤ g ∧ g < n) ∧ (-1 ≤ h ∧ h < n) ∧ (-1 ≤ k ∧ k < n) ∧ ¬ (0 ≤ h ∧ h = g) ∧ ¬ (0 ≤ k ∧ k = g) ∧ ¬ (0 ≤ k ∧ k = h)) : headsValidF ds g h k = true := by
  obtain ⟨h1, h2, h3, h4, h5, h6⟩ := hx
  rw [headsValidF, hl, hv, hi_t n g h1, hi_t n h h2, hi_t n k h3, cl_f h g h4, cl_f k g h5, cl_f k h h6]; rfl
theorem hv_fine (ds : List Bl) (n : Nat) (g h k : Int) (hl : ds.length = n)
    (hx : (-1 ≤ g ∧ g < n) ∧ (-1 ≤ h ∧ h < n) ∧ (-1 ≤ k ∧ k < n) ∧ ¬ (0 ≤ h ∧ h = g) ∧ ¬ (0 ≤ k ∧ k = g) ∧ ¬ (0 ≤ k ∧ k = h)) : headsValidF ds g h k = deviceValidF ds := by
  cases hv : deviceValidF ds
  · exact hv_dev ds g h k hv
  · exact hv_all ds n g h k hl hv hx
theorem bel_dn {B : Nat} {a w : World} (h : Below B a w) (n : Nat) : Below B a (w.drewN n) := ⟨h.os, h.tape, h.output, h.size, h.block⟩
theorem inB_no {x : Int} {n : Nat} (h : inB x (-1) ((n : Int) - 1) = false) : ¬ (-1 ≤ x ∧ x < n) := by
  simp only [inB, Bool.and_eq_false_iff, decide_eq_false_iff_not] at h; omega
theorem inB_yes {x : Int} {n : Nat} (h : inB x (-1) ((n : Int) - 1) = true) : -1 ≤ x ∧ x < n := by
  simp only [inB, Bool.and_eq_true, decide_eq_true_eq] at h; omega
theorem beq_no {x y : Int} (h : (x == y) = false) : ¬ y = x := by simp at h; omega
theorem beq_yes {x y : Int} (h : (x == y) = true) : y = x := by simp at h; omega
attribute [irreducible] headIn clash headsValidF headOfF

set_option maxHeartbeats 4000000 in
theorem iHeadsValid (A : Option Addr) (n c : Nat) (ds : List Bl) (g h k : Int) (w : World) (hd : DevAt w A n ds) :
    Calls Try.prog 44 #[.slice A n c, .agg #[.int .i64 g, .int .i64 h, .int .i64 k]] w fun e w' => e = .returned (.bool (headsValidF ds g h k)) ∧ Below w.heap.size w w' := by
  have HP := Lib.hid hd
  have hm := hd.2.1
  have HL := Lib.hid hd.1
  clear hd
  have i0 : ∀ w, (Instr.index 76 (.agg #[.int .i64 g, .int .i64 h, .int .i64 k]) (.int .i64 0)).run Try.prog w = .ok (.int .i64 g) w := fun _ => by kernel_rfl
  have i1 : ∀ w, (Instr.index 76 (.agg #[.int .i64 g, .int .i64 h, .int .i64 k]) (.int .i64 1)).run Try.prog w = .ok (.int .i64 h) w := fun _ => by kernel_rfl
  have i2 : ∀ w, (Instr.index 76 (.agg #[.int .i64 g, .int .i64 h, .int .i64 k]) (.int .i64 2)).run Try.prog w = .ok (.int .i64 k) w := fun _ => by kernel_rfl
  go_enter Try.func44, Try.ntmps44
  go_wp2_with fail
  refine (iDeviceValid _ _ _ ds _ (HP.out.keep (bel_1 _ _))).mono ?_
  rintro e w1 ⟨rfl, hb1⟩
  have HB1 := Lib.hid (bel_t (bel_1 _ _) hb1)
  have b0 : w1.cell? ⟨w.heap.size, 0, none⟩ = some (.int .i64 g) := stays_below hb1 _ _ _ (by simp [go_sem])
  have b1 : w1.cell? ⟨w.heap.size, 1, none⟩ = some (.int .i64 h) := stays_below hb1 _ _ _ (by simp [go_sem])
  have b2 : w1.cell? ⟨w.heap.size, 2, none⟩ = some (.int .i64 k) := stays_below hb1 _ _ _ (by simp [go_sem])
  have hz1 : w.heap.size < w1.heap.size := block_lt_of_cell b0
  clear hb1
  cases hv : deviceValidF ds
  · have HF := Lib.hid (hv_dev ds g h k hv)
    clear hv
    go_wp2
    go_ret
    exact ⟨by rw [HF.out]; rfl, HB1.out⟩
  · have HV := Lib.hid hv
    clear hv
    go_wp2
    have HB2 := Lib.hid (bel_t HB1.out (bel_1 w1 (.cells #[.int .i64 g, .int .i64 h, .int .i64 k] 76)))
    have c0 : (w1.alloc (.cells #[.int .i64 g, .int .i64 h, .int .i64 k] 76)).cell? ⟨w1.heap.size, 0, none⟩ = some (.int .i64 g) := by simp [go_sem]
    have c1 : (w1.alloc (.cells #[.int .i64 g, .int .i64 h, .int .i64 k] 76)).cell? ⟨w1.heap.size, 1, none⟩ = some (.int .i64 h) := by simp [go_sem]
    have c2 : (w1.alloc (.cells #[.int .i64 g, .int .i64 h, .int .i64 k] 76)).cell? ⟨w1.heap.size, 2, none⟩ = some (.int .i64 k) := by simp [go_sem]
    generalize w1.alloc (.cells #[.int .i64 g, .int .i64 h, .int .i64 k] 76) = W at *
    clear b0 b1 b2 hz1 HB1
    by_cases ag : g < -1
    · skip
      have HF := Lib.hid (hv_g ds n g h k HL.out (by omega))
      refine wp_loop_rounds 4 ?_
      repeat (first | (rw [rounds_succ]; go_wp2) | (refine wp_loop_rounds 3 ?_; rw [rounds_succ]; go_wp2))
      all_goals go_ret
      all_goals exact ⟨by rw [HF.out]; rfl, HB2.out⟩
    · by_cases bg : (n : Int) ≤ g
      · skip
        have HF := Lib.hid (hv_g ds n g h k HL.out (by omega))
        refine wp_loop_rounds 4 ?_
        repeat (first | (rw [rounds_succ]; go_wp2) | (refine wp_loop_rounds 3 ?_; rw [rounds_succ]; go_wp2))
        all_goals go_ret
        all_goals exact ⟨by rw [HF.out]; rfl, HB2.out⟩
      · skip
        by_cases ah : h < -1
        · skip
          have HF := Lib.hid (hv_h ds n g h k HL.out (by omega))
          refine wp_loop_rounds 4 ?_
          repeat (first | (rw [rounds_succ]; go_wp2) | (refine wp_loop_rounds 3 ?_; rw [rounds_succ]; go_wp2))
          all_goals go_ret
          all_goals exact ⟨by rw [HF.out]; rfl, HB2.out⟩
        · by_cases bh : (n : Int) ≤ h
          · skip
            have HF := Lib.hid (hv_h ds n g h k HL.out (by omega))
            refine wp_loop_rounds 4 ?_
            repeat (first | (rw [rounds_succ]; go_wp2) | (refine wp_loop_rounds 3 ?_; rw [rounds_succ]; go_wp2))
            all_goals go_ret
            all_goals exact ⟨by rw [HF.out]; rfl, HB2.out⟩
          · skip
            by_cases s1 : h < 0
            · have s1' : ¬ 0 ≤ h := by omega
              by_cases ak : k < -1
              · skip
                have HF := Lib.hid (hv_k ds n g h k HL.out (by omega))
                refine wp_loop_rounds 4 ?_
                repeat (first | (rw [rounds_succ]; go_wp2) | (refine wp_loop_rounds 3 ?_; rw [rounds_succ]; go_wp2))
                all_goals go_ret
                all_goals exact ⟨by rw [HF.out]; rfl, HB2.out⟩
              · by_cases bk : (n : Int) ≤ k
                · skip
                  have HF := Lib.hid (hv_k ds n g h k HL.out (by omega))
                  refine wp_loop_rounds 4 ?_
                  repeat (first | (rw [rounds_succ]; go_wp2) | (refine wp_loop_rounds 3 ?_; rw [rounds_succ]; go_wp2))
                  all_goals go_ret
                  all_goals exact ⟨by rw [HF.out]; rfl, HB2.out⟩
                · skip
                  by_cases s2 : k < 0
                  · have s2' : ¬ 0 ≤ k := by omega
                    have HF := Lib.hid (hv_all ds n g h k HL.out HV.out (by omega))
                    refine wp_loop_rounds 4 ?_
                    repeat (first | (rw [rounds_succ]; go_wp2) | (refine wp_loop_rounds 3 ?_; rw [rounds_succ]; go_wp2))
                    all_goals go_ret
                    all_goals exact ⟨by rw [HF.out]; rfl, HB2.out⟩
                  · have s2' : 0 ≤ k := by omega
                    by_cases e20 : k = g
                    · subst e20
                      have HF := Lib.hid (hv_20 ds n k h k HL.out (by omega))
                      refine wp_loop_rounds 4 ?_
                      repeat (first | (rw [rounds_succ]; go_wp2) | (refine wp_loop_rounds 3 ?_; rw [rounds_succ]; go_wp2))
                      all_goals go_ret
                      all_goals exact ⟨by rw [HF.out]; rfl, HB2.out⟩
                    · have q20 : (k == g) = false := by simpa using e20
                      have q20' : (g == k) = false := by simp; omega
                      by_cases e21 : k = h
                      · subst e21
                        have HF := Lib.hid (hv_21 ds n g k k HL.out (by omega))
                        refine wp_loop_rounds 4 ?_
                        repeat (first | (rw [rounds_succ]; go_wp2) | (refine wp_loop_rounds 3 ?_; rw [rounds_succ]; go_wp2))
                        all_goals go_ret
                        all_goals exact ⟨by rw [HF.out]; rfl, HB2.out⟩
                      · have q21 : (k == h) = false := by simpa using e21
                        have q21' : (h == k) = false := by simp; omega
                        have HF := Lib.hid (hv_all ds n g h k HL.out HV.out (by omega))
                        refine wp_loop_rounds 4 ?_
                        repeat (first | (rw [rounds_succ]; go_wp2) | (refine wp_loop_rounds 3 ?_; rw [rounds_succ]; go_wp2))
                        all_goals go_ret
                        all_goals exact ⟨by rw [HF.out]; rfl, HB2.out⟩
            · have s1' : 0 ≤ h := by omega
              by_cases e10 : h = g
              · subst e10
                have HF := Lib.hid (hv_10 ds n h h k HL.out (by omega))
                refine wp_loop_rounds 4 ?_
                repeat (first | (rw [rounds_succ]; go_wp2) | (refine wp_loop_rounds 3 ?_; rw [rounds_succ]; go_wp2))
                all_goals go_ret
                all_goals exact ⟨by rw [HF.out]; rfl, HB2.out⟩
              · have q10 : (h == g) = false := by simpa using e10
                have q10' : (g == h) = false := by simp; omega
                by_cases ak : k < -1
                · skip
                  have HF := Lib.hid (hv_k ds n g h k HL.out (by omega))
                  refine wp_loop_rounds 4 ?_
                  repeat (first | (rw [rounds_succ]; go_wp2) | (refine wp_loop_rounds 3 ?_; rw [rounds_succ]; go_wp2))
                  all_goals go_ret
                  all_goals exact ⟨by rw [HF.out]; rfl, HB2.out⟩
                · by_cases bk : (n : Int) ≤ k
                  · skip
                    have HF := Lib.hid (hv_k ds n g h k HL.out (by omega))
                    refine wp_loop_rounds 4 ?_
                    repeat (first | (rw [rounds_succ]; go_wp2) | (refine wp_loop_rounds 3 ?_; rw [rounds_succ]; go_wp2))
                    all_goals go_ret
                    all_goals exact ⟨by rw [HF.out]; rfl, HB2.out⟩
                  · skip
                    by_cases s2 : k < 0
                    · have s2' : ¬ 0 ≤ k := by omega
                      have HF := Lib.hid (hv_all ds n g h k HL.out HV.out (by omega))
                      refine wp_loop_rounds 4 ?_
                      repeat (first | (rw [rounds_succ]; go_wp2) | (refine wp_loop_rounds 3 ?_; rw [rounds_succ]; go_wp2))
                      all_goals go_ret
                      all_goals exact ⟨by rw [HF.out]; rfl, HB2.out⟩
                    · have s2' : 0 ≤ k := by omega
                      by_cases e20 : k = g
                      · subst e20
                        have HF := Lib.hid (hv_20 ds n k h k HL.out (by omega))
                        refine wp_loop_rounds 4 ?_
                        repeat (first | (rw [rounds_succ]; go_wp2) | (refine wp_loop_rounds 3 ?_; rw [rounds_succ]; go_wp2))
                        all_goals go_ret
                        all_goals exact ⟨by rw [HF.out]; rfl, HB2.out⟩
                      · have q20 : (k == g) = false := by simpa using e20
                        have q20' : (g == k) = false := by simp; omega
                        by_cases e21 : k = h
                        · subst e21
                          have HF := Lib.hid (hv_21 ds n g k k HL.out (by omega))
                          refine wp_loop_rounds 4 ?_
                          repeat (first | (rw [rounds_succ]; go_wp2) | (refine wp_loop_rounds 3 ?_; rw [rounds_succ]; go_wp2))
                          all_goals go_ret
                          all_goals exact ⟨by rw [HF.out]; rfl, HB2.out⟩
                        · have q21 : (k == h) = false := by simpa using e21
                          have q21' : (h == k) = false := by simp; omega
                          have HF := Lib.hid (hv_all ds n g h k HL.out HV.out (by omega))
                          refine wp_loop_rounds 4 ?_
                          repeat (first | (rw [rounds_succ]; go_wp2) | (refine wp_loop_rounds 3 ?_; rw [rounds_succ]; go_wp2))
                          all_goals go_ret
                          all_goals exact ⟨by rw [HF.out]; rfl, HB2.out⟩

set_option maxHeartbeats 4000000 in
theorem sHeadsValid (A : Option Addr) (n c : Nat) (ds : List Bl) (g h k : Int) (w : World) (hd : DevAt w A n ds) :
    Calls Try.prog 45 #[.slice A n c, .agg #[.int .i64 g, .int .i64 h, .int .i64 k]] w fun e w' => e = .returned (.bool (headsValidF ds g h k)) ∧ Below w.heap.size w w' := by
  have HP := Lib.hid hd
  have hm := hd.2.1
  have HL := Lib.hid hd.1
  clear hd
  go_enter Try.func45, Try.ntmps45
  go_wp2
  have HB2 := Lib.hid (bel_2 w (.cells #[.int .i64 g, .int .i64 h, .int .i64 k] 54) (.cells #[.int .i64 g, .int .i64 h, .int .i64 k] 3))
  have c0 : ((w.alloc (.cells #[.int .i64 g, .int .i64 h, .int .i64 k] 54)).alloc (.cells #[.int .i64 g, .int .i64 h, .int .i64 k] 3)).cell? ⟨w.heap.size + 1, 0, none⟩ = some (.int .i64 g) := by simp [go_sem]
  have c1 : ((w.alloc (.cells #[.int .i64 g, .int .i64 h, .int .i64 k] 54)).alloc (.cells #[.int .i64 g, .int .i64 h, .int .i64 k] 3)).cell? ⟨w.heap.size + 1, 1, none⟩ = some (.int .i64 h) := by simp [go_sem]
  have c2 : ((w.alloc (.cells #[.int .i64 g, .int .i64 h, .int .i64 k] 54)).alloc (.cells #[.int .i64 g, .int .i64 h, .int .i64 k] 3)).cell? ⟨w.heap.size + 1, 2, none⟩ = some (.int .i64 k) := by simp [go_sem]
  generalize (w.alloc (.cells #[.int .i64 g, .int .i64 h, .int .i64 k] 54)).alloc (.cells #[.int .i64 g, .int .i64 h, .int .i64 k] 3) = W at *
  cases ag : inB g (-1) ((n : Int) - 1)
  · have Rg := Lib.hid (inB_no ag)
    have HF := Lib.hid (hv_g ds n g h k HL.out (by have := Rg.out; omega))
    refine wp_loop_rounds 4 ?_
    repeat (first | (rw [rounds_succ]; go_wp2_with (go_at_call 59; refine (l1In_any _ _ _ _).mono ?_; rintro e w' ⟨rfl, rfl⟩)) | (refine wp_loop_rounds 3 ?_; rw [rounds_succ]; go_wp2_with (go_at_call 59; refine (l1In_any _ _ _ _).mono ?_; rintro e w' ⟨rfl, rfl⟩)) | (go_quiet (fail); go_wp2_with (go_at_call 59; refine (l1In_any _ _ _ _).mono ?_; rintro e w' ⟨rfl, rfl⟩)))
    all_goals go_ret
    all_goals exact ⟨by rw [HF.out]; rfl, (by first | exact HB2.out | exact bel_dn HB2.out _ | exact bel_dn (bel_dn HB2.out _) _ | exact bel_dn (bel_dn (bel_dn HB2.out _) _) _)⟩
  · have Rg := Lib.hid (inB_yes ag)
    cases ah : inB h (-1) ((n : Int) - 1)
    · have Rh := Lib.hid (inB_no ah)
      have HF := Lib.hid (hv_h ds n g h k HL.out (by have := Rg.out; have := Rh.out; omega))
      refine wp_loop_rounds 4 ?_
      repeat (first | (rw [rounds_succ]; go_wp2_with (go_at_call 59; refine (l1In_any _ _ _ _).mono ?_; rintro e w' ⟨rfl, rfl⟩)) | (refine wp_loop_rounds 3 ?_; rw [rounds_succ]; go_wp2_with (go_at_call 59; refine (l1In_any _ _ _ _).mono ?_; rintro e w' ⟨rfl, rfl⟩)) | (go_quiet (fail); go_wp2_with (go_at_call 59; refine (l1In_any _ _ _ _).mono ?_; rintro e w' ⟨rfl, rfl⟩)))
      all_goals go_ret
      all_goals exact ⟨by rw [HF.out]; rfl, (by first | exact HB2.out | exact bel_dn HB2.out _ | exact bel_dn (bel_dn HB2.out _) _ | exact bel_dn (bel_dn (bel_dn HB2.out _) _) _)⟩
    · have Rh := Lib.hid (inB_yes ah)
      cases q10 : (g == h)
      · have Q10 := Lib.hid (beq_no q10)
        cases ak : inB k (-1) ((n : Int) - 1)
        · have Rk := Lib.hid (inB_no ak)
          have HF := Lib.hid (hv_k ds n g h k HL.out (by have := Rg.out; have := Rh.out; have := Q10.out; have := Rk.out; omega))
          refine wp_loop_rounds 4 ?_
          repeat (first | (rw [rounds_succ]; go_wp2_with (go_at_call 59; refine (l1In_any _ _ _ _).mono ?_; rintro e w' ⟨rfl, rfl⟩)) | (refine wp_loop_rounds 3 ?_; rw [rounds_succ]; go_wp2_with (go_at_call 59; refine (l1In_any _ _ _ _).mono ?_; rintro e w' ⟨rfl, rfl⟩)) | (go_quiet (fail); go_wp2_with (go_at_call 59; refine (l1In_any _ _ _ _).mono ?_; rintro e w' ⟨rfl, rfl⟩)))
          all_goals go_ret
          all_goals exact ⟨by rw [HF.out]; rfl, (by first | exact HB2.out | exact bel_dn HB2.out _ | exact bel_dn (bel_dn HB2.out _) _ | exact bel_dn (bel_dn (bel_dn HB2.out _) _) _)⟩
        · have Rk := Lib.hid (inB_yes ak)
          cases q20 : (g == k)
          · have Q20 := Lib.hid (beq_no q20)
            cases q21 : (h == k)
            · have Q21 := Lib.hid (beq_no q21)
              have HF := Lib.hid (hv_fine ds n g h k HL.out (by have := Rg.out; have := Rh.out; have := Q10.out; have := Rk.out; have := Q20.out; have := Q21.out; omega))
              refine wp_loop_rounds 4 ?_
              repeat (first | (rw [rounds_succ]; go_wp2_with (go_at_call 59; refine (l1In_any _ _ _ _).mono ?_; rintro e w' ⟨rfl, rfl⟩)) | (refine wp_loop_rounds 3 ?_; rw [rounds_succ]; go_wp2_with (go_at_call 59; refine (l1In_any _ _ _ _).mono ?_; rintro e w' ⟨rfl, rfl⟩)) | (go_quiet (fail); go_wp2_with (go_at_call 59; refine (l1In_any _ _ _ _).mono ?_; rintro e w' ⟨rfl, rfl⟩)))
              refine (sDeviceValid _ _ _ ds _ (HP.out.keep (by first | exact HB2.out | exact bel_dn HB2.out _ | exact bel_dn (bel_dn HB2.out _) _ | exact bel_dn (bel_dn (bel_dn HB2.out _) _) _))).mono ?_
              rintro e w1 ⟨rfl, hb1⟩
              have HB3 : Hid (Below w.heap.size w w1) := Lib.hid (bel_t (by first | exact HB2.out | exact bel_dn HB2.out _ | exact bel_dn (bel_dn HB2.out _) _ | exact bel_dn (bel_dn (bel_dn HB2.out _) _) _) hb1)
              go_wp2
              go_ret
              exact ⟨by rw [HF.out]; rfl, HB3.out⟩
            · have Q21 := Lib.hid (beq_yes q21)
              by_cases t21 : 0 ≤ k
              · skip
                have HF := Lib.hid (hv_21 ds n g h k HL.out (by have := Rg.out; have := Rh.out; have := Q10.out; have := Rk.out; have := Q20.out; have := Q21.out; omega))
                refine wp_loop_rounds 4 ?_
                repeat (first | (rw [rounds_succ]; go_wp2_with (go_at_call 59; refine (l1In_any _ _ _ _).mono ?_; rintro e w' ⟨rfl, rfl⟩)) | (refine wp_loop_rounds 3 ?_; rw [rounds_succ]; go_wp2_with (go_at_call 59; refine (l1In_any _ _ _ _).mono ?_; rintro e w' ⟨rfl, rfl⟩)) | (go_quiet (fail); go_wp2_with (go_at_call 59; refine (l1In_any _ _ _ _).mono ?_; rintro e w' ⟨rfl, rfl⟩)))
                all_goals go_ret
                all_goals exact ⟨by rw [HF.out]; rfl, (by first | exact HB2.out | exact bel_dn HB2.out _ | exact bel_dn (bel_dn HB2.out _) _ | exact bel_dn (bel_dn (bel_dn HB2.out _) _) _)⟩
              · skip
                have HF := Lib.hid (hv_fine ds n g h k HL.out (by have := Rg.out; have := Rh.out; have := Q10.out; have := Rk.out; have := Q20.out; have := Q21.out; omega))
                refine wp_loop_rounds 4 ?_
                repeat (first | (rw [rounds_succ]; go_wp2_with (go_at_call 59; refine (l1In_any _ _ _ _).mono ?_; rintro e w' ⟨rfl, rfl⟩)) | (refine wp_loop_rounds 3 ?_; rw [rounds_succ]; go_wp2_with (go_at_call 59; refine (l1In_any _ _ _ _).mono ?_; rintro e w' ⟨rfl, rfl⟩)) | (go_quiet (fail); go_wp2_with (go_at_call 59; refine (l1In_any _ _ _ _).mono ?_; rintro e w' ⟨rfl, rfl⟩)))
                refine (sDeviceValid _ _ _ ds _ (HP.out.keep (by first | exact HB2.out | exact bel_dn HB2.out _ | exact bel_dn (bel_dn HB2.out _) _ | exact bel_dn (bel_dn (bel_dn HB2.out _) _) _))).mono ?_
                rintro e w1 ⟨rfl, hb1⟩
                have HB3 : Hid (Below w.heap.size w w1) := Lib.hid (bel_t (by first | exact HB2.out | exact bel_dn HB2.out _ | exact bel_dn (bel_dn HB2.out _) _ | exact bel_dn (bel_dn (bel_dn HB2.out _) _) _) hb1)
                go_wp2
                go_ret
                exact ⟨by rw [HF.out]; rfl, HB3.out⟩
          · have Q20 := Lib.hid (beq_yes q20)
            by_cases t20 : 0 ≤ k
            · skip
              have HF := Lib.hid (hv_20 ds n g h k HL.out (by have := Rg.out; have := Rh.out; have := Q10.out; have := Rk.out; have := Q20.out; omega))
              refine wp_loop_rounds 4 ?_
              repeat (first | (rw [rounds_succ]; go_wp2_with (go_at_call 59; refine (l1In_any _ _ _ _).mono ?_; rintro e w' ⟨rfl, rfl⟩)) | (refine wp_loop_rounds 3 ?_; rw [rounds_succ]; go_wp2_with (go_at_call 59; refine (l1In_any _ _ _ _).mono ?_; rintro e w' ⟨rfl, rfl⟩)) | (go_quiet (fail); go_wp2_with (go_at_call 59; refine (l1In_any _ _ _ _).mono ?_; rintro e w' ⟨rfl, rfl⟩)))
              all_goals go_ret
              all_goals exact ⟨by rw [HF.out]; rfl, (by first | exact HB2.out | exact bel_dn HB2.out _ | exact bel_dn (bel_dn HB2.out _) _ | exact bel_dn (bel_dn (bel_dn HB2.out _) _) _)⟩
            · skip
              cases q21 : (h == k)
              · have Q21 := Lib.hid (beq_no q21)
                have HF := Lib.hid (hv_fine ds n g h k HL.out (by have := Rg.out; have := Rh.out; have := Q10.out; have := Rk.out; have := Q20.out; have := Q21.out; omega))
                refine wp_loop_rounds 4 ?_
                repeat (first | (rw [rounds_succ]; go_wp2_with (go_at_call 59; refine (l1In_any _ _ _ _).mono ?_; rintro e w' ⟨rfl, rfl⟩)) | (refine wp_loop_rounds 3 ?_; rw [rounds_succ]; go_wp2_with (go_at_call 59; refine (l1In_any _ _ _ _).mono ?_; rintro e w' ⟨rfl, rfl⟩)) | (go_quiet (fail); go_wp2_with (go_at_call 59; refine (l1In_any _ _ _ _).mono ?_; rintro e w' ⟨rfl, rfl⟩)))
                refine (sDeviceValid _ _ _ ds _ (HP.out.keep (by first | exact HB2.out | exact bel_dn HB2.out _ | exact bel_dn (bel_dn HB2.out _) _ | exact bel_dn (bel_dn (bel_dn HB2.out _) _) _))).mono ?_
                rintro e w1 ⟨rfl, hb1⟩
                have HB3 : Hid (Below w.heap.size w w1) := Lib.hid (bel_t (by first | exact HB2.out | exact bel_dn HB2.out _ | exact bel_dn (bel_dn HB2.out _) _ | exact bel_dn (bel_dn (bel_dn HB2.out _) _) _) hb1)
                go_wp2
                go_ret
                exact ⟨by rw [HF.out]; rfl, HB3.out⟩
              · have Q21 := Lib.hid (beq_yes q21)
                by_cases t21 : 0 ≤ k
                · skip
                  have HF := Lib.hid (hv_21 ds n g h k HL.out (by have := Rg.out; have := Rh.out; have := Q10.out; have := Rk.out; have := Q20.out; have := Q21.out; omega))
                  refine wp_loop_rounds 4 ?_
                  repeat (first | (rw [rounds_succ]; go_wp2_with (go_at_call 59; refine (l1In_any _ _ _ _).mono ?_; rintro e w' ⟨rfl, rfl⟩)) | (refine wp_loop_rounds 3 ?_; rw [rounds_succ]; go_wp2_with (go_at_call 59; refine (l1In_any _ _ _ _).mono ?_; rintro e w' ⟨rfl, rfl⟩)) | (go_quiet (fail); go_wp2_with (go_at_call 59; refine (l1In_any _ _ _ _).mono ?_; rintro e w' ⟨rfl, rfl⟩)))
                  all_goals go_ret
                  all_goals exact ⟨by rw [HF.out]; rfl, (by first | exact HB2.out | exact bel_dn HB2.out _ | exact bel_dn (bel_dn HB2.out _) _ | exact bel_dn (bel_dn (bel_dn HB2.out _) _) _)⟩
                · skip
                  have HF := Lib.hid (hv_fine ds n g h k HL.out (by have := Rg.out; have := Rh.out; have := Q10.out; have := Rk.out; have := Q20.out; have := Q21.out; omega))
                  refine wp_loop_rounds 4 ?_
                  repeat (first | (rw [rounds_succ]; go_wp2_with (go_at_call 59; refine (l1In_any _ _ _ _).mono ?_; rintro e w' ⟨rfl, rfl⟩)) | (refine wp_loop_rounds 3 ?_; rw [rounds_succ]; go_wp2_with (go_at_call 59; refine (l1In_any _ _ _ _).mono ?_; rintro e w' ⟨rfl, rfl⟩)) | (go_quiet (fail); go_wp2_with (go_at_call 59; refine (l1In_any _ _ _ _).mono ?_; rintro e w' ⟨rfl, rfl⟩)))
                  refine (sDeviceValid _ _ _ ds _ (HP.out.keep (by first | exact HB2.out | exact bel_dn HB2.out _ | exact bel_dn (bel_dn HB2.out _) _ | exact bel_dn (bel_dn (bel_dn HB2.out _) _) _))).mono ?_
                  rintro e w1 ⟨rfl, hb1⟩
                  have HB3 : Hid (Below w.heap.size w w1) := Lib.hid (bel_t (by first | exact HB2.out | exact bel_dn HB2.out _ | exact bel_dn (bel_dn HB2.out _) _ | exact bel_dn (bel_dn (bel_dn HB2.out _) _) _) hb1)
                  go_wp2
                  go_ret
                  exact ⟨by rw [HF.out]; rfl, HB3.out⟩
      · have Q10 := Lib.hid (beq_yes q10)
        by_cases t10 : 0 ≤ h
        · skip
          have HF := Lib.hid (hv_10 ds n g h k HL.out (by have := Rg.out; have := Rh.out; have := Q10.out; omega))
          refine wp_loop_rounds 4 ?_
          repeat (first | (rw [rounds_succ]; go_wp2_with (go_at_call 59; refine (l1In_any _ _ _ _).mono ?_; rintro e w' ⟨rfl, rfl⟩)) | (refine wp_loop_rounds 3 ?_; rw [rounds_succ]; go_wp2_with (go_at_call 59; refine (l1In_any _ _ _ _).mono ?_; rintro e w' ⟨rfl, rfl⟩)) | (go_quiet (fail); go_wp2_with (go_at_call 59; refine (l1In_any _ _ _ _).mono ?_; rintro e w' ⟨rfl, rfl⟩)))
          all_goals go_ret
          all_goals exact ⟨by rw [HF.out]; rfl, (by first | exact HB2.out | exact bel_dn HB2.out _ | exact bel_dn (bel_dn HB2.out _) _ | exact bel_dn (bel_dn (bel_dn HB2.out _) _) _)⟩
        · skip
          cases ak : inB k (-1) ((n : Int) - 1)
          · have Rk := Lib.hid (inB_no ak)
            have HF := Lib.hid (hv_k ds n g h k HL.out (by have := Rg.out; have := Rh.out; have := Q10.out; have := Rk.out; omega))
            refine wp_loop_rounds 4 ?_
            repeat (first | (rw [rounds_succ]; go_wp2_with (go_at_call 59; refine (l1In_any _ _ _ _).mono ?_; rintro e w' ⟨rfl, rfl⟩)) | (refine wp_loop_rounds 3 ?_; rw [rounds_succ]; go_wp2_with (go_at_call 59; refine (l1In_any _ _ _ _).mono ?_; rintro e w' ⟨rfl, rfl⟩)) | (go_quiet (fail); go_wp2_with (go_at_call 59; refine (l1In_any _ _ _ _).mono ?_; rintro e w' ⟨rfl, rfl⟩)))
            all_goals go_ret
            all_goals exact ⟨by rw [HF.out]; rfl, (by first | exact HB2.out | exact bel_dn HB2.out _ | exact bel_dn (bel_dn HB2.out _) _ | exact bel_dn (bel_dn (bel_dn HB2.out _) _) _)⟩
          · have Rk := Lib.hid (inB_yes ak)
            cases q20 : (g == k)
            · have Q20 := Lib.hid (beq_no q20)
              cases q21 : (h == k)
              · have Q21 := Lib.hid (beq_no q21)
                have HF := Lib.hid (hv_fine ds n g h k HL.out (by have := Rg.out; have := Rh.out; have := Q10.out; have := Rk.out; have := Q20.out; have := Q21.out; omega))
                refine wp_loop_rounds 4 ?_
                repeat (first | (rw [rounds_succ]; go_wp2_with (go_at_call 59; refine (l1In_any _ _ _ _).mono ?_; rintro e w' ⟨rfl, rfl⟩)) | (refine wp_loop_rounds 3 ?_; rw [rounds_succ]; go_wp2_with (go_at_call 59; refine (l1In_any _ _ _ _).mono ?_; rintro e w' ⟨rfl, rfl⟩)) | (go_quiet (fail); go_wp2_with (go_at_call 59; refine (l1In_any _ _ _ _).mono ?_; rintro e w' ⟨rfl, rfl⟩)))
                refine (sDeviceValid _ _ _ ds _ (HP.out.keep (by first | exact HB2.out | exact bel_dn HB2.out _ | exact bel_dn (bel_dn HB2.out _) _ | exact bel_dn (bel_dn (bel_dn HB2.out _) _) _))).mono ?_
                rintro e w1 ⟨rfl, hb1⟩
                have HB3 : Hid (Below w.heap.size w w1) := Lib.hid (bel_t (by first | exact HB2.out | exact bel_dn HB2.out _ | exact bel_dn (bel_dn HB2.out _) _ | exact bel_dn (bel_dn (bel_dn HB2.out _) _) _) hb1)
                go_wp2
                go_ret
                exact ⟨by rw [HF.out]; rfl, HB3.out⟩
              · have Q21 := Lib.hid (beq_yes q21)
                by_cases t21 : 0 ≤ k
                · skip
                  have HF := Lib.hid (hv_21 ds n g h k HL.out (by have := Rg.out; have := Rh.out; have := Q10.out; have := Rk.out; have := Q20.out; have := Q21.out; omega))
                  refine wp_loop_rounds 4 ?_
                  repeat (first | (rw [rounds_succ]; go_wp2_with (go_at_call 59; refine (l1In_any _ _ _ _).mono ?_; rintro e w' ⟨rfl, rfl⟩)) | (refine wp_loop_rounds 3 ?_; rw [rounds_succ]; go_wp2_with (go_at_call 59; refine (l1In_any _ _ _ _).mono ?_; rintro e w' ⟨rfl, rfl⟩)) | (go_quiet (fail); go_wp2_with (go_at_call 59; refine (l1In_any _ _ _ _).mono ?_; rintro e w' ⟨rfl, rfl⟩)))
                  all_goals go_ret
                  all_goals exact ⟨by rw [HF.out]; rfl, (by first | exact HB2.out | exact bel_dn HB2.out _ | exact bel_dn (bel_dn HB2.out _) _ | exact bel_dn (bel_dn (bel_dn HB2.out _) _) _)⟩
                · skip
                  have HF := Lib.hid (hv_fine ds n g h k HL.out (by have := Rg.out; have := Rh.out; have := Q10.out; have := Rk.out; have := Q20.out; have := Q21.out; omega))
                  refine wp_loop_rounds 4 ?_
                  repeat (first | (rw [rounds_succ]; go_wp2_with (go_at_call 59; refine (l1In_any _ _ _ _).mono ?_; rintro e w' ⟨rfl, rfl⟩)) | (refine wp_loop_rounds 3 ?_; rw [rounds_succ]; go_wp2_with (go_at_call 59; refine (l1In_any _ _ _ _).mono ?_; rintro e w' ⟨rfl, rfl⟩)) | (go_quiet (fail); go_wp2_with (go_at_call 59; refine (l1In_any _ _ _ _).mono ?_; rintro e w' ⟨rfl, rfl⟩)))
                  refine (sDeviceValid _ _ _ ds _ (HP.out.keep (by first | exact HB2.out | exact bel_dn HB2.out _ | exact bel_dn (bel_dn HB2.out _) _ | exact bel_dn (bel_dn (bel_dn HB2.out _) _) _))).mono ?_
                  rintro e w1 ⟨rfl, hb1⟩
                  have HB3 : Hid (Below w.heap.size w w1) := Lib.hid (bel_t (by first | exact HB2.out | exact bel_dn HB2.out _ | exact bel_dn (bel_dn HB2.out _) _ | exact bel_dn (bel_dn (bel_dn HB2.out _) _) _) hb1)
                  go_wp2
                  go_ret
                  exact ⟨by rw [HF.out]; rfl, HB3.out⟩
            · have Q20 := Lib.hid (beq_yes q20)
              by_cases t20 : 0 ≤ k
              · skip
                have HF := Lib.hid (hv_20 ds n g h k HL.out (by have := Rg.out; have := Rh.out; have := Q10.out; have := Rk.out; have := Q20.out; omega))
                refine wp_loop_rounds 4 ?_
                repeat (first | (rw [rounds_succ]; go_wp2_with (go_at_call 59; refine (l1In_any _ _ _ _).mono ?_; rintro e w' ⟨rfl, rfl⟩)) | (refine wp_loop_rounds 3 ?_; rw [rounds_succ]; go_wp2_with (go_at_call 59; refine (l1In_any _ _ _ _).mono ?_; rintro e w' ⟨rfl, rfl⟩)) | (go_quiet (fail); go_wp2_with (go_at_call 59; refine (l1In_any _ _ _ _).mono ?_; rintro e w' ⟨rfl, rfl⟩)))
                all_goals go_ret
                all_goals exact ⟨by rw [HF.out]; rfl, (by first | exact HB2.out | exact bel_dn HB2.out _ | exact bel_dn (bel_dn HB2.out _) _ | exact bel_dn (bel_dn (bel_dn HB2.out _) _) _)⟩
              · skip
                cases q21 : (h == k)
                · have Q21 := Lib.hid (beq_no q21)
                  have HF := Lib.hid (hv_fine ds n g h k HL.out (by have := Rg.out; have := Rh.out; have := Q10.out; have := Rk.out; have := Q20.out; have := Q21.out; omega))
                  refine wp_loop_rounds 4 ?_
                  repeat (first | (rw [rounds_succ]; go_wp2_with (go_at_call 59; refine (l1In_any _ _ _ _).mono ?_; rintro e w' ⟨rfl, rfl⟩)) | (refine wp_loop_rounds 3 ?_; rw [rounds_succ]; go_wp2_with (go_at_call 59; refine (l1In_any _ _ _ _).mono ?_; rintro e w' ⟨rfl, rfl⟩)) | (go_quiet (fail); go_wp2_with (go_at_call 59; refine (l1In_any _ _ _ _).mono ?_; rintro e w' ⟨rfl, rfl⟩)))
                  refine (sDeviceValid _ _ _ ds _ (HP.out.keep (by first | exact HB2.out | exact bel_dn HB2.out _ | exact bel_dn (bel_dn HB2.out _) _ | exact bel_dn (bel_dn (bel_dn HB2.out _) _) _))).mono ?_
                  rintro e w1 ⟨rfl, hb1⟩
                  have HB3 : Hid (Below w.heap.size w w1) := Lib.hid (bel_t (by first | exact HB2.out | exact bel_dn HB2.out _ | exact bel_dn (bel_dn HB2.out _) _ | exact bel_dn (bel_dn (bel_dn HB2.out _) _) _) hb1)
                  go_wp2
                  go_ret
                  exact ⟨by rw [HF.out]; rfl, HB3.out⟩
                · have Q21 := Lib.hid (beq_yes q21)
                  by_cases t21 : 0 ≤ k
                  · skip
                    have HF := Lib.hid (hv_21 ds n g h k HL.out (by have := Rg.out; have := Rh.out; have := Q10.out; have := Rk.out; have := Q20.out; have := Q21.out; omega))
                    refine wp_loop_rounds 4 ?_
                    repeat (first | (rw [rounds_succ]; go_wp2_with (go_at_call 59; refine (l1In_any _ _ _ _).mono ?_; rintro e w' ⟨rfl, rfl⟩)) | (refine wp_loop_rounds 3 ?_; rw [rounds_succ]; go_wp2_with (go_at_call 59; refine (l1In_any _ _ _ _).mono ?_; rintro e w' ⟨rfl, rfl⟩)) | (go_quiet (fail); go_wp2_with (go_at_call 59; refine (l1In_any _ _ _ _).mono ?_; rintro e w' ⟨rfl, rfl⟩)))
                    all_goals go_ret
                    all_goals exact ⟨by rw [HF.out]; rfl, (by first | exact HB2.out | exact bel_dn HB2.out _ | exact bel_dn (bel_dn HB2.out _) _ | exact bel_dn (bel_dn (bel_dn HB2.out _) _) _)⟩
                  · skip
                    have HF := Lib.hid (hv_fine ds n g h k HL.out (by have := Rg.out; have := Rh.out; have := Q10.out; have := Rk.out; have := Q20.out; have := Q21.out; omega))
                    refine wp_loop_rounds 4 ?_
                    repeat (first | (rw [rounds_succ]; go_wp2_with (go_at_call 59; refine (l1In_any _ _ _ _).mono ?_; rintro e w' ⟨rfl, rfl⟩)) | (refine wp_loop_rounds 3 ?_; rw [rounds_succ]; go_wp2_with (go_at_call 59; refine (l1In_any _ _ _ _).mono ?_; rintro e w' ⟨rfl, rfl⟩)) | (go_quiet (fail); go_wp2_with (go_at_call 59; refine (l1In_any _ _ _ _).mono ?_; rintro e w' ⟨rfl, rfl⟩)))
                    refine (sDeviceValid _ _ _ ds _ (HP.out.keep (by first | exact HB2.out | exact bel_dn HB2.out _ | exact bel_dn (bel_dn HB2.out _) _ | exact bel_dn (bel_dn (bel_dn HB2.out _) _) _))).mono ?_
                    rintro e w1 ⟨rfl, hb1⟩
                    have HB3 : Hid (Below w.heap.size w w1) := Lib.hid (bel_t (by first | exact HB2.out | exact bel_dn HB2.out _ | exact bel_dn (bel_dn HB2.out _) _ | exact bel_dn (bel_dn (bel_dn HB2.out _) _) _) hb1)
                    go_wp2
                    go_ret
                    exact ⟨by rw [HF.out]; rfl, HB3.out⟩

end Go.Proofs.Yteekikaebmkioaa
