/-auto What the program's and the reference's EraseAt return. -/
import Derived.Test.YtbinphenccnhoaaDevCopy
namespace Go.Proofs.Ytbinphenccnhoaa
open Go.RowKit
set_option linter.unusedVariables false

theorem ea_1 (ds : List Bl) (x : Int) (h : deviceValidF ds = false) : eraseAtF ds x = ([], false) := by rw [eraseAtF, h]; rfl
theorem ea_2 (ds : List Bl) (n : Nat) (x : Int) (hl : ds.length = n) (h : ¬ (0 ≤ x ∧ x < n)) : eraseAtF ds x = ([], false) := by
  rw [eraseAtF, hl, if_neg]
  simp only [Bool.and_eq_true, inB, decide_eq_true_eq]
  omega
theorem ea_3 (ds : List Bl) (n k : Nat) (hl : ds.length = n) (hv : deviceValidF ds = true) (hk : k < n) : eraseAtF ds (k : Int) = (ds.set k (eraseBlockF (blAt ds k)).1, (eraseBlockF (blAt ds k)).2) := by
  rw [eraseAtF, hv, hl, inB_t (by omega) (by omega)]; simp
theorem eb_four (b : Bl) (hv : blockValidF b = true) : (eraseBlockF b).1.pages.length = 4 := by
  obtain ⟨z, ps⟩ := b
  by_cases hz : z = 100
  · rw [eb_2 z ps hv hz]; exact bv_len _ hv
  · have hw : 0 ≤ z ∧ z ≤ 100 := bv_wear _ hv
    rw [eb_3 z ps hv hz, nb_1 (z + 1) (by omega)]; rfl
/-- what a call hands back as a device of its own -/
def DevOut (w w' : World) (ds : List Bl) (v : Value) : Prop := ∃ A n c, v = .slice A n c ∧ ((n = 0 ∧ ds = []) ∨ ∃ g G, A = some ⟨g, 0, none⟩ ∧ n ≤ 1048576 ∧ DvRow w' w.heap.size g n n G ds)

set_option maxHeartbeats 1000000 in
theorem iEraseAt (A : Option Addr) (n c : Nat) (ds : List Bl) (x : Int) (w : World) (h : DevAt w A n ds) :
    Calls Try.prog 38 #[.slice A n c, .int .i64 x] w fun e w' => ∃ v, e = .returned (.tuple #[v, .bool (eraseAtF ds x).2]) ∧ DevOut w w' (eraseAtF ds x).1 v ∧ Below w.heap.size w w' := by
  have HP := Lib.hid h
  have hm := h.2.1
  have HL := Lib.hid h.1
  clear h
  go_enter Try.func38, Try.ntmps38
  go_wp2_with fail
  refine (iDeviceValid _ _ _ ds _ HP.out).mono ?_
  rintro e w1 ⟨rfl, hb1⟩
  have HB1 := Lib.hid hb1
  clear hb1
  cases hv : deviceValidF ds
  · have HF := Lib.hid (ea_1 ds x hv)
    clear hv
    go_wp2
    go_ret2
    exact ⟨.slice none 0 0, by rw [HF.out]; rfl, by rw [HF.out]; exact ⟨none, 0, 0, rfl, Or.inl ⟨rfl, rfl⟩⟩, HB1.out⟩
  · have HV := Lib.hid hv
    have hn12 := (dv_len ds n HL.out hv).2
    clear hv
    by_cases hx : 0 ≤ x ∧ x < n
    · obtain ⟨k, rfl⟩ : ∃ k : Nat, x = (k : Int) := ⟨x.toNat, by omega⟩
      have hk : k < n := by omega
      have hin : inB (k : Int) 0 ((n : Int) - 1) = true := inB_t (by omega) (by omega)
      have HF := Lib.hid (ea_3 ds n k HL.out HV.out hk)
      clear hx
      go_wp2_with fail
      refine (iCloneDev _ _ _ ds _ (HP.out.keep HB1.out) HV.out).mono ?_
      rintro e w2 ⟨g, G, c2, rfl, hD2, hb2⟩
      have HB2 := Lib.hid (bel_t HB1.out hb2)
      have HD2 := Lib.hid hD2
      clear hb2 hD2
      obtain ⟨b, o, rfl, hC⟩ := HP.out.2.2 (by omega)
      obtain ⟨A', m, c', c0, c1, hps⟩ := (hC k hk).keepS (stays_below HB2.out)
      obtain rfl : m = 4 := hps.1.symm.trans (bv_len _ (dv_at ds n k HL.out HV.out hk))
      have HM := Lib.hid hps
      clear hC hps
      rcases hp : blAt ds k with ⟨z, ps⟩
      have hvb := dv_at ds n k HL.out HV.out hk
      rw [hp] at c0 HM HF hvb
      simp only [] at c0 HM HF
      clear hp
      obtain ⟨⟨eb, ok⟩, HEB⟩ : ∃ r, Hid (eraseBlockF ⟨z, ps⟩ = r) := ⟨_, rfl⟩
      rw [HEB.out] at HF
      simp only [] at HF
      have hel : eb.pages.length = 4 := by have := eb_four ⟨z, ps⟩ hvb; rw [HEB.out] at this; exact this
      clear hvb
      go_wp2_with fail
      refine (iEraseBlock _ _ _ _ ps _ HM.out).mono ?_
      rw [HEB.out]
      simp only []
      rintro e w3 ⟨v3, rfl, ⟨A3, n3, c3, q3, rfl, hn3, hq3, hS3⟩, hb3⟩
      obtain rfl : n3 = 4 := (hS3.at hn3).1.symm.trans hel
      have hq3' : q3 < w3.heap.size := by rcases hS3 with h0 | h0; omega; exact h0.2.2.1
      have HB3 := Lib.hid (bel_t HB2.out hb3)
      have HD3 := Lib.hid (HD2.out.keep (bel_t hb3 (bel_1 w3 (.cells #[.int .i64 eb.wear, .slice A3 4 c3] 29))))
      have S3 := Lib.hid (hS3.keep (bel_1 w3 (.cells #[.int .i64 eb.wear, .slice A3 4 c3] 29)))
      have hgz := HD2.out.2.2.1
      have HGZ : Hid (∀ j, j < n → G j < w2.heap.size) := Lib.hid (fun j hj => (HD2.out.2.2.2.2.2 j hj).2.1)
      have hw12 : w1.heap.size ≤ w2.heap.size := by have := HD2.out.2.1; omega
      have hw01 : w.heap.size ≤ w1.heap.size := HB1.out.size
      have HB4 := Lib.hid (bel_t HB3.out (bel_1 w3 (.cells #[.int .i64 eb.wear, .slice A3 4 c3] 29)))
      have hz4 : (w3.alloc (.cells #[.int .i64 eb.wear, .slice A3 4 c3] 29)).heap.size = w3.heap.size + 1 := by simp
      have y0 : (w3.alloc (.cells #[.int .i64 eb.wear, .slice A3 4 c3] 29)).cell? ⟨w3.heap.size, 0, none⟩ = some (.int .i64 eb.wear) := by simp [go_sem]
      have y1 : (w3.alloc (.cells #[.int .i64 eb.wear, .slice A3 4 c3] 29)).cell? ⟨w3.heap.size, 1, none⟩ = some (.slice A3 4 c3) := by simp [go_sem]
      clear hb3 hS3 hel HB3
      obtain ⟨v0, v1, e0, e1⟩ := HD3.out.2.2.2.2.1 k hk
      have hf0 := HD3.out.2.2.2.1 (k * 2)
      have hf1 := HD3.out.2.2.2.1 (k * 2 + 1)
      go_wp2
      go_ret2
      rw [HF.out]
      simp only []
      refine ⟨_, rfl, ?_, ?_⟩
      · rw [s2_eq]
        exact ⟨some ⟨g, 0, none⟩, n, c2, rfl, Or.inr ⟨g, _, rfl, by omega, (HD3.out.set (k' := n) (p := k) (q := q3) (m := 4) (c := c3) (A := A3) hk (fun i hi => Or.inl hi) eb (by omega) S3.out (by omega) (by omega) (by omega) (fun j hj _ => by have := HGZ.out j hj; omega)).lower hw01⟩⟩
      · rw [s2_eq]
        exact bel_2s HB4.out (by have := HD3.out.2.1; omega) _ _ _ _
    · have HF := Lib.hid (ea_2 ds n x HL.out hx)
      have hin : inB x 0 ((n : Int) - 1) = false := by simp only [inB, Bool.and_eq_false_iff, decide_eq_false_iff_not]; omega
      by_cases h0 : x < 0
      all_goals
        try have h00 : (n : Int) ≤ x := by omega
        clear hx
        go_wp2
        go_ret2
        exact ⟨.slice none 0 0, by rw [HF.out]; rfl, by rw [HF.out]; exact ⟨none, 0, 0, rfl, Or.inl ⟨rfl, rfl⟩⟩, HB1.out⟩

set_option maxHeartbeats 1000000 in
theorem sEraseAt (A : Option Addr) (n c : Nat) (ds : List Bl) (x : Int) (w : World) (h : DevAt w A n ds) :
    Calls Try.prog 37 #[.slice A n c, .int .i64 x] w fun e w' => ∃ v, e = .returned (.tuple #[v, .bool (eraseAtF ds x).2]) ∧ DevOut w w' (eraseAtF ds x).1 v ∧ Below w.heap.size w w' := by
  have HP := Lib.hid h
  have hm := h.2.1
  have HL := Lib.hid h.1
  clear h
  go_enter Try.func37, Try.ntmps37
  go_wp2_with fail
  refine (sDeviceValid _ _ _ ds _ HP.out).mono ?_
  rintro e w1 ⟨rfl, hb1⟩
  have HB1 := Lib.hid hb1
  clear hb1
  cases hv : deviceValidF ds
  · have HF := Lib.hid (ea_1 ds x hv)
    clear hv
    go_wp2
    go_ret2
    exact ⟨.slice (some ⟨w1.heap.size, 0, none⟩) 0 0, by rw [HF.out]; rfl, by rw [HF.out]; exact ⟨_, 0, 0, rfl, Or.inl ⟨rfl, rfl⟩⟩, bel_t HB1.out (bel_1 _ _)⟩
  · have HV := Lib.hid hv
    have hn12 := (dv_len ds n HL.out hv).2
    clear hv
    by_cases hx : 0 ≤ x ∧ x < n
    · obtain ⟨k, rfl⟩ : ∃ k : Nat, x = (k : Int) := ⟨x.toNat, by omega⟩
      have hk : k < n := by omega
      have hin : inB (k : Int) 0 ((n : Int) - 1) = true := inB_t (by omega) (by omega)
      have HF := Lib.hid (ea_3 ds n k HL.out HV.out hk)
      clear hx
      go_wp2_with fail
      refine (l1In_any _ _ _ _).mono ?_
      rw [hin]
      rintro e w' ⟨rfl, rfl⟩
      go_wp2_with fail
      refine (sCopyDev _ _ _ ds _ (HP.out.keep HB1.out) HV.out).mono ?_
      rintro e w2 ⟨g, G, c2, rfl, hD2, hb2⟩
      have HB2 := Lib.hid (bel_t HB1.out hb2)
      have HD2 := Lib.hid hD2
      clear hb2 hD2
      obtain ⟨b, o, rfl, hC⟩ := HP.out.2.2 (by omega)
      obtain ⟨A', m, c', c0, c1, hps⟩ := (hC k hk).keepS (stays_below HB2.out)
      obtain rfl : m = 4 := hps.1.symm.trans (bv_len _ (dv_at ds n k HL.out HV.out hk))
      have HM := Lib.hid hps
      clear hC hps
      rcases hp : blAt ds k with ⟨z, ps⟩
      have hvb := dv_at ds n k HL.out HV.out hk
      rw [hp] at c0 HM HF hvb
      simp only [] at c0 HM HF
      clear hp
      obtain ⟨⟨eb, ok⟩, HEB⟩ : ∃ r, Hid (eraseBlockF ⟨z, ps⟩ = r) := ⟨_, rfl⟩
      rw [HEB.out] at HF
      simp only [] at HF
      have hel : eb.pages.length = 4 := by have := eb_four ⟨z, ps⟩ hvb; rw [HEB.out] at this; exact this
      clear hvb
      go_wp2_with fail
      refine (sEraseBlock _ _ _ _ ps _ HM.out).mono ?_
      rw [HEB.out]
      simp only []
      rintro e w3 ⟨v3, rfl, ⟨A3, n3, c3, q3, rfl, hn3, hq3, hS3⟩, hb3⟩
      obtain rfl : n3 = 4 := (hS3.at hn3).1.symm.trans hel
      have hq3' : q3 < w3.heap.size := by rcases hS3 with h0 | h0; omega; exact h0.2.2.1
      have HB3 := Lib.hid (bel_t HB2.out hb3)
      have HD3 := Lib.hid (HD2.out.keep (bel_t hb3 (bel_1 w3 (.cells #[.int .i64 eb.wear, .slice A3 4 c3] 29))))
      have S3 := Lib.hid (hS3.keep (bel_1 w3 (.cells #[.int .i64 eb.wear, .slice A3 4 c3] 29)))
      have hgz := HD2.out.2.2.1
      have HGZ : Hid (∀ j, j < n → G j < w2.heap.size) := Lib.hid (fun j hj => (HD2.out.2.2.2.2.2 j hj).2.1)
      have hw12 : w1.heap.size ≤ w2.heap.size := by have := HD2.out.2.1; omega
      have hw01 : w.heap.size ≤ w1.heap.size := HB1.out.size
      have HB4 := Lib.hid (bel_t HB3.out (bel_1 w3 (.cells #[.int .i64 eb.wear, .slice A3 4 c3] 29)))
      have hz4 : (w3.alloc (.cells #[.int .i64 eb.wear, .slice A3 4 c3] 29)).heap.size = w3.heap.size + 1 := by simp
      have y0 : (w3.alloc (.cells #[.int .i64 eb.wear, .slice A3 4 c3] 29)).cell? ⟨w3.heap.size, 0, none⟩ = some (.int .i64 eb.wear) := by simp [go_sem]
      have y1 : (w3.alloc (.cells #[.int .i64 eb.wear, .slice A3 4 c3] 29)).cell? ⟨w3.heap.size, 1, none⟩ = some (.slice A3 4 c3) := by simp [go_sem]
      clear hb3 hS3 hel HB3
      obtain ⟨v0, v1, e0, e1⟩ := HD3.out.2.2.2.2.1 k hk
      have hf0 := HD3.out.2.2.2.1 (k * 2)
      have hf1 := HD3.out.2.2.2.1 (k * 2 + 1)
      go_wp2
      go_ret2
      rw [HF.out]
      simp only []
      refine ⟨_, rfl, ?_, ?_⟩
      · rw [s2_eq]
        exact ⟨some ⟨g, 0, none⟩, n, c2, rfl, Or.inr ⟨g, _, rfl, by omega, (HD3.out.set (k' := n) (p := k) (q := q3) (m := 4) (c := c3) (A := A3) hk (fun i hi => Or.inl hi) eb (by omega) S3.out (by omega) (by omega) (by omega) (fun j hj _ => by have := HGZ.out j hj; omega)).lower hw01⟩⟩
      · rw [s2_eq]
        exact bel_2s HB4.out (by have := HD3.out.2.1; omega) _ _ _ _
    · have HF := Lib.hid (ea_2 ds n x HL.out hx)
      have hin : inB x 0 ((n : Int) - 1) = false := by simp only [inB, Bool.and_eq_false_iff, decide_eq_false_iff_not]; omega
      by_cases h0 : x < 0
      all_goals
        try have h00 : (n : Int) ≤ x := by omega
        clear hx
        go_wp2_with (go_at_call 55; refine (l1In_any _ _ _ _).mono ?_; rintro e w' ⟨rfl, rfl⟩)
        go_ret2
        exact ⟨.slice (some ⟨w1.heap.size, 0, none⟩) 0 0, by rw [HF.out]; rfl, by rw [HF.out]; exact ⟨_, 0, 0, rfl, Or.inl ⟨rfl, rfl⟩⟩, bel_t HB1.out (bel_1 _ _)⟩

end Go.Proofs.Ytbinphenccnhoaa
