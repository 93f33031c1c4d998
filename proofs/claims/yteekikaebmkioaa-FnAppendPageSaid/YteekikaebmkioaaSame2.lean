/- What the laws' own comparison of devices returns, and '==' on heads. -/
import Derived.Test.YteekikaebmkioaaSame
import Derived.Test.YteekikaebmkioaaDevices2
import Derived.Test.YteekikaebmkioaaRegs2
namespace Go.Proofs.Yteekikaebmkioaa
open Go.RowKit
set_option linter.unusedVariables false

theorem equalIn_heads (a b c a' b' c' : Int) (w : World) :
    (Op.equalIn 10000 54 (.agg #[.int .i64 a, .int .i64 b, .int .i64 c]) (.agg #[.int .i64 a', .int .i64 b', .int .i64 c'])).run Try.prog w = .ok ((a == a') && (b == b') && (c == c')) w := by
  by_cases h1 : a = a'
  · by_cases h2 : b = b'
    · by_cases h3 : c = c'
      · subst h1 h2 h3
        simp [go_sem]
      · have h5 : (c == c') = false := by rw [beq_eq_false_iff_ne]; exact h3
        subst h1 h2
        simp [go_sem, h5]
    · have h5 : (b == b') = false := by rw [beq_eq_false_iff_ne]; exact h2
      subst h1
      simp [go_sem, h5]
  · have h5 : (a == a') = false := by rw [beq_eq_false_iff_ne]; exact h1
    simp [go_sem, h5]
theorem eql_heads (a b c a' b' c' : Int) (w : World) :
    (binOp .eql 54 (.agg #[.int .i64 a, .int .i64 b, .int .i64 c]) (.agg #[.int .i64 a', .int .i64 b', .int .i64 c'])).run Try.prog w = .ok (.bool ((a == a') && (b == b') && (c == c'))) w := by
  rw [run_eql_struct, equalIn_heads]; rfl
theorem neq_heads (a b c a' b' c' : Int) (w : World) :
    (binOp .neq 54 (.agg #[.int .i64 a, .int .i64 b, .int .i64 c]) (.agg #[.int .i64 a', .int .i64 b', .int .i64 c'])).run Try.prog w = .ok (.bool (!((a == a') && (b == b') && (c == c')))) w := by
  rw [run_neq_struct, equalIn_heads]; rfl

set_option maxHeartbeats 2000000 in
theorem sameDevice_any (A : Option Addr) (n c : Nat) (A' : Option Addr) (n' c' : Nat) (ds es : List Bl) (w : World) (h : DevAt w A n ds) (h' : DevAt w A' n' es) :
    Calls Try.prog 39 #[.slice A n c, .slice A' n' c'] w fun e w' => ∃ r, e = .returned (.bool r) ∧ (ds = es → r = true) ∧ Below w.heap.size w w' := by
  have HP := Lib.hid h
  have HP' := Lib.hid h'
  have hm := h.2.1
  have hm' := h'.2.1
  clear h h'
  by_cases hnn : n = n'
  · subst hnn
    go_enter Try.func39, Try.ntmps39
    go_wp2
    go_loopw [5] (fun i wr => ∃ k : Nat, k ≤ n ∧ i = .int .i64 (k : Int) ∧ Hid (Below w.heap.size w wr)) (fun i _ => n - (intOf i).toNat)
    case atStart => exact ⟨0, by omega, rfl, Below.refl _ _⟩
    case round =>
      obtain ⟨k, hk, rfl, HB⟩ := hrel
      by_cases hkn : k = n
      · subst hkn
        go_wp2
        go_ret
        exact ⟨true, rfl, fun _ => rfl, HB.out⟩
      · have hkI : (k : Int) < (n : Int) := by omega
        obtain ⟨b, o, rfl, hC⟩ := HP.out.2.2 (by omega)
        obtain ⟨b', o', rfl, hC'⟩ := HP'.out.2.2 (by omega)
        obtain ⟨A1, m1, c1, x0, x1, hq1⟩ := (hC k (by omega)).keepS (stays_below HB.out)
        obtain ⟨A2, m2, c2, y0, y1, hq2⟩ := (hC' k (by omega)).keepS (stays_below HB.out)
        have HM1 := Lib.hid hq1
        have HM2 := Lib.hid hq2
        rcases hb1 : blAt ds k with ⟨z, ps⟩
        rcases hb2 : blAt es k with ⟨z', qs⟩
        rw [hb1] at x0 HM1
        rw [hb2] at y0 HM2
        simp only [] at x0 HM1 y0 HM2
        have HE1 := Lib.hid hb1
        have HE2 := Lib.hid hb2
        have hs1 : b < wr.heap.size := block_lt_of_cell x0
        have hs2 : b' < wr.heap.size := block_lt_of_cell y0
        clear hC hC' hq1 hq2 hb1 hb2
        go_wp2_with fail
        refine reg_begin (by kernel_rfl) (fun hHeld => ?_)
        refine reg_take 0 17 (v := ?_) rfl rfl (by kernel_rfl) (by kernel_rfl) (by kernel_rfl) (fun _ _ _ h => h) (Or.inl ⟨by rfl, ?_⟩) hHeld ?_
        rotate_left 1
        · intro wS hSw; go_simp <;> with_reducible rfl
        simp only [put_lit, List.set_cons_zero, List.set_cons_succ]
        refine reg_take 1 18 (v := ?_) rfl rfl (by kernel_rfl) (by kernel_rfl) (by kernel_rfl) (fun _ _ _ h => h) (Or.inl ⟨by rfl, ?_⟩) hHeld ?_
        rotate_left 1
        · intro wS hSw; go_simp <;> with_reducible rfl
        simp only [put_lit, List.set_cons_zero, List.set_cons_succ]
        refine reg_take 2 19 (v := ?_) rfl rfl (by kernel_rfl) (by kernel_rfl) (by kernel_rfl) (fun _ _ _ h => h) (Or.inl ⟨by rfl, ?_⟩) hHeld ?_
        rotate_left 1
        · intro wS hSw; go_simp <;> with_reducible rfl
        simp only [put_lit, List.set_cons_zero, List.set_cons_succ]
        refine reg_take 3 20 (v := ?_) rfl rfl (by kernel_rfl) (by kernel_rfl) (by kernel_rfl) (fun _ _ _ h => h) (Or.inl ⟨by rfl, ?_⟩) hHeld ?_
        rotate_left 1
        · intro wS hSw; have hqS := bcellB hSw; go_simp <;> with_reducible rfl
        simp only [put_lit, List.set_cons_zero, List.set_cons_succ]
        refine reg_take 4 21 (v := ?_) rfl rfl (by kernel_rfl) (by kernel_rfl) (by kernel_rfl) (fun _ _ _ h => h) (Or.inl ⟨by rfl, ?_⟩) hHeld ?_
        rotate_left 1
        · intro wS hSw; go_simp <;> with_reducible rfl
        simp only [put_lit, List.set_cons_zero, List.set_cons_succ]
        refine reg_take 5 22 (v := ?_) rfl rfl (by kernel_rfl) (by kernel_rfl) (by kernel_rfl) (fun _ _ _ h => h) (Or.inl ⟨by rfl, ?_⟩) hHeld ?_
        rotate_left 1
        · intro wS hSw; go_simp <;> with_reducible rfl
        simp only [put_lit, List.set_cons_zero, List.set_cons_succ]
        refine reg_take 6 23 (v := ?_) rfl rfl (by kernel_rfl) (by kernel_rfl) (by kernel_rfl) (fun _ _ _ h => h) (Or.inl ⟨by rfl, ?_⟩) hHeld ?_
        rotate_left 1
        · intro wS hSw; go_simp <;> with_reducible rfl
        simp only [put_lit, List.set_cons_zero, List.set_cons_succ]
        refine reg_take 7 24 (v := ?_) rfl rfl (by kernel_rfl) (by kernel_rfl) (by kernel_rfl) (fun _ _ _ h => h) (Or.inl ⟨by rfl, ?_⟩) hHeld ?_
        rotate_left 1
        · intro wS hSw; have hqS := bcellB hSw; go_simp <;> with_reducible rfl
        simp only [put_lit, List.set_cons_zero, List.set_cons_succ]
        refine wpAnyH_ready (rs := [8]) (by kernel_rfl) (by simp) ?_
        refine AllReadyH.cons rfl (fun K hK => ?_) AllReadyH.nil
        go_simp
        refine (sameBlock_any _ _ _ _ _ _ _ _ ps qs _ (HM1.out.keep hHeld) (HM2.out.keep hHeld)).mono ?_
        rintro e ws1 ⟨r, rfl, hr, hbs1⟩
        have HR := Lib.hid hr
        clear hr
        go_wp2_with fail
        refine hK.out _ _ ?_ (fun hHeld => ?_)
        · exact reg_call hHeld hbs1 (Nat.le_refl _)
        clear hK K
        (try simp only [put_lit, List.set_cons_zero, List.set_cons_succ])
        refine reg_take 9 26 (v := ?_) rfl rfl (by kernel_rfl) (by kernel_rfl) (by kernel_rfl) (fun _ _ _ h => h) (Or.inl ⟨by rfl, ?_⟩) hHeld ?_
        rotate_left 1
        · intro wS hSw; go_simp <;> with_reducible rfl
        simp only [put_lit, List.set_cons_zero, List.set_cons_succ]
        refine wpAnyH_done (by kernel_rfl) ?_ _
        cases r
        · go_wp2
          go_ret
          exact ⟨false, rfl, fun e => by subst e; have e2 := HE1.out.symm.trans HE2.out; injection e2 with e3 e4; exact HR.out e3 e4, bel_t HB.out hHeld⟩
        · go_wp2
          go_round
          case rel => exact ⟨k + 1, by omega, by go_num, (bel_t HB.out hHeld : Below _ _ _)⟩
          case measure => simp [intOf]; omega
  · have hq : ((n : Int) != (n' : Int)) = true := by simp; omega
    have hq2 : ¬ (n : Int) = (n' : Int) := by omega
    go_enter Try.func39, Try.ntmps39
    go_wp2
    go_ret
    exact ⟨false, rfl, fun e => absurd (HP.out.1.symm.trans ((congrArg List.length e).trans HP'.out.1)) hnn, Below.refl _ _⟩

end Go.Proofs.Yteekikaebmkioaa
