/- The law FnReadPage: for every code, of whatever length, the law returns true. No conditions. -/
import Derived.Test.YteekikaebmkioaaRows
import Derived.Test.YteekikaebmkioaaOpenC
import Derived.Test.YteekikaebmkioaaAlive
import Derived.Test.YteekikaebmkioaaSame
import Derived.Test.YteekikaebmkioaaDraws7
import Derived.Test.YteekikaebmkioaaPageEq
namespace Go.Proofs.Yteekikaebmkioaa
open Go.RowKit
set_option linter.unusedVariables false

set_option maxRecDepth 100000 in
set_option maxHeartbeats 4000000 in
theorem walk_FnReadPage (x : Cd) (w : World) (hx : CodeArg w x) :
    Calls Try.prog 8 #[x.val] w fun e w' => e = .returned (.bool true) ∧ Below w.heap.size w w' := by
  have h1 := hx.1
  have h2 := hx.2.1
  unfold maxLen at h2
  simp only [Cd.val]
  by_cases hbig : 1048576 < x.n
  · go_enter Try.func8, Try.ntmps8
    go_wp2
    go_ret
    exact ⟨rfl, Below.refl _ _⟩
  · go_enter Try.func8, Try.ntmps8
    have HB0 : Hid (Below w.heap.size w w) := Lib.hid (Below.refl _ _)
    go_wp2_with fail
    refine (dReadPage x _ hx).mono ?_
    rintro e w1 ⟨A, m, c, ds, a, rfl, hmc, hm13, hP1, hb1⟩
    have HB1 := Lib.hid hb1
    have HP := Lib.hid hP1
    have hlen := hP1.1
    clear hb1 hP1
    obtain ⟨⟨⟨f, fi, pl, va, st⟩, ok⟩, HR⟩ : ∃ r, Hid (readPageF ds a = r) := ⟨_, rfl⟩
    have hne := neq_page f fi pl va st f fi pl va st
    rw [pgEq_refl] at hne
    have heq := eql_page f fi pl va st f fi pl va st
    rw [pgEq_refl] at heq
    have hm13I : (m : Int) ≤ 13 := by omega
    go_wp2_with fail
    refine (iReadPage _ _ _ ds _ _ HP.out).mono ?_
    rw [HR.out]
    simp only [Pg.val]
    rintro e w2 ⟨rfl, hb2⟩
    have HV2 := Lib.hid (hb2)
    have HB2 := Lib.hid (bel_t HB1.out HV2.out)
    replace HP := Lib.hid (HP.out.keep HV2.out)
    clear hb2
    go_wp2_with fail
    refine (sReadPage _ _ _ ds _ _ (HP.out.keep (bel_1 _ _))).mono ?_
    rw [HR.out]
    simp only [Pg.val]
    rintro e w3 ⟨rfl, hb3⟩
    have HV3 := Lib.hid (bel_t (bel_1 _ _) hb3)
    have HB3 := Lib.hid (bel_t HB2.out HV3.out)
    replace HP := Lib.hid (HP.out.keep HV3.out)
    have x0 : w3.cell? ⟨w2.heap.size, 0, none⟩ = some (.bool f) := stays_below hb3 _ _ _ (by simp [go_sem])
    have x1 : w3.cell? ⟨w2.heap.size, 1, none⟩ = some (.int .i64 fi) := stays_below hb3 _ _ _ (by simp [go_sem])
    have x2 : w3.cell? ⟨w2.heap.size, 2, none⟩ = some (.int .i64 pl) := stays_below hb3 _ _ _ (by simp [go_sem])
    have x3 : w3.cell? ⟨w2.heap.size, 3, none⟩ = some (.int .i64 va) := stays_below hb3 _ _ _ (by simp [go_sem])
    have x4 : w3.cell? ⟨w2.heap.size, 4, none⟩ = some (.int .i64 st) := stays_below hb3 _ _ _ (by simp [go_sem])
    have zx0_3 : w2.heap.size < w3.heap.size := block_lt_of_cell x0
    clear hb3
    go_wp2_with fail
    refine (iDeviceValid _ _ _ ds _ (HP.out.keep (bel_1 _ _))).mono ?_
    rintro e w4 ⟨rfl, hb4⟩
    have HV4 := Lib.hid (bel_t (bel_1 _ _) hb4)
    have HB4 := Lib.hid (bel_t HB3.out HV4.out)
    replace x0 := stays_below HV4.out _ _ _ x0
    replace x1 := stays_below HV4.out _ _ _ x1
    replace x2 := stays_below HV4.out _ _ _ x2
    replace x3 := stays_below HV4.out _ _ _ x3
    replace x4 := stays_below HV4.out _ _ _ x4
    replace HP := Lib.hid (HP.out.keep HV4.out)
    have y0 : w4.cell? ⟨w3.heap.size, 0, none⟩ = some (.bool f) := stays_below hb4 _ _ _ (by simp [go_sem])
    have y1 : w4.cell? ⟨w3.heap.size, 1, none⟩ = some (.int .i64 fi) := stays_below hb4 _ _ _ (by simp [go_sem])
    have y2 : w4.cell? ⟨w3.heap.size, 2, none⟩ = some (.int .i64 pl) := stays_below hb4 _ _ _ (by simp [go_sem])
    have y3 : w4.cell? ⟨w3.heap.size, 3, none⟩ = some (.int .i64 va) := stays_below hb4 _ _ _ (by simp [go_sem])
    have y4 : w4.cell? ⟨w3.heap.size, 4, none⟩ = some (.int .i64 st) := stays_below hb4 _ _ _ (by simp [go_sem])
    have zx0_4 : w2.heap.size < w4.heap.size := block_lt_of_cell x0
    have zy0_4 : w3.heap.size < w4.heap.size := block_lt_of_cell y0
    clear hb4
    have HZ := Lib.hid HR.out
    cases hv : deviceValidF ds
    · have hz := HR.out.symm.trans (rp_1 ds a hv)
      simp only [Pg.zero, Prod.mk.injEq, Pg.mk.injEq] at hz
      obtain ⟨⟨rfl, rfl, rfl, rfl, rfl⟩, rfl⟩ := hz
      clear hv HR HZ
      go_wp2_with (go_at_call 18; refine (alive_any _).mono ?_; rintro e w' ⟨rfl, rfl⟩)
      go_ret
      exact ⟨rfl, HB4.out⟩
    · by_cases ha : 0 ≤ a ∧ a < 4 * m
      · obtain ⟨q, r, hr, ea⟩ : ∃ q r : Nat, r < 4 ∧ a = ((4 * q + r : Nat) : Int) := ⟨(a / 4).toNat, (a % 4).toNat, by omega, by omega⟩
        have hq : q < m := by omega
        have hz := HR.out.symm.trans (rp_3 ds m q r a hlen hv ea hr hq)
        have e1 : a.tdiv 4 = (q : Int) := by rw [Int.tdiv_eq_ediv_of_nonneg (by omega)]; omega
        have e2 : a.tmod 4 = (r : Int) := by rw [Int.tmod_eq_emod_of_nonneg (by omega)]; omega
        have e3 : a / 4 = (q : Int) := by omega
        have e4 : a % 4 = (r : Int) := by omega
        obtain ⟨b, o, rfl, hC⟩ := HP.out.2.2 (by omega)
        obtain ⟨A', m', c', c0, c1, hps⟩ := hC q hq
        obtain rfl : m' = 4 := hps.1.symm.trans (bv_len _ (dv_at ds m q hlen hv hq))
        obtain ⟨b', o', rfl, hD⟩ := hps.2.2 (by omega)
        obtain ⟨d0, d1, d2, d3, d4⟩ := hD r hr
        rcases hp : pgAt (blAt ds q).pages r with ⟨f', fi', pl', va', st'⟩
        rw [hp] at d0 d1 d2 d3 d4 hz
        simp only [Prod.mk.injEq, Pg.mk.injEq] at d0 d1 d2 d3 d4 hz
        obtain ⟨⟨rfl, rfl, rfl, rfl, rfl⟩, rfl⟩ := hz
        have hs0 : b' < w4.heap.size := block_lt_of_cell d0
        have hs1 : b < w4.heap.size := block_lt_of_cell c1
        have hqI : (q : Int) < (m : Int) := by omega
        have hrI : (r : Int) < 4 := by omega
        have hwq : IntKind.i64.wrap (q : Int) = (q : Int) := IntWalk.i64_in _ (by omega)
        have hwr : IntKind.i64.wrap (r : Int) = (r : Int) := IntWalk.i64_in _ (by omega)
        obtain ⟨ha0, ha1⟩ := ha
        clear hC hps hD hp hv ea HR HZ
        go_wp2_with fail
        refine reg_begin (by kernel_rfl) (fun hHeld => ?_)
        refine reg_take 0 61 (v := ?_) rfl rfl (by kernel_rfl) (by kernel_rfl) (by kernel_rfl) (fun _ _ _ h => h) (Or.inl ⟨by rfl, ?_⟩) hHeld ?_
        rotate_left 1
        · intro wS hSw; have hqS := bcellB hSw; go_simp <;> with_reducible rfl
        simp only [put_lit, List.set_cons_zero, List.set_cons_succ]
        refine reg_take 1 62 (v := ?_) rfl rfl (by kernel_rfl) (by kernel_rfl) (by kernel_rfl) (fun _ _ _ h => h) (Or.inl ⟨by rfl, ?_⟩) hHeld ?_
        rotate_left 1
        · intro wS hSw; go_simp <;> with_reducible rfl
        simp only [put_lit, List.set_cons_zero, List.set_cons_succ]
        refine reg_take 2 63 (v := ?_) rfl rfl (by kernel_rfl) (by kernel_rfl) (by kernel_rfl) (fun _ _ _ h => h) (Or.inl ⟨by rfl, ?_⟩) hHeld ?_
        rotate_left 1
        · intro wS hSw; go_simp <;> with_reducible rfl
        simp only [put_lit, List.set_cons_zero, List.set_cons_succ]
        refine reg_take 3 64 (v := ?_) rfl rfl (by kernel_rfl) (by kernel_rfl) (by kernel_rfl) (fun _ _ _ h => h) (Or.inl ⟨by rfl, ?_⟩) hHeld ?_
        rotate_left 1
        · intro wS hSw; go_simp <;> with_reducible rfl
        simp only [put_lit, List.set_cons_zero, List.set_cons_succ]
        refine reg_take 4 65 (v := ?_) rfl rfl (by kernel_rfl) (by kernel_rfl) (by kernel_rfl) (fun _ _ _ h => h) (Or.inl ⟨by rfl, ?_⟩) hHeld ?_
        rotate_left 1
        · intro wS hSw; go_simp <;> with_reducible rfl
        simp only [put_lit, List.set_cons_zero, List.set_cons_succ]
        refine reg_take 5 66 (v := ?_) rfl rfl (by kernel_rfl) (by kernel_rfl) (by kernel_rfl) (fun _ _ _ h => h) (Or.inl ⟨by rfl, ?_⟩) hHeld ?_
        rotate_left 1
        · intro wS hSw; go_simp <;> with_reducible rfl
        simp only [put_lit, List.set_cons_zero, List.set_cons_succ]
        refine reg_take 6 67 (v := ?_) rfl rfl (by kernel_rfl) (by kernel_rfl) (by kernel_rfl) (fun _ _ _ h => h) (Or.inl ⟨by rfl, ?_⟩) hHeld ?_
        rotate_left 1
        · intro wS hSw; have hqS := bcellB hSw; go_simp <;> with_reducible rfl
        simp only [put_lit, List.set_cons_zero, List.set_cons_succ]
        refine reg_take 7 68 (v := ?_) rfl rfl (by kernel_rfl) (by kernel_rfl) (by kernel_rfl) (fun _ _ _ h => h) (Or.inl ⟨by rfl, ?_⟩) hHeld ?_
        rotate_left 1
        · intro wS hSw; go_simp <;> with_reducible rfl
        simp only [put_lit, List.set_cons_zero, List.set_cons_succ]
        refine reg_take 8 69 (v := ?_) rfl rfl (by kernel_rfl) (by kernel_rfl) (by kernel_rfl) (fun _ _ _ h => h) (Or.inl ⟨by rfl, ?_⟩) hHeld ?_
        rotate_left 1
        · intro wS hSw; go_simp <;> with_reducible rfl
        simp only [put_lit, List.set_cons_zero, List.set_cons_succ]
        refine reg_take 9 70 (v := ?_) rfl rfl (by kernel_rfl) (by kernel_rfl) (by kernel_rfl) (fun _ _ _ h => h) (Or.inl ⟨by rfl, ?_⟩) hHeld ?_
        rotate_left 1
        · intro wS hSw; go_simp <;> with_reducible rfl
        simp only [put_lit, List.set_cons_zero, List.set_cons_succ]
        refine reg_take 10 71 (v := ?_) rfl rfl (by kernel_rfl) (by kernel_rfl) (by kernel_rfl) (fun _ _ _ h => h) (Or.inl ⟨by rfl, ?_⟩) hHeld ?_
        rotate_left 1
        · intro wS hSw; have hqS := bcellB hSw; go_simp <;> with_reducible rfl
        simp only [put_lit, List.set_cons_zero, List.set_cons_succ]
        refine reg_take 11 72 (v := ?_) rfl rfl (by kernel_rfl) (by kernel_rfl) (by kernel_rfl) (fun _ _ _ h => h) (Or.inl ⟨by rfl, ?_⟩) hHeld ?_
        rotate_left 1
        · intro wS hSw; go_simp <;> with_reducible rfl
        simp only [put_lit, List.set_cons_zero, List.set_cons_succ]
        refine reg_take 12 73 (v := ?_) rfl rfl (by kernel_rfl) (by kernel_rfl) (by kernel_rfl) (fun _ _ _ h => h) (Or.inl ⟨by rfl, ?_⟩) hHeld ?_
        rotate_left 1
        · intro wS hSw; go_simp <;> with_reducible rfl
        simp only [put_lit, List.set_cons_zero, List.set_cons_succ]
        refine reg_take 13 74 (v := ?_) rfl rfl (by kernel_rfl) (by kernel_rfl) (by kernel_rfl) (fun _ _ _ h => h) (Or.inl ⟨by rfl, ?_⟩) hHeld ?_
        rotate_left 1
        · intro wS hSw; go_simp <;> with_reducible rfl
        simp only [put_lit, List.set_cons_zero, List.set_cons_succ]
        refine reg_take 14 75 (v := ?_) rfl rfl (by kernel_rfl) (by kernel_rfl) (by kernel_rfl) (fun _ _ _ h => h) (Or.inl ⟨by rfl, ?_⟩) hHeld ?_
        rotate_left 1
        · intro wS hSw; go_simp <;> with_reducible rfl
        simp only [put_lit, List.set_cons_zero, List.set_cons_succ]
        refine reg_take 15 76 (v := ?_) rfl rfl (by kernel_rfl) (by kernel_rfl) (by kernel_rfl) (fun _ _ _ h => h) (Or.inl ⟨by rfl, ?_⟩) hHeld ?_
        rotate_left 1
        · intro wS hSw; have hqS := bcellB hSw; go_simp <;> with_reducible rfl
        simp only [put_lit, List.set_cons_zero, List.set_cons_succ]
        refine reg_take 16 77 (v := ?_) rfl rfl (by kernel_rfl) (by kernel_rfl) (by kernel_rfl) (fun _ _ _ h => h) (Or.inl ⟨by rfl, ?_⟩) hHeld ?_
        rotate_left 1
        · intro wS hSw; go_simp <;> with_reducible rfl
        simp only [put_lit, List.set_cons_zero, List.set_cons_succ]
        refine reg_take 17 78 (v := ?_) rfl rfl (by kernel_rfl) (by kernel_rfl) (by kernel_rfl) (fun _ _ _ h => h) (Or.inl ⟨by rfl, ?_⟩) hHeld ?_
        rotate_left 1
        · intro wS hSw; go_simp <;> with_reducible rfl
        simp only [put_lit, List.set_cons_zero, List.set_cons_succ]
        refine reg_take 18 2 (v := ?_) rfl rfl (by kernel_rfl) (by kernel_rfl) (by kernel_rfl) (fun _ _ _ h => h) (Or.inl ⟨by rfl, ?_⟩) hHeld ?_
        rotate_left 1
        · intro wS hSw; go_simp <;> with_reducible rfl
        simp only [put_lit, List.set_cons_zero, List.set_cons_succ]
        refine wpAnyH_done (by kernel_rfl) ?_ _
        go_wp2
        go_ret
        exact ⟨rfl, bel_t HB4.out hHeld⟩
      · have hz := HR.out.symm.trans (rp_2 ds m a hlen ha)
        simp only [Pg.zero, Prod.mk.injEq, Pg.mk.injEq] at hz
        obtain ⟨⟨rfl, rfl, rfl, rfl, rfl⟩, rfl⟩ := hz
        clear hv HR HZ
        by_cases h0 : a < 0
        · clear ha
          go_wp2_with (go_at_call 18; refine (alive_any _).mono ?_; rintro e w' ⟨rfl, rfl⟩)
          go_ret
          exact ⟨rfl, HB4.out⟩
        · have h1 : 4 * (m : Int) ≤ a := by omega
          clear ha
          go_wp2_with (go_at_call 18; refine (alive_any _).mono ?_; rintro e w' ⟨rfl, rfl⟩)
          go_ret
          exact ⟨rfl, HB4.out⟩

namespace fnReadPage
open Go.ChangeShapes Go.WideShapes Go.ChangeAt Go.RowKit
theorem own : ownKnob Try.prog.godebug = none := by kernel_rfl
theorem laidOut : laidOutB Try.prog = true := by kernel_rfl
theorem spec_ok : LawSpec Rows.fnReadPageSpec 1 := ⟨rfl, fun H ds h => by
  match ds, h with
  | [_], _ => exact ⟨rfl, rfl, rfl⟩⟩
theorem rd22 : Try.prog.readableRec 22 = true ∧ 22 < Try.prog.types.size := ⟨by kernel_rfl, of_decide_eq_true (by kernel_rfl)⟩
set_option maxRecDepth 100000 in
theorem lifted (os : Os) (started : os.Started) (H : Type) (enc : TypeId × Value → H) :
    ReturnsInHanded {} Try.checked os 8 .any (Rows.fnReadPageSpec.pre6 enc Try.prog Try.f8 Rows.fnReadPageRow.domain false) (Rows.fnReadPageSpec.post enc Try.prog Try.f8 false true false false) := by
  refine law_lifted (C := Try.checked) (tb := 4) own started (by kernel_rfl) Try.func8 laidOut ?_ spec_ok (by rfl) Try.underlying4
    (ChangeSpec.witness6 (enc := enc) (C := Try.checked) false ⟨#[], #[.slice none 0 0], []⟩ 8 (by kernel_rfl) (by kernel_rfl) (by kernel_rfl) (by kernel_rfl)) ?_
  · rw [Try.params8]
    intro t ht
    simp only [List.mem_cons, List.not_mem_nil, or_false] at ht
    subst ht
    exact rd22
  · intro W base args ds ps hval0 hA0
    have hval : ∀ (j : Nat) t v, Try.f8.params[j]? = some t → args[j]? = some v → Value.okWide Try.prog W .any base t v := hval0
    have hA : DataW.TrodAll enc Try.prog W 0 (fun _ => true) true Try.f8.params.toList args.toList ds ps := hA0
    clear hval0 hA0
    rw [Try.params8] at hA hval
    obtain ⟨v0, vs0, d0, ds0, p0, q0, hargs, rfl, rfl, h0, r0⟩ := trodAll_cons hA
    obtain ⟨rfl, rfl, rfl⟩ := trodAll_nil r0
    obtain rfl : args = #[v0] := by cases args; simp_all
    obtain ⟨x0, rfl, hx0⟩ := open_c Try.underlying22 Try.underlying5 (by kernel_rfl) (hval 0 22 v0 rfl rfl) h0
    exact walk_FnReadPage x0 W hx0

theorem over : Rows.fnReadPageRow.holds Try.pinned (OpenSpec.ofChange Rows.fnReadPageSpec) :=
  OpenClaim.holds_of_wide 8 Try.f8 rfl rfl rfl rfl rfl rfl rfl ⟨rfl, rfl, rfl, rfl, rfl⟩ rfl rfl rfl rfl rfl (by kernel_rfl) Try.func8 (by kernel_rfl)
    (of_decide_eq_true (by kernel_rfl)) (by unfold Func.isWrapper; first | (rw [if_pos (by decide +kernel)]; kernel_rfl) | (rw [if_neg (by decide +kernel)]; exact ⟨rfl, rfl⟩))
    (fun os started H enc _ => lifted os started H enc)

theorem proved : Rows.FnReadPageSaid :=
  over
#print axioms proved
end fnReadPage
end Go.Proofs.Yteekikaebmkioaa
