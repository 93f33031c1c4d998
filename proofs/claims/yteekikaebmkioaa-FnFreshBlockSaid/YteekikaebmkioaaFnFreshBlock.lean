/- The law FnFreshBlock: for every code, of whatever length, the law returns true. No conditions. -/
import Derived.Test.YteekikaebmkioaaRows
import Derived.Test.YteekikaebmkioaaOpenC
import Derived.Test.YteekikaebmkioaaAlive
import Derived.Test.YteekikaebmkioaaSame
import Derived.Test.YteekikaebmkioaaDraws7
namespace Go.Proofs.Yteekikaebmkioaa
open Go.RowKit
set_option linter.unusedVariables false

theorem ft_min (ds : List Bl) (g h k : Int) (i j : Nat) (hj : j < i) (hf : freshAt ds g h k j = true) : 0 ≤ freshTo ds g h k i ∧ (blAt ds (freshTo ds g h k i).toNat).wear ≤ (blAt ds j).wear := by
  induction i with
  | zero => omega
  | succ i ih =>
    rw [freshTo_succ]
    by_cases e : j = i
    · subst e
      rw [hf, Bool.true_and]
      split
      · exact ⟨by omega, by rw [Int.toNat_natCast]; omega⟩
      · rename_i hc
        simp only [Bool.or_eq_true, decide_eq_true_eq, not_or] at hc
        omega
    · obtain ⟨h1, h2⟩ := ih (by omega)
      split
      · rename_i hc
        simp only [Bool.and_eq_true, Bool.or_eq_true, decide_eq_true_eq] at hc
        exact ⟨by omega, by rw [Int.toNat_natCast]; omega⟩
      · exact ⟨h1, h2⟩

set_option maxRecDepth 100000 in
set_option maxHeartbeats 4000000 in
theorem walk_FnFreshBlock (x : Cd) (w : World) (hx : CodeArg w x) :
    Calls Try.prog 13 #[x.val] w fun e w' => e = .returned (.bool true) ∧ Below w.heap.size w w' := by
  have h1 := hx.1
  have h2 := hx.2.1
  unfold maxLen at h2
  simp only [Cd.val]
  by_cases hbig : 1048576 < x.n
  · go_enter Try.func13, Try.ntmps13
    go_wp2
    go_ret
    exact ⟨rfl, Below.refl _ _⟩
  · go_enter Try.func13, Try.ntmps13
    have HB0 : Hid (Below w.heap.size w w) := Lib.hid (Below.refl _ _)
    go_wp2_with fail
    refine (dFreshBlock x _ hx).mono ?_
    rintro e w1 ⟨A, m, c, ds, g, h, k, rfl, hmc, hm13, hP1, hb1⟩
    have HB1 := Lib.hid hb1
    have HP := Lib.hid hP1
    have hlen := hP1.1
    clear hb1 hP1
    obtain ⟨n, HN⟩ : ∃ n, Hid (freshBlockF ds g h k = n) := ⟨_, rfl⟩
    have hm13I : (m : Int) ≤ 13 := by omega
    go_wp2_with fail
    refine (iFreshBlock _ _ _ ds _ _ _ _ (HP.out.keep (bel_1 _ _))).mono ?_
    rw [HN.out]
    rintro e w2 ⟨rfl, hb2⟩
    have HV2 := Lib.hid (bel_t (bel_1 _ _) hb2)
    have HB2 := Lib.hid (bel_t HB1.out HV2.out)
    replace HP := Lib.hid (HP.out.keep HV2.out)
    have q0 : w2.cell? ⟨w1.heap.size, 0, none⟩ = some (.int .i64 g) := stays_below hb2 _ _ _ (by simp [go_sem])
    have q1 : w2.cell? ⟨w1.heap.size, 1, none⟩ = some (.int .i64 h) := stays_below hb2 _ _ _ (by simp [go_sem])
    have q2 : w2.cell? ⟨w1.heap.size, 2, none⟩ = some (.int .i64 k) := stays_below hb2 _ _ _ (by simp [go_sem])
    have zq0_2 : w1.heap.size < w2.heap.size := block_lt_of_cell q0
    clear hb2
    go_wp2_with fail
    refine (sFreshBlock _ _ _ ds _ _ _ _ HP.out).mono ?_
    rw [HN.out]
    rintro e w3 ⟨rfl, hb3⟩
    have HV3 := Lib.hid (hb3)
    have HB3 := Lib.hid (bel_t HB2.out HV3.out)
    replace q0 := stays_below HV3.out _ _ _ q0
    replace q1 := stays_below HV3.out _ _ _ q1
    replace q2 := stays_below HV3.out _ _ _ q2
    replace HP := Lib.hid (HP.out.keep HV3.out)
    have zq0_3 : w1.heap.size < w3.heap.size := block_lt_of_cell q0
    clear hb3
    go_wp2_with fail
    refine (iHeadsValid _ _ _ ds _ _ _ _ HP.out).mono ?_
    rintro e w4 ⟨rfl, hb4⟩
    have HV4 := Lib.hid (hb4)
    have HB4 := Lib.hid (bel_t HB3.out HV4.out)
    replace q0 := stays_below HV4.out _ _ _ q0
    replace q1 := stays_below HV4.out _ _ _ q1
    replace q2 := stays_below HV4.out _ _ _ q2
    replace HP := Lib.hid (HP.out.keep HV4.out)
    have zq0_4 : w1.heap.size < w4.heap.size := block_lt_of_cell q0
    clear hb4
    cases hv : headsValidF ds g h k
    · obtain rfl : n = -1 := HN.out.symm.trans (fb_1 ds g h k hv)
      clear hv
      go_wp2_with (go_at_call 18; refine (alive_any _).mono ?_; rintro e w' ⟨rfl, rfl⟩)
      go_ret
      exact ⟨rfl, HB4.out⟩
    · have hn := HN.out.symm.trans (fb_2 ds m g h k hlen hv)
      have HNN := Lib.hid hn
      have hnb := freshTo_b ds g h k m
      rw [← hn] at hnb
      obtain ⟨hnb0, hnb1⟩ := hnb
      have hm1 := (dv_len ds m hlen (hv_in ds m g h k hlen hv).1).1
      obtain ⟨b, o, rfl, hC⟩ := HP.out.2.2 (by omega)
      have HC := Lib.hid hC
      clear hv hn hC
      go_wp2_with fail
      go_loopw [6] (fun x6 wr => ∃ j : Nat, j ≤ m ∧ x6 = .int .i64 (j : Int) ∧ Hid (Below w4.heap.size w4 wr)) (fun x6 _ => m - (intOf x6).toNat)
      case atStart => exact ⟨0, by omega, rfl, Below.refl _ _⟩
      case round =>
        obtain ⟨j, hj, rfl, HB⟩ := hrel
        replace q0 := stays_below HB.out _ _ _ q0
        replace q1 := stays_below HB.out _ _ _ q1
        replace q2 := stays_below HB.out _ _ _ q2
        have zqr : w1.heap.size < wr.heap.size := block_lt_of_cell q0
        by_cases hjm : j = m
        · have hjI : ¬ (j : Int) < (m : Int) := by omega
          go_wp2
          go_ret
          exact ⟨by simp, bel_t HB4.out HB.out⟩
        · have hjI : (j : Int) < (m : Int) := by omega
          obtain ⟨A', m', c', c0, c1, hps⟩ := (HC.out j (by omega)).keepS (stays_below HB.out)
          rcases hp : blAt ds j with ⟨z, ps⟩
          rw [hp] at c0 hps
          simp only [] at c0 hps
          have HM := Lib.hid hps
          have hs1 : b < wr.heap.size := block_lt_of_cell c0
          have HJ := Lib.hid hp
          clear hps hp
          go_upto_region 12 with fail
          go_cut [7] (fun x7 wx => x7 = .bool (freshAt ds g h k j) ∧ Below wr.heap.size wr wx)
          case first =>
            go_wp2_with fail
            refine (iBlockNext _ _ _ _ ps _ HM.out).mono ?_
            obtain ⟨nx, HNX⟩ : ∃ v, Hid (blockNextF ⟨z, ps⟩ = v) := ⟨_, rfl⟩
            rw [HNX.out]
            rintro e w5 ⟨rfl, hb5⟩
            have q0' := stays_below hb5 _ _ _ q0
            have q1' := stays_below hb5 _ _ _ q1
            have q2' := stays_below hb5 _ _ _ q2
            have HB5 := Lib.hid hb5
            have hz5 : w1.heap.size < w5.heap.size := block_lt_of_cell q0'
            clear hb5 c0 c1 q0 q1 q2
            by_cases h0 : nx = 0
            · subst h0
              by_cases h1 : (j : Int) = g
              · have hfa := fa_head ds g h k j (by simp [h1])
                have h1b : ((j : Int) != g) = false := by simp [h1]
                clear h1
                have HFA := Lib.hid hfa
                clear hfa
                go_wp2_with fail
                go_meet
                exact ⟨by rw [HFA.out], HB5.out⟩
              · have h1b : ((j : Int) != g) = true := by simpa using h1
                by_cases h2 : (j : Int) = h
                · have hfa := fa_head ds g h k j (by simp [h2])
                  have h2b : ((j : Int) != h) = false := by simp [h2]
                  clear h2
                  have HFA := Lib.hid hfa
                  clear hfa
                  go_wp2_with fail
                  go_meet
                  exact ⟨by rw [HFA.out], HB5.out⟩
                · have h2b : ((j : Int) != h) = true := by simpa using h2
                  by_cases h3 : (j : Int) = k
                  · have hfa := fa_head ds g h k j (by simp [h3])
                    have h3b : ((j : Int) != k) = false := by simp [h3]
                    clear h3
                    have HFA := Lib.hid hfa
                    clear hfa
                    go_wp2_with fail
                    go_meet
                    exact ⟨by rw [HFA.out], HB5.out⟩
                  · have h3b : ((j : Int) != k) = true := by simpa using h3
                    have hfa := fa_t ds g h k j ⟨z, ps⟩ HJ.out 0 HNX.out rfl (by simp [h1, h2, h3])
                    have HFA := Lib.hid hfa
                    clear hfa
                    go_wp2_with fail
                    go_meet
                    exact ⟨by rw [HFA.out], HB5.out⟩
            · have h0b : (nx == 0) = false := by simpa using h0
              have hfa := fa_next ds g h k j ⟨z, ps⟩ HJ.out nx HNX.out h0b
              have HFA := Lib.hid hfa
              clear hfa
              go_wp2_with fail
              go_meet
              exact ⟨by rw [HFA.out], HB5.out⟩
          case rest =>
            obtain ⟨rfl, hbx⟩ := hcut
            obtain ⟨w6, rfl⟩ : ∃ x, x = wc := ⟨_, rfl⟩
            replace c0 := stays_below hbx _ _ _ c0
            have HB6 := Lib.hid (bel_t HB.out hbx)
            have hs6 : b < w6.heap.size := block_lt_of_cell c0
            clear hbx q0 q1 q2 c1 HM
            have hcase : (freshAt ds g h k j = true ∧ ∃ i : Nat, n = (i : Int) ∧ i < m ∧ (blAt ds i).wear ≤ z) ∨ (freshAt ds g h k j = false ∧ ¬ (j : Int) = n) := by
              cases hfr : freshAt ds g h k j
              · refine Or.inr ⟨rfl, fun e => ?_⟩
                rcases fr_in ds g h k m with h9 | ⟨i, h9, _, h10⟩
                · rw [← HNN.out] at h9; omega
                · rw [← HNN.out] at h9
                  have : i = j := by omega
                  subst this
                  rw [hfr] at h10
                  cases h10
              · obtain ⟨h9, h10⟩ := ft_min ds g h k m j (by omega) hfr
                rw [← HNN.out] at h9 h10
                refine Or.inl ⟨rfl, n.toNat, by omega, by omega, ?_⟩
                rw [HJ.out] at h10
                exact h10
            rcases hcase with ⟨hfr, i, rfl, him, hwz⟩ | ⟨hfr, hjn⟩
            · rw [hfr]
              obtain ⟨A2, m2, c2, e0, e1, _⟩ := (HC.out i him).keepS (stays_below HB6.out)
              rcases hpi : blAt ds i with ⟨zi, pi⟩
              rw [hpi] at e0 hwz
              simp only [] at e0 hwz
              have hiI : (i : Int) < (m : Int) := by omega
              have hw : ¬ z < zi := by omega
              have hwd : decide (z < zi) = false := by simpa using hwz
              clear hpi hfr e1
              by_cases hij : (j : Int) = (i : Int)
              · have hijb : ((j : Int) == (i : Int)) = true := by simpa using hij
                clear hij
                go_wp2_with fail
                go_quiet (fail)
                go_wp2_with fail
                go_round
                case rel => exact ⟨j + 1, by omega, by go_num, (bel_dN HB6.out _ : Below _ _ _)⟩
                case measure => simp [intOf]; omega
              · have hijb : ((j : Int) == (i : Int)) = false := by simpa using hij
                go_wp2_with fail
                go_quiet (fail)
                go_wp2_with fail
                go_round
                case rel => exact ⟨j + 1, by omega, by go_num, (bel_dN HB6.out _ : Below _ _ _)⟩
                case measure => simp [intOf]; omega
            · rw [hfr]
              have hjb : ((j : Int) == n) = false := by simpa using hjn
              clear hfr
              go_wp2_with fail
              go_quiet (fail)
              go_wp2_with fail
              go_round
              case rel => exact ⟨j + 1, by omega, by go_num, (bel_dN HB6.out _ : Below _ _ _)⟩
              case measure => simp [intOf]; omega

namespace fnFreshBlock
open Go.ChangeShapes Go.WideShapes Go.ChangeAt Go.RowKit
theorem own : ownKnob Try.prog.godebug = none := by kernel_rfl
theorem laidOut : laidOutB Try.prog = true := by kernel_rfl
theorem spec_ok : LawSpec Rows.fnFreshBlockSpec 1 := ⟨rfl, fun H ds h => by
  match ds, h with
  | [_], _ => exact ⟨rfl, rfl, rfl⟩⟩
theorem rd22 : Try.prog.readableRec 22 = true ∧ 22 < Try.prog.types.size := ⟨by kernel_rfl, of_decide_eq_true (by kernel_rfl)⟩
set_option maxRecDepth 100000 in
theorem lifted (os : Os) (started : os.Started) (H : Type) (enc : TypeId × Value → H) :
    ReturnsInHanded {} Try.checked os 13 .any (Rows.fnFreshBlockSpec.pre6 enc Try.prog Try.f13 Rows.fnFreshBlockRow.domain false) (Rows.fnFreshBlockSpec.post enc Try.prog Try.f13 false true false false) := by
  refine law_lifted (C := Try.checked) (tb := 4) own started (by kernel_rfl) Try.func13 laidOut ?_ spec_ok (by rfl) Try.underlying4
    (ChangeSpec.witness6 (enc := enc) (C := Try.checked) false ⟨#[], #[.slice none 0 0], []⟩ 8 (by kernel_rfl) (by kernel_rfl) (by kernel_rfl) (by kernel_rfl)) ?_
  · rw [Try.params13]
    intro t ht
    simp only [List.mem_cons, List.not_mem_nil, or_false] at ht
    subst ht
    exact rd22
  · intro W base args ds ps hval0 hA0
    have hval : ∀ (j : Nat) t v, Try.f13.params[j]? = some t → args[j]? = some v → Value.okWide Try.prog W .any base t v := hval0
    have hA : DataW.TrodAll enc Try.prog W 0 (fun _ => true) true Try.f13.params.toList args.toList ds ps := hA0
    clear hval0 hA0
    rw [Try.params13] at hA hval
    obtain ⟨v0, vs0, d0, ds0, p0, q0, hargs, rfl, rfl, h0, r0⟩ := trodAll_cons hA
    obtain ⟨rfl, rfl, rfl⟩ := trodAll_nil r0
    obtain rfl : args = #[v0] := by cases args; simp_all
    obtain ⟨x0, rfl, hx0⟩ := open_c Try.underlying22 Try.underlying5 (by kernel_rfl) (hval 0 22 v0 rfl rfl) h0
    exact walk_FnFreshBlock x0 W hx0

theorem over : Rows.fnFreshBlockRow.holds Try.pinned (OpenSpec.ofChange Rows.fnFreshBlockSpec) :=
  OpenClaim.holds_of_wide 13 Try.f13 rfl rfl rfl rfl rfl rfl rfl ⟨rfl, rfl, rfl, rfl, rfl⟩ rfl rfl rfl rfl rfl (by kernel_rfl) Try.func13 (by kernel_rfl)
    (of_decide_eq_true (by kernel_rfl)) (by unfold Func.isWrapper; first | (rw [if_pos (by decide +kernel)]; kernel_rfl) | (rw [if_neg (by decide +kernel)]; exact ⟨rfl, rfl⟩))
    (fun os started H enc _ => lifted os started H enc)

theorem proved : Rows.FnFreshBlockSaid :=
  over
#print axioms proved
end fnFreshBlock
end Go.Proofs.Yteekikaebmkioaa
