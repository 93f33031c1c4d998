/- The law FnBlockNext: for every code, of whatever length, the law returns true. No conditions. -/
import Derived.Test.YteekikaebmkioaaRows
import Derived.Test.YteekikaebmkioaaOpenC
import Derived.Test.YteekikaebmkioaaAlive
import Derived.Test.YteekikaebmkioaaSame
import Derived.Test.YteekikaebmkioaaDraws5
namespace Go.Proofs.Yteekikaebmkioaa
open Go.RowKit
set_option linter.unusedVariables false

set_option maxRecDepth 100000 in
set_option maxHeartbeats 4000000 in
theorem walk_FnBlockNext (x : Cd) (w : World) (hx : CodeArg w x) :
    Calls Try.prog 4 #[x.val] w fun e w' => e = .returned (.bool true) ∧ Below w.heap.size w w' := by
  have h1 := hx.1
  have h2 := hx.2.1
  unfold maxLen at h2
  simp only [Cd.val]
  by_cases hbig : 1048576 < x.n
  · go_enter Try.func4, Try.ntmps4
    go_wp2
    go_ret
    exact ⟨rfl, Below.refl _ _⟩
  · go_enter Try.func4, Try.ntmps4
    have HB0 : Hid (Below w.heap.size w w) := Lib.hid (Below.refl _ _)
    go_wp2_with fail
    refine (dBlockNext x _ hx).mono ?_
    rintro e w1 ⟨z, A, m, c, ps, rfl, hmc, hm4, hP1, hb1⟩
    have HB1 := Lib.hid hb1
    have HP := Lib.hid hP1
    clear hb1 hP1
    obtain ⟨v, HN⟩ : ∃ v, Hid (blockNextF ⟨z, ps⟩ = v) := ⟨_, rfl⟩
    go_wp2_with fail
    refine (iBlockNext _ _ _ _ ps _ (HP.out.keep (bel_1 _ _))).mono ?_
    rw [HN.out]
    rintro e w2 ⟨rfl, hb2⟩
    have HV2 := Lib.hid (bel_t (bel_1 _ _) hb2)
    have HB2 := Lib.hid (bel_t HB1.out HV2.out)
    replace HP := Lib.hid (HP.out.keep HV2.out)
    have b0 : w2.cell? ⟨w1.heap.size, 0, none⟩ = some (.int .i64 z) := stays_below hb2 _ _ _ (by simp [go_sem])
    have b1 : w2.cell? ⟨w1.heap.size, 1, none⟩ = some (.slice A m c) := stays_below hb2 _ _ _ (by simp [go_sem])
    have zb0_2 : w1.heap.size < w2.heap.size := block_lt_of_cell b0
    clear hb2
    go_wp2_with fail
    refine (sBlockNext _ _ _ _ ps _ HP.out).mono ?_
    rw [HN.out]
    rintro e w3 ⟨rfl, hb3⟩
    have HV3 := Lib.hid (hb3)
    have HB3 := Lib.hid (bel_t HB2.out HV3.out)
    replace b0 := stays_below HV3.out _ _ _ b0
    replace b1 := stays_below HV3.out _ _ _ b1
    replace HP := Lib.hid (HP.out.keep HV3.out)
    have zb0_3 : w1.heap.size < w3.heap.size := block_lt_of_cell b0
    clear hb3
    go_wp2_with fail
    refine (iBlockValid _ _ _ _ ps _ HP.out).mono ?_
    rintro e w4 ⟨rfl, hb4⟩
    have HV4 := Lib.hid (hb4)
    have HB4 := Lib.hid (bel_t HB3.out HV4.out)
    replace b0 := stays_below HV4.out _ _ _ b0
    replace b1 := stays_below HV4.out _ _ _ b1
    replace HP := Lib.hid (HP.out.keep HV4.out)
    have zb0_4 : w1.heap.size < w4.heap.size := block_lt_of_cell b0
    clear hb4
    cases hv : blockValidF ⟨z, ps⟩
    · obtain rfl : v = -1 := HN.out.symm.trans (bn_1 _ hv)
      clear hv
      go_wp2_with (go_at_call 18; refine (alive_any _).mono ?_; rintro e w' ⟨rfl, rfl⟩)
      go_ret
      exact ⟨rfl, HB4.out⟩
    · obtain rfl : m = 4 := HP.out.1.symm.trans (bv_len _ hv)
      obtain ⟨b, o, rfl, hC⟩ := HP.out.2.2 (by omega)
      have HC := Lib.hid hC
      clear hC hmc hm4
      have hfull : ∀ k, k < 4 → (pgAt ps k).full = (decide (v < 0) || decide ((k : Int) < v)) := by
        intro k hk
        by_cases h0 : v < 0
        · obtain ⟨_, hall⟩ := bn_none ⟨z, ps⟩ hv (by rw [HN.out]; exact h0)
          rw [hall k hk]; simp [h0]
        · obtain ⟨j, hj⟩ : ∃ j : Nat, v = (j : Int) := ⟨v.toNat, by omega⟩
          obtain ⟨_, ha, hb⟩ := bn_at ⟨z, ps⟩ j hv (by rw [HN.out]; exact hj)
          by_cases hkj : k < j
          · have h9 : (k : Int) < v := by omega
            rw [ha k hkj]; simp [h0, h9]
          · have h9 : ¬ (k : Int) < v := by omega
            rw [hb k (by omega) hk]; simp [h0, h9]
      have hv4 : v < 4 := by rw [← HN.out]; exact bn_lt _ hv
      have HFU := Lib.hid hfull
      clear hfull hv
      go_wp2_with fail
      go_loopw [5] (fun i wr => ∃ k : Nat, k ≤ 4 ∧ i = .int .i64 (k : Int) ∧ Hid (Below w4.heap.size w4 wr)) (fun i _ => 4 - (intOf i).toNat)
      case atStart => exact ⟨0, by omega, rfl, Below.refl _ _⟩
      case round =>
        obtain ⟨k, hk, rfl, HB⟩ := hrel
        replace b0 := stays_below HB.out _ _ _ b0
        replace b1 := stays_below HB.out _ _ _ b1
        by_cases hkn : k = 4
        · subst hkn
          go_wp2
          go_ret
          exact ⟨rfl, bel_t HB4.out HB.out⟩
        · have hk4 : k < 4 := by omega
          have hkI : (k : Int) < 4 := by omega
          obtain ⟨c0, c1, c2, c3, c4⟩ := (HC.out k hk4).keep (stays_below HB.out)
          have hf := HFU.out k hk4
          rcases hp : pgAt ps k with ⟨f, fi, pl, va, st⟩
          rw [hp] at c0 c1 c2 c3 c4 hf
          simp only [] at c0 c1 c2 c3 c4 hf
          clear hp
          by_cases h0 : v < 0
          · have hf2 : f = true := by rw [hf]; simp [h0]
            subst hf2
            clear hf
            go_wp2
            go_round
            case rel => exact ⟨k + 1, by omega, by simp, HB.out⟩
            case measure => simp [intOf]; omega
          · by_cases hkv : (k : Int) < v
            · have hf2 : f = true := by rw [hf]; simp [hkv]
              subst hf2
              clear hf
              go_wp2
              go_round
              case rel => exact ⟨k + 1, by omega, by simp, HB.out⟩
              case measure => simp [intOf]; omega
            · have hf2 : f = false := by rw [hf]; simp [h0, hkv]
              subst hf2
              clear hf
              go_wp2
              go_round
              case rel => exact ⟨k + 1, by omega, by simp, HB.out⟩
              case measure => simp [intOf]; omega

namespace fnBlockNext
open Go.ChangeShapes Go.WideShapes Go.ChangeAt Go.RowKit
theorem own : ownKnob Try.prog.godebug = none := by kernel_rfl
theorem laidOut : laidOutB Try.prog = true := by kernel_rfl
theorem spec_ok : LawSpec Rows.fnBlockNextSpec 1 := ⟨rfl, fun H ds h => by
  match ds, h with
  | [_], _ => exact ⟨rfl, rfl, rfl⟩⟩
theorem rd22 : Try.prog.readableRec 22 = true ∧ 22 < Try.prog.types.size := ⟨by kernel_rfl, of_decide_eq_true (by kernel_rfl)⟩
set_option maxRecDepth 100000 in
theorem lifted (os : Os) (started : os.Started) (H : Type) (enc : TypeId × Value → H) :
    ReturnsInHanded {} Try.checked os 4 .any (Rows.fnBlockNextSpec.pre6 enc Try.prog Try.f4 Rows.fnBlockNextRow.domain false) (Rows.fnBlockNextSpec.post enc Try.prog Try.f4 false true false false) := by
  refine law_lifted (C := Try.checked) (tb := 4) own started (by kernel_rfl) Try.func4 laidOut ?_ spec_ok (by rfl) Try.underlying4
    (ChangeSpec.witness6 (enc := enc) (C := Try.checked) false ⟨#[], #[.slice none 0 0], []⟩ 8 (by kernel_rfl) (by kernel_rfl) (by kernel_rfl) (by kernel_rfl)) ?_
  · rw [Try.params4]
    intro t ht
    simp only [List.mem_cons, List.not_mem_nil, or_false] at ht
    subst ht
    exact rd22
  · intro W base args ds ps hval0 hA0
    have hval : ∀ (j : Nat) t v, Try.f4.params[j]? = some t → args[j]? = some v → Value.okWide Try.prog W .any base t v := hval0
    have hA : DataW.TrodAll enc Try.prog W 0 (fun _ => true) true Try.f4.params.toList args.toList ds ps := hA0
    clear hval0 hA0
    rw [Try.params4] at hA hval
    obtain ⟨v0, vs0, d0, ds0, p0, q0, hargs, rfl, rfl, h0, r0⟩ := trodAll_cons hA
    obtain ⟨rfl, rfl, rfl⟩ := trodAll_nil r0
    obtain rfl : args = #[v0] := by cases args; simp_all
    obtain ⟨x0, rfl, hx0⟩ := open_c Try.underlying22 Try.underlying5 (by kernel_rfl) (hval 0 22 v0 rfl rfl) h0
    exact walk_FnBlockNext x0 W hx0

theorem over : Rows.fnBlockNextRow.holds Try.pinned (OpenSpec.ofChange Rows.fnBlockNextSpec) :=
  OpenClaim.holds_of_wide 4 Try.f4 rfl rfl rfl rfl rfl rfl rfl ⟨rfl, rfl, rfl, rfl, rfl⟩ rfl rfl rfl rfl rfl (by kernel_rfl) Try.func4 (by kernel_rfl)
    (of_decide_eq_true (by kernel_rfl)) (by unfold Func.isWrapper; first | (rw [if_pos (by decide +kernel)]; kernel_rfl) | (rw [if_neg (by decide +kernel)]; exact ⟨rfl, rfl⟩))
    (fun os started H enc _ => lifted os started H enc)

theorem proved : Rows.FnBlockNextSaid :=
  over
#print axioms proved
end fnBlockNext
end Go.Proofs.Yteekikaebmkioaa
