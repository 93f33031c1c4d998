/- The law FnHeadOf: for every code, of whatever length, the law returns true. No conditions. -/
import Derived.Test.YteekikaebmkioaaRows
import Derived.Test.YteekikaebmkioaaOpenC
import Derived.Test.YteekikaebmkioaaAlive
import Derived.Test.YteekikaebmkioaaSame
import Derived.Test.YteekikaebmkioaaDraws7
namespace Go.Proofs.Yteekikaebmkioaa
open Go.RowKit
set_option linter.unusedVariables false

set_option maxRecDepth 100000 in
set_option maxHeartbeats 4000000 in
theorem walk_FnHeadOf (x : Cd) (w : World) (hx : CodeArg w x) :
    Calls Try.prog 12 #[x.val] w fun e w' => e = .returned (.bool true) ∧ Below w.heap.size w w' := by
  have h1 := hx.1
  have h2 := hx.2.1
  unfold maxLen at h2
  simp only [Cd.val]
  by_cases hbig : 1048576 < x.n
  · go_enter Try.func12, Try.ntmps12
    go_wp2
    go_ret
    exact ⟨rfl, Below.refl _ _⟩
  · go_enter Try.func12, Try.ntmps12
    have HB0 : Hid (Below w.heap.size w w) := Lib.hid (Below.refl _ _)
    go_wp2_with fail
    refine (dHeadOf x _ hx).mono ?_
    rintro e w1 ⟨A, m, c, ds, g, h, k, a, rfl, hmc, hm13, hP1, hb1⟩
    have HB1 := Lib.hid hb1
    have HP := Lib.hid hP1
    have hlen := hP1.1
    clear hb1 hP1
    obtain ⟨n, HN⟩ : ∃ n, Hid (headOfF ds g h k a = n) := ⟨_, rfl⟩
    go_wp2_with fail
    refine (iHeadOf _ _ _ ds _ _ _ _ _ (HP.out.keep (bel_1 _ _))).mono ?_
    rw [HN.out]
    rintro e w2 ⟨rfl, hb2⟩
    have HV2 := Lib.hid (bel_t (bel_1 _ _) hb2)
    have HB2 := Lib.hid (bel_t HB1.out HV2.out)
    replace HP := Lib.hid (HP.out.keep HV2.out)
    have q0 : w2.cell? ⟨w1.heap.size, 0, none⟩ = some (.int .i64 g) := stays_below hb2 _ _ _ (by simp [go_sem])
    have q1 : w2.cell? ⟨w1.heap.size, 1, none⟩ = some (.int .i64 h) := stays_below hb2 _ _ _ (by simp [go_sem])
    have q2 : w2.cell? ⟨w1.heap.size, 2, none⟩ = some (.int .i64 k) := stays_below hb2 _ _ _ (by simp [go_sem])
    have zq0_2 : w1.heap.size < w2.heap.size := block_lt_of_cell q0
    clear hb2
    go_wp2_with fail
    refine (sHeadOf _ _ _ ds _ _ _ _ _ HP.out).mono ?_
    rw [HN.out]
    rintro e w3 ⟨rfl, hb3⟩
    have HV3 := Lib.hid (hb3)
    have HB3 := Lib.hid (bel_t HB2.out HV3.out)
    replace q0 := stays_below HV3.out _ _ _ q0
    replace q1 := stays_below HV3.out _ _ _ q1
    replace q2 := stays_below HV3.out _ _ _ q2
    replace HP := Lib.hid (HP.out.keep HV3.out)
    have zq0_3 : w1.heap.size < w3.heap.size := block_lt_of_cell q0
    clear hb3
    go_wp2_with fail
    refine (iHeadsValid _ _ _ ds _ _ _ _ HP.out).mono ?_
    rintro e w4 ⟨rfl, hb4⟩
    have HV4 := Lib.hid (hb4)
    have HB4 := Lib.hid (bel_t HB3.out HV4.out)
    replace q0 := stays_below HV4.out _ _ _ q0
    replace q1 := stays_below HV4.out _ _ _ q1
    replace q2 := stays_below HV4.out _ _ _ q2
    replace HP := Lib.hid (HP.out.keep HV4.out)
    have zq0_4 : w1.heap.size < w4.heap.size := block_lt_of_cell q0
    clear hb4
    cases hv : headsValidF ds g h k
    · obtain rfl : n = -1 := HN.out.symm.trans (ho_1 ds g h k a hv)
      clear hv
      go_wp2_with (go_at_call 18; refine (alive_any _).mono ?_; rintro e w' ⟨rfl, rfl⟩)
      go_ret
      exact ⟨rfl, HB4.out⟩
    · have hn := HN.out.symm.trans (ho_2 ds g h k a hv)
      clear hv
      by_cases h0 : a = 0
      · subst h0
        have hn2 : n = g := by simpa using hn
        clear hn
        subst hn2
        go_wp2
        go_ret
        exact ⟨rfl, HB4.out⟩
      · by_cases h1 : a = 1
        · subst h1
          have hn2 : n = h := by simpa using hn
          clear hn
          subst hn2
          go_wp2
          go_ret
          exact ⟨rfl, HB4.out⟩
        · by_cases h2 : a = 2
          · subst h2
            have hn2 : n = k := by simpa using hn
            clear hn
            subst hn2
            go_wp2
            go_ret
            exact ⟨rfl, HB4.out⟩
          · obtain rfl : n = -1 := by simpa [h0, h1, h2] using hn
            have b0 : (a == 0) = false := by simpa using h0
            have b1 : (a == 1) = false := by simpa using h1
            have b2 : (a == 2) = false := by simpa using h2
            clear hn
            go_wp2_with (go_at_call 18; refine (alive_any _).mono ?_; rintro e w' ⟨rfl, rfl⟩)
            go_ret
            exact ⟨rfl, HB4.out⟩

namespace fnHeadOf
open Go.ChangeShapes Go.WideShapes Go.ChangeAt Go.RowKit
theorem own : ownKnob Try.prog.godebug = none := by kernel_rfl
theorem laidOut : laidOutB Try.prog = true := by kernel_rfl
theorem spec_ok : LawSpec Rows.fnHeadOfSpec 1 := ⟨rfl, fun H ds h => by
  match ds, h with
  | [_], _ => exact ⟨rfl, rfl, rfl⟩⟩
theorem rd22 : Try.prog.readableRec 22 = true ∧ 22 < Try.prog.types.size := ⟨by kernel_rfl, of_decide_eq_true (by kernel_rfl)⟩
set_option maxRecDepth 100000 in
theorem lifted (os : Os) (started : os.Started) (H : Type) (enc : TypeId × Value → H) :
    ReturnsInHanded {} Try.checked os 12 .any (Rows.fnHeadOfSpec.pre6 enc Try.prog Try.f12 Rows.fnHeadOfRow.domain false) (Rows.fnHeadOfSpec.post enc Try.prog Try.f12 false true false false) := by
  refine law_lifted (C := Try.checked) (tb := 4) own started (by kernel_rfl) Try.func12 laidOut ?_ spec_ok (by rfl) Try.underlying4
    (ChangeSpec.witness6 (enc := enc) (C := Try.checked) false ⟨#[], #[.slice none 0 0], []⟩ 8 (by kernel_rfl) (by kernel_rfl) (by kernel_rfl) (by kernel_rfl)) ?_
  · rw [Try.params12]
    intro t ht
    simp only [List.mem_cons, List.not_mem_nil, or_false] at ht
    subst ht
    exact rd22
  · intro W base args ds ps hval0 hA0
    have hval : ∀ (j : Nat) t v, Try.f12.params[j]? = some t → args[j]? = some v → Value.okWide Try.prog W .any base t v := hval0
    have hA : DataW.TrodAll enc Try.prog W 0 (fun _ => true) true Try.f12.params.toList args.toList ds ps := hA0
    clear hval0 hA0
    rw [Try.params12] at hA hval
    obtain ⟨v0, vs0, d0, ds0, p0, q0, hargs, rfl, rfl, h0, r0⟩ := trodAll_cons hA
    obtain ⟨rfl, rfl, rfl⟩ := trodAll_nil r0
    obtain rfl : args = #[v0] := by cases args; simp_all
    obtain ⟨x0, rfl, hx0⟩ := open_c Try.underlying22 Try.underlying5 (by kernel_rfl) (hval 0 22 v0 rfl rfl) h0
    exact walk_FnHeadOf x0 W hx0

theorem over : Rows.fnHeadOfRow.holds Try.pinned (OpenSpec.ofChange Rows.fnHeadOfSpec) :=
  OpenClaim.holds_of_wide 12 Try.f12 rfl rfl rfl rfl rfl rfl rfl ⟨rfl, rfl, rfl, rfl, rfl⟩ rfl rfl rfl rfl rfl (by kernel_rfl) Try.func12 (by kernel_rfl)
    (of_decide_eq_true (by kernel_rfl)) (by unfold Func.isWrapper; first | (rw [if_pos (by decide +kernel)]; kernel_rfl) | (rw [if_neg (by decide +kernel)]; exact ⟨rfl, rfl⟩))
    (fun os started H enc _ => lifted os started H enc)

theorem proved : Rows.FnHeadOfSaid :=
  over
#print axioms proved
end fnHeadOf
end Go.Proofs.Yteekikaebmkioaa
