/- The law FnNewBlock: for every code, of whatever length, the law returns true. No conditions. -/
import Derived.Test.YtjklpdidieakkaaRows
import Derived.Test.YtjklpdidieakkaaOpenC
import Derived.Test.YtjklpdidieakkaaDraws3
import Derived.Test.YtjklpdidieakkaaAlive
import Derived.Test.YtjklpdidieakkaaClone
import Derived.Test.YtjklpdidieakkaaSame
namespace Go.Proofs.Ytjklpdidieakkaa
open Go.RowKit
set_option linter.unusedVariables false

set_option maxHeartbeats 4000000 in
theorem walk_FnNewBlock (x : Cd) (w : World) (hx : CodeArg w x) :
    Calls Try.prog 3 #[x.val] w fun e w' => e = .returned (.bool true) ∧ Below w.heap.size w w' := by
  have h1 := hx.1
  have h2 := hx.2.1
  unfold maxLen at h2
  simp only [Cd.val]
  by_cases hbig : 1048576 < x.n
  · go_enter Try.func3, Try.ntmps3
    go_wp2
    go_ret
    exact ⟨rfl, Below.refl _ _⟩
  · go_enter Try.func3, Try.ntmps3
    go_wp2_with fail
    refine (dNewBlock x _ hx).mono ?_
    rintro e w1 ⟨s, rfl, hb1⟩
    have HB1 := Lib.hid hb1
    clear hb1
    obtain ⟨nb, HNB⟩ : ∃ nb, Hid (newBlockF s = nb) := ⟨_, rfl⟩
    go_wp2_with fail
    refine (iNewBlock _ _).mono ?_
    rw [HNB.out]
    rintro e w2 ⟨v2, rfl, ⟨A2, n2, c2, q2, rfl, hn2, hq2, hS2⟩, hb2⟩
    have HB2 := Lib.hid (bel_t HB1.out hb2)
    have S2 := Lib.hid hS2
    clear hb2 hS2
    go_wp2_with fail
    have HB3 := Lib.hid (bel_t HB2.out (bel_1 w2 (.cells #[.int .i64 nb.wear, .slice A2 n2 c2] 26)))
    have S3 := Lib.hid (S2.out.keep (bel_1 w2 (.cells #[.int .i64 nb.wear, .slice A2 n2 c2] 26)))
    have b0 : (w2.alloc (.cells #[.int .i64 nb.wear, .slice A2 n2 c2] 26)).cell? ⟨w2.heap.size, 0, none⟩ = some (.int .i64 nb.wear) := by simp [go_sem]
    have b1 : (w2.alloc (.cells #[.int .i64 nb.wear, .slice A2 n2 c2] 26)).cell? ⟨w2.heap.size, 1, none⟩ = some (.slice A2 n2 c2) := by simp [go_sem]
    have hsB : w2.heap.size < (w2.alloc (.cells #[.int .i64 nb.wear, .slice A2 n2 c2] 26)).heap.size := by simp
    generalize w2.alloc (.cells #[.int .i64 nb.wear, .slice A2 n2 c2] 26) = W at *
    refine reg_begin (by kernel_rfl) (fun hHeld => ?_)
    refine reg_take 0 12 (v := ?_) rfl rfl (by kernel_rfl) (by kernel_rfl) (by kernel_rfl) (fun _ _ _ h => h) (Or.inl ⟨by rfl, ?_⟩) hHeld ?_
    rotate_left 1
    · intro wS hSw; have hqS := bcellB hSw; go_simp <;> with_reducible rfl
    simp only [put_lit, List.set_cons_zero, List.set_cons_succ]
    refine reg_take 1 13 (v := ?_) rfl rfl (by kernel_rfl) (by kernel_rfl) (by kernel_rfl) (fun _ _ _ h => h) (Or.inl ⟨by rfl, ?_⟩) hHeld ?_
    rotate_left 1
    · intro wS hSw; go_simp <;> with_reducible rfl
    simp only [put_lit, List.set_cons_zero, List.set_cons_succ]
    refine wpAnyH_ready (rs := [2]) (by kernel_rfl) (by simp) ?_
    refine AllReadyH.cons rfl (fun K hK => ?_) AllReadyH.nil
    go_simp
    refine (sNewBlock _ _).mono ?_
    rw [HNB.out]
    rintro e w51 ⟨v5, rfl, ⟨A5, n5, c5, q5, rfl, hn5, hq5, hS5⟩, hb51⟩
    go_wp2_with fail
    refine hK.out _ _ ?_ (fun hHeld => ?_)
    · exact reg_call hHeld hb51 (Nat.le_refl _)
    clear hK K
    (try simp only [put_lit, List.set_cons_zero, List.set_cons_succ])
    refine wpAnyH_ready (rs := [3]) (by kernel_rfl) (by simp) ?_
    refine AllReadyH.cons rfl (fun K hK => ?_) AllReadyH.nil
    go_simp
    refine (sameBlock_any _ _ _ _ _ _ _ _ nb.pages nb.pages _ ((S3.out.keep hHeld).at hn2) (hS5.at hn5)).mono ?_
    rintro e w52 ⟨r, rfl, hr, hb52⟩
    obtain rfl := hr rfl rfl
    go_wp2_with fail
    refine hK.out _ _ ?_ (fun hHeld => ?_)
    · exact reg_call hHeld hb52 (Nat.le_refl _)
    clear hK K
    (try simp only [put_lit, List.set_cons_zero, List.set_cons_succ])
    refine reg_take 4 16 (v := ?_) rfl rfl (by kernel_rfl) (by kernel_rfl) (by kernel_rfl) (fun _ _ _ h => h) (Or.inl ⟨by rfl, ?_⟩) hHeld ?_
    rotate_left 1
    · intro wS hSw; go_simp <;> with_reducible rfl
    simp only [put_lit, List.set_cons_zero, List.set_cons_succ]
    refine wpAnyH_done (by kernel_rfl) ?_ _
    skip
    have HB4 := Lib.hid (bel_t HB3.out hHeld)
    have S4 := Lib.hid (S3.out.keep hHeld)
    replace b0 := stays_below hHeld _ _ _ b0
    replace b1 := stays_below hHeld _ _ _ b1
    clear hHeld hb51 hb52 hS5 S3
    by_cases hs : 0 ≤ s ∧ s ≤ 100
    · have hnb := HNB.out.symm.trans (nb_1 s hs)
      have HV := Lib.hid (bv_new s hs)
      have HN := Lib.hid (bn_new s hs)
      subst hnb
      simp only [] at *
      obtain ⟨hs0, hs1⟩ := hs
      go_wp2_with fail
      refine (iBlockValid _ _ _ _ _ _ (S4.out.at hn2)).mono ?_
      rw [HV.out]
      rintro e w6 ⟨rfl, hb6⟩
      have HB6 := Lib.hid (bel_t HB4.out hb6)
      have S6 := Lib.hid (S4.out.keep hb6)
      replace b0 := stays_below hb6 _ _ _ b0
      replace b1 := stays_below hb6 _ _ _ b1
      clear hb6 S4
      go_wp2_with fail
      refine (iBlockNext _ _ _ _ _ _ (S6.out.at hn2)).mono ?_
      rw [HN.out]
      rintro e w7 ⟨rfl, hb7⟩
      go_wp2
      go_ret
      exact ⟨rfl, bel_t HB6.out hb7⟩
    · have hnb := HNB.out.symm.trans (nb_2 s hs)
      subst hnb
      simp only [] at *
      by_cases h0 : s < 0
      all_goals
        try have h00 : 100 < s := by omega
        clear hs
        go_wp2_with fail
        refine (sameBlock_any _ _ _ _ _ _ _ _ [] [] _ (S4.out.at hn2) (PgsAt.nil _)).mono ?_
        rintro e w6 ⟨r, rfl, hr, hb6⟩
        obtain rfl := hr rfl rfl
        have HB6 := Lib.hid (bel_t HB4.out hb6)
        go_wp2_with (go_at_call 8; refine (alive_any _).mono ?_; rintro e w' ⟨rfl, rfl⟩)
        go_ret
        exact ⟨rfl, HB6.out⟩

namespace fnNewBlock
open Go.ChangeShapes Go.WideShapes Go.ChangeAt Go.RowKit
theorem own : ownKnob Try.prog.godebug = none := by kernel_rfl
theorem laidOut : laidOutB Try.prog = true := by kernel_rfl
theorem spec_ok : LawSpec Rows.fnNewBlockSpec 1 := ⟨rfl, fun H ds h => by
  match ds, h with
  | [_], _ => exact ⟨rfl, rfl, rfl⟩⟩
theorem rd22 : Try.prog.readableRec 22 = true ∧ 22 < Try.prog.types.size := ⟨by kernel_rfl, of_decide_eq_true (by kernel_rfl)⟩
set_option maxRecDepth 100000 in
theorem lifted (os : Os) (started : os.Started) (H : Type) (enc : TypeId × Value → H) :
    ReturnsInHanded {} Try.checked os 3 .any (Rows.fnNewBlockSpec.pre6 enc Try.prog Try.f3 Rows.fnNewBlockRow.domain false) (Rows.fnNewBlockSpec.post enc Try.prog Try.f3 false true false false) := by
  refine law_lifted (C := Try.checked) (tb := 4) own started (by kernel_rfl) Try.func3 laidOut ?_ spec_ok (by rfl) Try.underlying4
    (ChangeSpec.witness6 (enc := enc) (C := Try.checked) false ⟨#[], #[.slice none 0 0], []⟩ 8 (by kernel_rfl) (by kernel_rfl) (by kernel_rfl) (by kernel_rfl)) ?_
  · rw [Try.params3]
    intro t ht
    simp only [List.mem_cons, List.not_mem_nil, or_false] at ht
    subst ht
    exact rd22
  · intro W base args ds ps hval0 hA0
    have hval : ∀ (j : Nat) t v, Try.f3.params[j]? = some t → args[j]? = some v → Value.okWide Try.prog W .any base t v := hval0
    have hA : DataW.TrodAll enc Try.prog W 0 (fun _ => true) true Try.f3.params.toList args.toList ds ps := hA0
    clear hval0 hA0
    rw [Try.params3] at hA hval
    obtain ⟨v0, vs0, d0, ds0, p0, q0, hargs, rfl, rfl, h0, r0⟩ := trodAll_cons hA
    obtain ⟨rfl, rfl, rfl⟩ := trodAll_nil r0
    obtain rfl : args = #[v0] := by cases args; simp_all
    obtain ⟨x0, rfl, hx0⟩ := open_c Try.underlying22 Try.underlying5 (by kernel_rfl) (hval 0 22 v0 rfl rfl) h0
    exact walk_FnNewBlock x0 W hx0

theorem over : Rows.fnNewBlockRow.holds Try.pinned (OpenSpec.ofChange Rows.fnNewBlockSpec) :=
  OpenClaim.holds_of_wide 3 Try.f3 rfl rfl rfl rfl rfl rfl rfl ⟨rfl, rfl, rfl, rfl, rfl⟩ rfl rfl rfl rfl rfl (by kernel_rfl) Try.func3 (by kernel_rfl)
    (of_decide_eq_true (by kernel_rfl)) (by unfold Func.isWrapper; first | (rw [if_pos (by decide +kernel)]; kernel_rfl) | (rw [if_neg (by decide +kernel)]; exact ⟨rfl, rfl⟩))
    (fun os started H enc _ => lifted os started H enc)

theorem proved : Rows.FnNewBlockSaid :=
  over
#print axioms proved
end fnNewBlock
end Go.Proofs.Ytjklpdidieakkaa
