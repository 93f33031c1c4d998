/- The law FnDeviceValid: for every code, of whatever length, the law returns true. No conditions. -/
import Derived.Test.YteekikaebmkioaaRows
import Derived.Test.YteekikaebmkioaaOpenC
import Derived.Test.YteekikaebmkioaaAlive
import Derived.Test.YteekikaebmkioaaSame
import Derived.Test.YteekikaebmkioaaDraws7
namespace Go.Proofs.Yteekikaebmkioaa
open Go.RowKit
set_option linter.unusedVariables false

theorem dv_zero_cons (ds : List Bl) : deviceValidF (Bl.zero :: ds) = false := by
  by_cases h : 12 < (Bl.zero :: ds).length
  · exact dv_1 _ _ rfl (Or.inr h)
  · rw [deviceValidF, allTo_false (j := 0) _ (by simp) (by exact bv_2 0 [] (by simp)), Bool.and_false]
theorem dv_first (ds : List Bl) (n : Nat) (hl : ds.length = n) (hv : deviceValidF ds = true) : deviceValidF (ds.take 1) = true := by
  have h := dv_len ds n hl hv
  refine dv_mk _ 1 (by rw [List.length_take]; omega) (Nat.le_refl _) (by omega) fun i hi => ?_
  have e : blAt (ds.take 1) i = blAt ds i := by simp [blAt, List.getD, hi]
  rw [e]
  exact dv_at ds n i hl hv (by omega)
theorem DevAt.first {w : World} {A : Option Addr} {n : Nat} {ds : List Bl} (h : DevAt w A n ds) (h1 : 1 ≤ n) : DevAt w A 1 (ds.take 1) := by
  refine ⟨by rw [List.length_take, h.1]; omega, by omega, fun _ => ?_⟩
  obtain ⟨b, o, e, hc⟩ := h.2.2 (by omega)
  refine ⟨b, o, e, fun i hi => ?_⟩
  have e2 : blAt (ds.take 1) i = blAt ds i := by simp [blAt, List.getD, hi]
  rw [e2]
  exact hc i (by omega)
/-- the cells of a device that can be read, in a row -/
theorem dev_cells {w : World} {b o n : Nat} {ds : List Bl} (hc : ∀ i, i < n → BlkAt w b (o + i * 2) (blAt ds i)) :
    ∃ news : List Value, news.length = n * 2 ∧ (∀ j u, news[j]? = some u → w.cell? ((⟨b, o, none⟩ : Addr).add j) = some u) ∧ (∀ u ∈ news, u.oneCell' = true) ∧ ∀ i, i < n → ∃ A m c, news[i * 2]? = some (.int .i64 (blAt ds i).wear) ∧ news[i * 2 + 1]? = some (.slice A m c) ∧ PgsAt w A m (blAt ds i).pages := by
  have hx : ∀ i, ∃ q : Option Addr × Nat × Nat, i < n → w.cell? ⟨b, o + i * 2, none⟩ = some (.int .i64 (blAt ds i).wear) ∧ w.cell? ⟨b, o + i * 2 + 1, none⟩ = some (.slice q.1 q.2.1 q.2.2) ∧ PgsAt w q.1 q.2.1 (blAt ds i).pages := fun i => by
    by_cases hi : i < n
    · obtain ⟨A, m, c, q1, q2, q3⟩ := hc i hi
      exact ⟨(A, m, c), fun _ => ⟨q1, q2, q3⟩⟩
    · exact ⟨(none, 0, 0), fun h => absurd h hi⟩
  obtain ⟨F, hF⟩ := Classical.axiomOfChoice hx
  have hat : ∀ j, j < n * 2 → ((List.range (n * 2)).map fun j => if j % 2 = 0 then Value.int .i64 (blAt ds (j / 2)).wear else .slice (F (j / 2)).1 (F (j / 2)).2.1 (F (j / 2)).2.2)[j]? = some (if j % 2 = 0 then Value.int .i64 (blAt ds (j / 2)).wear else .slice (F (j / 2)).1 (F (j / 2)).2.1 (F (j / 2)).2.2) := fun j hj => by simp [hj]
  refine ⟨(List.range (n * 2)).map fun j => if j % 2 = 0 then Value.int .i64 (blAt ds (j / 2)).wear else .slice (F (j / 2)).1 (F (j / 2)).2.1 (F (j / 2)).2.2, by simp, fun j u hu => ?_, fun u hu => ?_, fun i hi => ?_⟩
  · have hj : j < n * 2 := by
      have := (List.getElem?_eq_some_iff.1 hu).1
      simpa using this
    rw [hat j hj] at hu
    obtain ⟨q1, q2, _⟩ := hF (j / 2) (by omega)
    rw [Addr.add_lit, ← hu]
    by_cases e : j % 2 = 0
    · rw [if_pos e, show o + j = o + j / 2 * 2 by omega]; exact q1
    · rw [if_neg e, show o + j = o + j / 2 * 2 + 1 by omega]; exact q2
  · simp only [List.mem_map] at hu
    obtain ⟨j, _, rfl⟩ := hu
    split <;> rfl
  · obtain ⟨_, _, q3⟩ := hF i hi
    refine ⟨(F i).1, (F i).2.1, (F i).2.2, ?_, ?_, q3⟩
    · rw [hat _ (by omega), if_pos (by omega), show i * 2 / 2 = i by omega]
    · rw [hat _ (by omega), if_neg (by omega), show (i * 2 + 1) / 2 = i by omega]
theorem dev_news {w : World} {ad : Addr} {n : Nat} {ds : List Bl} (h : DevAt w (some ad) n ds) :
    ∃ news : List Value, news.length = n * 2 ∧ (∀ j u, news[j]? = some u → ∃ b o, ad = ⟨b, o, none⟩ ∧ w.cell? (ad.add j) = some u) ∧ (∀ u ∈ news, u.oneCell' = true) ∧ ∀ i, i < n → ∃ A m c, news[i * 2]? = some (.int .i64 (blAt ds i).wear) ∧ news[i * 2 + 1]? = some (.slice A m c) ∧ PgsAt w A m (blAt ds i).pages := by
  rcases Nat.eq_zero_or_pos n with h0 | h0
  · subst h0
    exact ⟨[], rfl, fun j u hu => by simp at hu, fun u hu => by simp at hu, fun i hi => absurd hi (by omega)⟩
  · obtain ⟨b, o, e, hc⟩ := h.2.2 h0
    injection e with e
    subst e
    obtain ⟨news, q1, q2, q3, q4⟩ := dev_cells hc
    exact ⟨news, q1, fun j u hu => ⟨b, o, rfl, q2 j u hu⟩, q3, q4⟩
/-- a zero block, and a device's blocks behind it, in a row of the call's own -/
theorem dev_cons {w : World} {base e n : Nat} {v : Value} {news : List Value} {ds : List Bl} (h : w.ownsRow base e 2 v (1 + n) ([.int .i64 0, .slice none 0 0] ++ news)) (hl : ds.length = n) (hn : n ≤ 13)
    (hx : ∀ i, i < n → ∃ A m c, news[i * 2]? = some (.int .i64 (blAt ds i).wear) ∧ news[i * 2 + 1]? = some (.slice A m c) ∧ PgsAt w A m (blAt ds i).pages) : ∃ A c, v = .slice A (1 + n) c ∧ DevAt w A (1 + n) (Bl.zero :: ds) := by
  rcases h.2 with ⟨_, h0⟩ | ⟨g, cap, cur, rfl, hb, hg, hnc, hcm, hcs, htake⟩
  · omega
  · have hc : ∀ j, j < (1 + n) * 2 → w.cell? ⟨g, j, none⟩ = ([.int .i64 0, .slice none 0 0] ++ news)[j]? := fun j hj => by
      rw [cell_of_row w g _ cur _ _ hg, ← Array.getElem?_toList, ← htake, List.getElem?_take, if_pos (by omega)]
    refine ⟨_, cap, rfl, by simp [hl]; omega, by omega, fun _ => ⟨g, 0, rfl, fun i hi => ?_⟩⟩
    rw [Nat.zero_add]
    match i, hi with
    | 0, _ => exact ⟨none, 0, 0, by rw [hc _ (by omega)]; rfl, by rw [hc _ (by omega)]; rfl, PgsAt.nil _⟩
    | i + 1, hi =>
      obtain ⟨A, m, c, q1, q2, q3⟩ := hx i (by omega)
      have e : blAt (Bl.zero :: ds) (i + 1) = blAt ds i := by simp [blAt, List.getD]
      rw [e]
      refine ⟨A, m, c, ?_, ?_, q3⟩
      · rw [hc _ (by omega), List.getElem?_append_right (by simp; omega)]
        rw [show (i + 1) * 2 - [Value.int .i64 0, .slice none 0 0].length = i * 2 by simp; omega]; exact q1
      · rw [hc _ (by omega), List.getElem?_append_right (by simp; omega)]
        rw [show (i + 1) * 2 + 1 - [Value.int .i64 0, .slice none 0 0].length = i * 2 + 1 by simp; omega]; exact q2

set_option maxRecDepth 100000 in
set_option maxHeartbeats 4000000 in
theorem walk_FnDeviceValid (x : Cd) (w : World) (hx : CodeArg w x) :
    Calls Try.prog 7 #[x.val] w fun e w' => e = .returned (.bool true) ∧ Below w.heap.size w w' := by
  have h1 := hx.1
  have h2 := hx.2.1
  unfold maxLen at h2
  simp only [Cd.val]
  by_cases hbig : 1048576 < x.n
  · go_enter Try.func7, Try.ntmps7
    go_wp2
    go_ret
    exact ⟨rfl, Below.refl _ _⟩
  · go_enter Try.func7, Try.ntmps7
    have HB0 : Hid (Below w.heap.size w w) := Lib.hid (Below.refl _ _)
    go_wp2_with fail
    refine (dDeviceValid x _ hx).mono ?_
    rintro e w1 ⟨A, m, c, ds, rfl, hmc, hm13, hP1, hb1⟩
    have HB1 := Lib.hid hb1
    have HP := Lib.hid hP1
    have hlen := hP1.1
    clear hb1 hP1
    obtain ⟨u, HU⟩ : ∃ u, Hid (deviceValidF ds = u) := ⟨_, rfl⟩
    have HZ := Lib.hid (dv_zero_cons ds)
    go_wp2_with fail
    refine (iDeviceValid _ _ _ ds _ HP.out).mono ?_
    rw [HU.out]
    rintro e w2 ⟨rfl, hb2⟩
    have HV2 := Lib.hid (hb2)
    have HB2 := Lib.hid (bel_t HB1.out HV2.out)
    replace HP := Lib.hid (HP.out.keep HV2.out)
    clear hb2
    go_wp2_with fail
    refine (sDeviceValid _ _ _ ds _ HP.out).mono ?_
    rw [HU.out]
    rintro e w3 ⟨rfl, hb3⟩
    have HV3 := Lib.hid (hb3)
    have HB3 := Lib.hid (bel_t HB2.out HV3.out)
    replace HP := Lib.hid (HP.out.keep HV3.out)
    clear hb3
    rcases A with _ | ad
    · obtain rfl : m = 0 := by rcases Nat.eq_zero_or_pos m with h0 | h0; exact h0; obtain ⟨b, o, e, _⟩ := HP.out.2.2 h0; cases e
      obtain rfl : u = false := HU.out.symm.trans (dv_1 ds 0 hlen (by omega))
      obtain rfl : ds = [] := List.eq_nil_of_length_eq_zero hlen
      have HW : Hid (DevAt (w3.alloc (.cells #[.int .i64 0, .slice none 0 0] 25)) (some ⟨w3.heap.size, 0, none⟩) 1 [Bl.zero]) := Lib.hid ⟨rfl, by omega, fun _ => ⟨_, 0, rfl, fun i hi => by
        obtain rfl : i = 0 := by omega
        exact ⟨none, 0, 0, by simp [go_sem, blAt, Bl.zero], by simp [go_sem], PgsAt.nil _⟩⟩⟩
      go_wp2_with fail
      refine (iDeviceValid _ _ _ [Bl.zero] _ HW.out).mono ?_
      rw [HZ.out]
      rintro e w4 ⟨rfl, hb4⟩
      have HB4 := Lib.hid (bel_t HB3.out (bel_t (bel_1 _ _) hb4))
      clear hb4
      go_wp2_with (go_at_call 18; refine (alive_any _).mono ?_; rintro e w' ⟨rfl, rfl⟩)
      go_ret
      exact ⟨rfl, HB4.out⟩
    · obtain ⟨news, hnl, hnc, hn1, hnx⟩ := dev_news HP.out
      have HNC : Hid (∀ j u, news[j]? = some u → (w3.alloc (.cells #[.int .i64 0, .slice none 0 0] 25)).cell? (ad.add j) = some u) := Lib.hid (fun j u hu => by
        obtain ⟨b, o, e, h9⟩ := hnc j u hu
        rw [e, Addr.add_lit] at h9 ⊢
        exact stays_below (bel_1 _ _) _ _ _ h9)
      have HN1 := Lib.hid hn1
      have HNX := Lib.hid hnx
      clear hnc hn1 hnx
      obtain ⟨ti, hi', hzz⟩ := Option.map_eq_some_iff.1 infoBlock
      simp only [Prod.mk.injEq] at hzz
      obtain ⟨hz0, hz1, hz2⟩ := hzz
      have HI := Lib.hid hi'
      have HZ0 := Lib.hid hz0
      have HZ1 := Lib.hid hz1
      have HZ2 := Lib.hid hz2
      clear hi' hz0 hz1 hz2
      have HO1 : Hid ((w3.alloc (.cells #[.int .i64 0, .slice none 0 0] 25)).ownsRow w3.heap.size 25 2 (.slice (some ⟨w3.heap.size, 0, none⟩) 1 1) 1 [.int .i64 0, .slice none 0 0]) := Lib.hid ⟨rfl, Or.inr ⟨w3.heap.size, 1, #[.int .i64 0, .slice none 0 0], rfl, Nat.le_refl _, heap_new _ _, Nat.le_refl _, by unfold maxLen; omega, rfl, rfl⟩⟩
      have hsz : w3.heap.size ≤ (w3.alloc (.cells #[.int .i64 0, .slice none 0 0] 25)).heap.size := by simp
      go_wp2_with (refine wpList_append_own _ rfl (.tmp 17) (.tmp 18) 41 rfl w3.heap.size 25 ti (.agg #[.int .i64 0, .slice none 0 0]) 2 32 Try.underlying41 HI.out HZ0.out HZ1.out HZ2.out rfl (by decide) _ 1 [.int .i64 0, .slice none 0 0] rfl HO1.out ad m c news rfl hnl HNC.out HN1.out (by unfold maxLen; omega) (by omega) (by omega) ?_; intro v' w4 hown' hgrow' hnil')
      have HO3 := Lib.hid hown'
      have HG3 : Hid (World.grownBy (w3.alloc (.cells #[.int .i64 0, .slice none 0 0] 25)) w4 (some w3.heap.size)) := Lib.hid hgrow'
      clear hown' hgrow' hnil'
      have HX4 : Hid (Below w3.heap.size w3 w4) := Lib.hid ((bel_1 w3 (.cells #[.int .i64 0, .slice none 0 0] 25)).grown HG3.out hsz (fun q hq => by injection hq with hq; omega))
      obtain ⟨A4, c4, rfl, hD4⟩ := dev_cons HO3.out hlen hm13 (fun i hi => by
        obtain ⟨A', m', c', q1, q2, q3⟩ := HNX.out i hi
        exact ⟨A', m', c', q1, q2, q3.keep HX4.out⟩)
      have HD4 := Lib.hid hD4
      have HP4 := Lib.hid (HP.out.keep HX4.out)
      have HB4 := Lib.hid (bel_t HB3.out HX4.out)
      clear hD4
      go_wp2_with fail
      refine (iDeviceValid _ _ _ (Bl.zero :: ds) _ HD4.out).mono ?_
      rw [HZ.out]
      rintro e w5 ⟨rfl, hb5⟩
      have HP5 := Lib.hid (HP4.out.keep hb5)
      have HB5 := Lib.hid (bel_t HB4.out hb5)
      clear hb5
      cases u
      · skip
        go_wp2_with (go_at_call 18; refine (alive_any _).mono ?_; rintro e w' ⟨rfl, rfl⟩)
        go_ret
        exact ⟨rfl, HB5.out⟩
      · have hm1 := (dv_len ds m hlen HU.out).1
        have hcI : (1 : Int) ≤ (c : Int) := by omega
        have HF := Lib.hid (dv_first ds m hlen HU.out)
        go_wp2_with fail
        refine (iDeviceValid _ _ _ (ds.take 1) _ (HP5.out.first (by omega))).mono ?_
        rw [HF.out]
        rintro e w6 ⟨rfl, hb6⟩
        have HB6 := Lib.hid (bel_t HB5.out hb6)
        go_wp2_with (go_at_call 18; refine (alive_any _).mono ?_; rintro e w' ⟨rfl, rfl⟩)
        go_ret
        exact ⟨rfl, HB6.out⟩

namespace fnDeviceValid
open Go.ChangeShapes Go.WideShapes Go.ChangeAt Go.RowKit
theorem own : ownKnob Try.prog.godebug = none := by kernel_rfl
theorem laidOut : laidOutB Try.prog = true := by kernel_rfl
theorem spec_ok : LawSpec Rows.fnDeviceValidSpec 1 := ⟨rfl, fun H ds h => by
  match ds, h with
  | [_], _ => exact ⟨rfl, rfl, rfl⟩⟩
theorem rd22 : Try.prog.readableRec 22 = true ∧ 22 < Try.prog.types.size := ⟨by kernel_rfl, of_decide_eq_true (by kernel_rfl)⟩
set_option maxRecDepth 100000 in
theorem lifted (os : Os) (started : os.Started) (H : Type) (enc : TypeId × Value → H) :
    ReturnsInHanded {} Try.checked os 7 .any (Rows.fnDeviceValidSpec.pre6 enc Try.prog Try.f7 Rows.fnDeviceValidRow.domain false) (Rows.fnDeviceValidSpec.post enc Try.prog Try.f7 false true false false) := by
  refine law_lifted (C := Try.checked) (tb := 4) own started (by kernel_rfl) Try.func7 laidOut ?_ spec_ok (by rfl) Try.underlying4
    (ChangeSpec.witness6 (enc := enc) (C := Try.checked) false ⟨#[], #[.slice none 0 0], []⟩ 8 (by kernel_rfl) (by kernel_rfl) (by kernel_rfl) (by kernel_rfl)) ?_
  · rw [Try.params7]
    intro t ht
    simp only [List.mem_cons, List.not_mem_nil, or_false] at ht
    subst ht
    exact rd22
  · intro W base args ds ps hval0 hA0
    have hval : ∀ (j : Nat) t v, Try.f7.params[j]? = some t → args[j]? = some v → Value.okWide Try.prog W .any base t v := hval0
    have hA : DataW.TrodAll enc Try.prog W 0 (fun _ => true) true Try.f7.params.toList args.toList ds ps := hA0
    clear hval0 hA0
    rw [Try.params7] at hA hval
    obtain ⟨v0, vs0, d0, ds0, p0, q0, hargs, rfl, rfl, h0, r0⟩ := trodAll_cons hA
    obtain ⟨rfl, rfl, rfl⟩ := trodAll_nil r0
    obtain rfl : args = #[v0] := by cases args; simp_all
    obtain ⟨x0, rfl, hx0⟩ := open_c Try.underlying22 Try.underlying5 (by kernel_rfl) (hval 0 22 v0 rfl rfl) h0
    exact walk_FnDeviceValid x0 W hx0

theorem over : Rows.fnDeviceValidRow.holds Try.pinned (OpenSpec.ofChange Rows.fnDeviceValidSpec) :=
  OpenClaim.holds_of_wide 7 Try.f7 rfl rfl rfl rfl rfl rfl rfl ⟨rfl, rfl, rfl, rfl, rfl⟩ rfl rfl rfl rfl rfl (by kernel_rfl) Try.func7 (by kernel_rfl)
    (of_decide_eq_true (by kernel_rfl)) (by unfold Func.isWrapper; first | (rw [if_pos (by decide +kernel)]; kernel_rfl) | (rw [if_neg (by decide +kernel)]; exact ⟨rfl, rfl⟩))
    (fun os started H enc _ => lifted os started H enc)

theorem proved : Rows.FnDeviceValidSaid :=
  over
#print axioms proved
end fnDeviceValid
end Go.Proofs.Yteekikaebmkioaa
