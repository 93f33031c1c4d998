/- What the program's and the reference's functions on pages return, for every page. -/
import Derived.Test.YteekikaebmkioaaSets
import Derived.Test.YteekikaebmkioaaPagesPlain
import Derived.Laws.StructEq
namespace Go.Proofs.Yteekikaebmkioaa
open Go.RowKit
set_option linter.unusedVariables false

theorem bcell {W w1 : World} (hb : Below W.heap.size W w1) : (∀ b o, b < W.heap.size → w1.cell? ⟨b, o, none⟩ = W.cell? ⟨b, o, none⟩) ∧ (∀ b o, b < W.heap.size → w1.frozen? ⟨b, o, none⟩ = W.frozen? ⟨b, o, none⟩) :=
  ⟨fun b o h => hb.cell (p := ⟨b, o, none⟩) h, fun b o h => hb.frozen (p := ⟨b, o, none⟩) h⟩

set_option maxHeartbeats 1000000 in
theorem iPageValid (b : Bool) (f p v s : Int) (w : World) :
    Calls Try.prog 57 #[.agg #[.bool b, .int .i64 f, .int .i64 p, .int .i64 v, .int .i64 s]] w fun e w' => e = .returned (.bool (pageValidF ⟨b, f, p, v, s⟩)) ∧ Below w.heap.size w w' := by
  cases b
  · by_cases e1 : f = 0
    · by_cases e2 : p = 0
      · by_cases e3 : v = 0
        · by_cases e4 : s = 0
          · subst e1 e2 e3 e4
            go_enter Try.func57, Try.ntmps57
            go_wp2
            go_ret
            exact ⟨ret_bool (by rw [pv_zero]), (Below.refl _ _).alloc (Nat.le_refl _) _⟩
          · have HF := Lib.hid (pv_empty f p v s (by omega))
            have b4 : (s == 0) = false := by simpa using e4
            subst e1 e2 e3
            go_enter Try.func57, Try.ntmps57
            go_wp2
            go_ret
            exact ⟨by rw [HF.out]; rfl, (Below.refl _ _).alloc (Nat.le_refl _) _⟩
        · have HF := Lib.hid (pv_empty f p v s (by omega))
          have b4 : (v == 0) = false := by simpa using e3
          subst e1 e2
          go_enter Try.func57, Try.ntmps57
          go_wp2
          go_ret
          exact ⟨by rw [HF.out]; rfl, (Below.refl _ _).alloc (Nat.le_refl _) _⟩
      · have HF := Lib.hid (pv_empty f p v s (by omega))
        have b4 : (p == 0) = false := by simpa using e2
        subst e1
        go_enter Try.func57, Try.ntmps57
        go_wp2
        go_ret
        exact ⟨by rw [HF.out]; rfl, (Below.refl _ _).alloc (Nat.le_refl _) _⟩
    · have HF := Lib.hid (pv_empty f p v s (by omega))
      have b4 : (f == 0) = false := by simpa using e1
      go_enter Try.func57, Try.ntmps57
      go_wp2
      go_ret
      exact ⟨by rw [HF.out]; rfl, (Below.refl _ _).alloc (Nat.le_refl _) _⟩
  · by_cases hin : ((0 ≤ f ∧ f < 8) ∧ 0 ≤ p ∧ p ≤ 5) ∧ (0 ≤ v ∧ v ≤ 9999) ∧ 1 ≤ s ∧ s ≤ 1000000
    · have HF := Lib.hid (pv_in f p v s hin)
      obtain ⟨⟨⟨h1, h2⟩, h3, h4⟩, ⟨h5, h6⟩, h7, h8⟩ := hin
      go_enter Try.func57, Try.ntmps57
      go_wp2
      go_ret
      exact ⟨by rw [HF.out]; rfl, (Below.refl _ _).alloc (Nat.le_refl _) _⟩
    · have HF := Lib.hid (pv_out f p v s hin)
      by_cases h1 : 0 ≤ f
      · by_cases h2 : f < 8
        · by_cases h3 : 0 ≤ p
          · by_cases h4 : p ≤ 5
            · by_cases h5 : 0 ≤ v
              · by_cases h6 : v ≤ 9999
                · by_cases h7 : 1 ≤ s
                  · have h8 : ¬ s ≤ 1000000 := by omega
                    clear hin
                    go_enter Try.func57, Try.ntmps57
                    go_wp2
                    go_ret
                    exact ⟨by rw [HF.out]; rfl, (Below.refl _ _).alloc (Nat.le_refl _) _⟩
                  · clear hin
                    go_enter Try.func57, Try.ntmps57
                    go_wp2
                    go_ret
                    exact ⟨by rw [HF.out]; rfl, (Below.refl _ _).alloc (Nat.le_refl _) _⟩
                · clear hin
                  go_enter Try.func57, Try.ntmps57
                  go_wp2
                  go_ret
                  exact ⟨by rw [HF.out]; rfl, (Below.refl _ _).alloc (Nat.le_refl _) _⟩
              · clear hin
                go_enter Try.func57, Try.ntmps57
                go_wp2
                go_ret
                exact ⟨by rw [HF.out]; rfl, (Below.refl _ _).alloc (Nat.le_refl _) _⟩
            · clear hin
              go_enter Try.func57, Try.ntmps57
              go_wp2
              go_ret
              exact ⟨by rw [HF.out]; rfl, (Below.refl _ _).alloc (Nat.le_refl _) _⟩
          · clear hin
            go_enter Try.func57, Try.ntmps57
            go_wp2
            go_ret
            exact ⟨by rw [HF.out]; rfl, (Below.refl _ _).alloc (Nat.le_refl _) _⟩
        · clear hin
          go_enter Try.func57, Try.ntmps57
          go_wp2
          go_ret
          exact ⟨by rw [HF.out]; rfl, (Below.refl _ _).alloc (Nat.le_refl _) _⟩
      · clear hin
        go_enter Try.func57, Try.ntmps57
        go_wp2
        go_ret
        exact ⟨by rw [HF.out]; rfl, (Below.refl _ _).alloc (Nat.le_refl _) _⟩

set_option maxHeartbeats 1000000 in
theorem sPageValid (b : Bool) (f p v s : Int) (w : World) :
    Calls Try.prog 58 #[.agg #[.bool b, .int .i64 f, .int .i64 p, .int .i64 v, .int .i64 s]] w fun e w' => e = .returned (.bool (pageValidF ⟨b, f, p, v, s⟩)) ∧ Below w.heap.size w w' := by
  cases b
  · by_cases e1 : f = 0
    · by_cases e2 : p = 0
      · by_cases e3 : v = 0
        · by_cases e4 : s = 0
          · subst e1 e2 e3 e4
            go_enter Try.func58, Try.ntmps58
            go_wp2
            go_ret
            exact ⟨ret_bool (by rw [pv_zero]), (Below.refl _ _).alloc (Nat.le_refl _) _⟩
          · have HF := Lib.hid (pv_empty f p v s (by omega))
            have b4 : (s == 0) = false := by simpa using e4
            subst e1 e2 e3
            go_enter Try.func58, Try.ntmps58
            go_wp2
            go_ret
            exact ⟨by rw [HF.out]; rfl, (Below.refl _ _).alloc (Nat.le_refl _) _⟩
        · have HF := Lib.hid (pv_empty f p v s (by omega))
          have b4 : (v == 0) = false := by simpa using e3
          subst e1 e2
          go_enter Try.func58, Try.ntmps58
          go_wp2
          go_ret
          exact ⟨by rw [HF.out]; rfl, (Below.refl _ _).alloc (Nat.le_refl _) _⟩
      · have HF := Lib.hid (pv_empty f p v s (by omega))
        have b4 : (p == 0) = false := by simpa using e2
        subst e1
        go_enter Try.func58, Try.ntmps58
        go_wp2
        go_ret
        exact ⟨by rw [HF.out]; rfl, (Below.refl _ _).alloc (Nat.le_refl _) _⟩
    · have HF := Lib.hid (pv_empty f p v s (by omega))
      have b4 : (f == 0) = false := by simpa using e1
      go_enter Try.func58, Try.ntmps58
      go_wp2
      go_ret
      exact ⟨by rw [HF.out]; rfl, (Below.refl _ _).alloc (Nat.le_refl _) _⟩
  · have HF := Lib.hid (pv_full f p v s)
    cases e1 : inB f 0 7
    all_goals cases e2 : inB p 0 5
    all_goals cases e3 : inB v 0 9999
    all_goals cases e4 : inB s 1 1000000
    all_goals
      have HG := HF
      rw [e1, e2, e3, e4] at HG
      clear HF
      go_enter Try.func58, Try.ntmps58
      go_wp2_with (go_at_call 59; refine (l1In_any _ _ _ _).mono ?_; rintro e w' ⟨rfl, rfl⟩)
      go_ret
      exact ⟨by rw [HG.out]; rfl, (Below.refl _ _).alloc (Nat.le_refl _) _⟩
end Go.Proofs.Yteekikaebmkioaa
