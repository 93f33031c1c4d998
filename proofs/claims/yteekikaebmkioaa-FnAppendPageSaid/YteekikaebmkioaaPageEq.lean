/- What '==' and '!=' on two pages give. -/
import Derived.Test.YteekikaebmkioaaPages2
namespace Go.Proofs.Yteekikaebmkioaa
open Go.RowKit
set_option linter.unusedVariables false

theorem equalIn_page (b0 : Bool) (f0 p0 v0 s0 : Int) (b1 : Bool) (f1 p1 v1 s1 : Int) (w : World) :
    (Op.equalIn 10000 32 (.agg #[.bool b0, .int .i64 f0, .int .i64 p0, .int .i64 v0, .int .i64 s0]) (.agg #[.bool b1, .int .i64 f1, .int .i64 p1, .int .i64 v1, .int .i64 s1])).run Try.prog w = .ok (pgEq ⟨b0, f0, p0, v0, s0⟩ ⟨b1, f1, p1, v1, s1⟩) w := by
  by_cases hall : b0 = b1 ∧ f0 = f1 ∧ p0 = p1 ∧ v0 = v1 ∧ s0 = s1
  · obtain ⟨rfl, rfl, rfl, rfl, rfl⟩ := hall
    rw [pgEq_refl]
    simp [go_sem]
  · rw [pgEq_no _ _ hall]
    by_cases h1 : b0 = b1
    · by_cases h2 : f0 = f1
      · by_cases h3 : p0 = p1
        · by_cases h4 : v0 = v1
          · have h5 : (s0 == s1) = false := by rw [beq_eq_false_iff_ne]; intro h5; exact hall ⟨h1, h2, h3, h4, h5⟩
            subst h1 h2 h3 h4
            simp [go_sem, h5]
          · have h5 : (v0 == v1) = false := by rw [beq_eq_false_iff_ne]; exact h4
            subst h1 h2 h3
            simp [go_sem, h5]
        · have h5 : (p0 == p1) = false := by rw [beq_eq_false_iff_ne]; exact h3
          subst h1 h2
          simp [go_sem, h5]
      · have h5 : (f0 == f1) = false := by rw [beq_eq_false_iff_ne]; exact h2
        subst h1
        simp [go_sem, h5]
    · have h5 : (b0 == b1) = false := by rw [beq_eq_false_iff_ne]; exact h1
      simp [go_sem, h5]
theorem eql_page (b0 : Bool) (f0 p0 v0 s0 : Int) (b1 : Bool) (f1 p1 v1 s1 : Int) (w : World) :
    (binOp .eql 32 (.agg #[.bool b0, .int .i64 f0, .int .i64 p0, .int .i64 v0, .int .i64 s0]) (.agg #[.bool b1, .int .i64 f1, .int .i64 p1, .int .i64 v1, .int .i64 s1])).run Try.prog w = .ok (.bool (pgEq ⟨b0, f0, p0, v0, s0⟩ ⟨b1, f1, p1, v1, s1⟩)) w := by
  rw [run_eql_struct, equalIn_page]; rfl
theorem neq_page (b0 : Bool) (f0 p0 v0 s0 : Int) (b1 : Bool) (f1 p1 v1 s1 : Int) (w : World) :
    (binOp .neq 32 (.agg #[.bool b0, .int .i64 f0, .int .i64 p0, .int .i64 v0, .int .i64 s0]) (.agg #[.bool b1, .int .i64 f1, .int .i64 p1, .int .i64 v1, .int .i64 s1])).run Try.prog w = .ok (.bool (!pgEq ⟨b0, f0, p0, v0, s0⟩ ⟨b1, f1, p1, v1, s1⟩)) w := by
  rw [run_neq_struct, equalIn_page]; rfl
end Go.Proofs.Yteekikaebmkioaa
