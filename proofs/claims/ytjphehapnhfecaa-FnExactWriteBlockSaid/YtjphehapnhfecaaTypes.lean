/-auto The types of pages, blocks and heads that come in. -/
import Derived.Test.YtjphehapnhfecaaOpenB
import Derived.Test.YtjphehapnhfecaaProg
namespace Go.Proofs.Ytjphehapnhfecaa

theorem tyLP : PgTy Try.prog 26 := ⟨_, _, _, _, _, 4, 3, Try.underlying26, by kernel_rfl, by kernel_rfl, Try.underlying4, Try.underlying3⟩
theorem tyLB : BlTy Try.prog 24 := ⟨_, _, 3, 22, 26, Try.underlying24, by kernel_rfl, by kernel_rfl, Try.underlying3, Try.underlying22, tyLP⟩

theorem tyLH : HdTy Try.prog 41 := ⟨_, _, _, 3, Try.underlying41, by kernel_rfl, by kernel_rfl, Try.underlying3⟩

end Go.Proofs.Ytjphehapnhfecaa
