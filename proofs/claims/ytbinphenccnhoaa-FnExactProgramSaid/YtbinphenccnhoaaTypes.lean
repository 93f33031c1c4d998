/-auto The types of pages, blocks and heads that come in. -/
import Derived.Test.YtbinphenccnhoaaOpenB
import Derived.Test.YtbinphenccnhoaaProg
namespace Go.Proofs.Ytbinphenccnhoaa

theorem tyLP : PgTy Try.prog 35 := ⟨_, _, _, _, _, 4, 3, Try.underlying35, by kernel_rfl, by kernel_rfl, Try.underlying4, Try.underlying3⟩
theorem tyLB : BlTy Try.prog 24 := ⟨_, _, 3, 22, 35, Try.underlying24, by kernel_rfl, by kernel_rfl, Try.underlying3, Try.underlying22, tyLP⟩

theorem tyLH : HdTy Try.prog 61 := ⟨_, _, _, 3, Try.underlying61, by kernel_rfl, by kernel_rfl, Try.underlying3⟩

end Go.Proofs.Ytbinphenccnhoaa
