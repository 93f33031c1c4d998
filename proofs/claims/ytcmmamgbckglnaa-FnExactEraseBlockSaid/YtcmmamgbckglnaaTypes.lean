/-auto The types of pages, blocks and heads that come in. -/
import Derived.Test.YtcmmamgbckglnaaOpenB
import Derived.Test.YtcmmamgbckglnaaProg
namespace Go.Proofs.Ytcmmamgbckglnaa

theorem tyLP : PgTy Try.prog 70 := ⟨_, _, _, _, _, 4, 3, Try.underlying70, by kernel_rfl, by kernel_rfl, Try.underlying4, Try.underlying3⟩
theorem tyLB : BlTy Try.prog 35 := ⟨_, _, 3, 33, 70, Try.underlying35, by kernel_rfl, by kernel_rfl, Try.underlying3, Try.underlying33, tyLP⟩

end Go.Proofs.Ytcmmamgbckglnaa
