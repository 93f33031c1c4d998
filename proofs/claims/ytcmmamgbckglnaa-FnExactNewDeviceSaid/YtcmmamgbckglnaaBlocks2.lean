/-auto What the program's and the reference's BlockNext return. -/
import Derived.Test.YtcmmamgbckglnaaBlocks
namespace Go.Proofs.Ytcmmamgbckglnaa
open Go.RowKit
set_option linter.unusedVariables false

end Go.Proofs.Ytcmmamgbckglnaa
