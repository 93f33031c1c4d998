/-auto What the laws' own helpers on pages and blocks return: sizes, copies, comparisons. -/
import Derived.Test.YteekikaebmkioaaMem2
import Derived.Test.YteekikaebmkioaaPages2
import Derived.Test.YteekikaebmkioaaRegs2
namespace Go.Proofs.Yteekikaebmkioaa
open Go.RowKit
set_option linter.unusedVariables false

end Go.Proofs.Yteekikaebmkioaa
