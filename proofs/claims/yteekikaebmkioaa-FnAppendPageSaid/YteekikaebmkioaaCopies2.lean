/-auto What the laws' own helpers on devices return: sizes, copies, comparisons. -/
import Derived.Test.YteekikaebmkioaaMem3
import Derived.Test.YteekikaebmkioaaCopies
namespace Go.Proofs.Yteekikaebmkioaa
open Go.RowKit
set_option linter.unusedVariables false

end Go.Proofs.Yteekikaebmkioaa
