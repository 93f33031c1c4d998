/-
  No cell of these rows narrows 'for every input' (looked for: loops, veiled, ifaces, maps, wideKeys, modest, calm, conditions, laid).
  DERIVED. THE GIVEN ROWS OF THIS SEAT. 12 by the template 'for every input the law returns true; each argument reads behind the call as it read before'; 0 by the template 'total and deterministic' (their statements: YtbinphenccnhoaaTotals.lean).
  GIVEN WITH THE SEED: the statements are not yours to turn. If you find one false, say at which input.
  Laid BY PROGRAM, IN A SANDBOX (cutbox-rows.mjs): the forced cells as the released guide's own fill.sh prints them over the translation a6994774f1bfa471… (all of the seat's roots in one cut). By AI agents, Wed Nov 11 2026. No macro, syntax, notation, axiom, sorry.
-/
import Derived.Test.YtbinphenccnhoaaChecked
import GoSem.Claim
import GoSem.ClaimJoined
import GoSem.ClaimMapViews
import Derived.JoinedTies
import Derived.KernelRfl
namespace Go.Proofs.Ytbinphenccnhoaa
/- THE CELL 'sum', in the pinned program and in every row, IS THE sha256 OF THE DUMP (.gsa) THAT YtbinphenccnhoaaProg.lean LOADS. Nothing in Lean hashes anything: it is a label: what it is worth is what the hold of that sum in a sandbox is worth. -/
noncomputable def Try.pinned : Pinned := { name := "ytbinphenccnhoaa", sum := "a6994774f1bfa4715ff7189814d118c7a4c31f4ad78036be6dc1263af78cb3d3", checked := Try.checked }
namespace Rows
def none {H : Type} : Left H := { results := [], args := [] }

/-- 'laws.FnExactBlockValid': WHATEVER THE INPUT: true; the input reads as it did. -/
def fnExactBlockValidSpec : ChangeSpec := { name := "fnExactBlockValid", fn := fun _ => fun
  | [d] => { results := [.lit (.bool true)], args := [d] }
  | _ => none }
def fnExactBlockValidRow : OpenClaim := { program := "ytbinphenccnhoaa", sum := "a6994774f1bfa4715ff7189814d118c7a4c31f4ad78036be6dc1263af78cb3d3", func := "loop.example/flashfiles/laws.FnExactBlockValid", spec := "fnExactBlockValid", apart := false }
def FnExactBlockValidSaid : Prop := fnExactBlockValidRow.holds Try.pinned (OpenSpec.ofChange fnExactBlockValidSpec)

/-- ITS FALSE NEIGHBOUR: 'it returns false'. Refute it at one input. -/
def fnExactBlockValidWrong : ChangeSpec := { name := "fnExactBlockValid", fn := fun _ => fun
  | [d] => { results := [.lit (.bool false)], args := [d] }
  | _ => none }
def FnExactBlockValidWrongFalsely : Prop := fnExactBlockValidRow.holds Try.pinned (OpenSpec.ofChange fnExactBlockValidWrong)

/-- 'laws.FnExactBlockNext': WHATEVER THE INPUT: true; the input reads as it did. -/
def fnExactBlockNextSpec : ChangeSpec := { name := "fnExactBlockNext", fn := fun _ => fun
  | [d] => { results := [.lit (.bool true)], args := [d] }
  | _ => none }
def fnExactBlockNextRow : OpenClaim := { program := "ytbinphenccnhoaa", sum := "a6994774f1bfa4715ff7189814d118c7a4c31f4ad78036be6dc1263af78cb3d3", func := "loop.example/flashfiles/laws.FnExactBlockNext", spec := "fnExactBlockNext", apart := false }
def FnExactBlockNextSaid : Prop := fnExactBlockNextRow.holds Try.pinned (OpenSpec.ofChange fnExactBlockNextSpec)

/-- ITS FALSE NEIGHBOUR: 'it returns false'. Refute it at one input. -/
def fnExactBlockNextWrong : ChangeSpec := { name := "fnExactBlockNext", fn := fun _ => fun
  | [d] => { results := [.lit (.bool false)], args := [d] }
  | _ => none }
def FnExactBlockNextWrongFalsely : Prop := fnExactBlockNextRow.holds Try.pinned (OpenSpec.ofChange fnExactBlockNextWrong)

/-- 'laws.FnExactWriteBlock': WHATEVER THE INPUT: true; the input reads as it did. -/
def fnExactWriteBlockSpec : ChangeSpec := { name := "fnExactWriteBlock", fn := fun _ => fun
  | [d1, d2] => { results := [.lit (.bool true)], args := [d1, d2] }
  | _ => none }
def fnExactWriteBlockRow : OpenClaim := { program := "ytbinphenccnhoaa", sum := "a6994774f1bfa4715ff7189814d118c7a4c31f4ad78036be6dc1263af78cb3d3", func := "loop.example/flashfiles/laws.FnExactWriteBlock", spec := "fnExactWriteBlock", apart := false }
def FnExactWriteBlockSaid : Prop := fnExactWriteBlockRow.holds Try.pinned (OpenSpec.ofChange fnExactWriteBlockSpec)

/-- ITS FALSE NEIGHBOUR: 'it returns false'. Refute it at one input. -/
def fnExactWriteBlockWrong : ChangeSpec := { name := "fnExactWriteBlock", fn := fun _ => fun
  | [d1, d2] => { results := [.lit (.bool false)], args := [d1, d2] }
  | _ => none }
def FnExactWriteBlockWrongFalsely : Prop := fnExactWriteBlockRow.holds Try.pinned (OpenSpec.ofChange fnExactWriteBlockWrong)

/-- 'laws.FnExactDeviceValid': WHATEVER THE INPUT: true; the input reads as it did. -/
def fnExactDeviceValidSpec : ChangeSpec := { name := "fnExactDeviceValid", fn := fun _ => fun
  | [d] => { results := [.lit (.bool true)], args := [d] }
  | _ => none }
def fnExactDeviceValidRow : OpenClaim := { program := "ytbinphenccnhoaa", sum := "a6994774f1bfa4715ff7189814d118c7a4c31f4ad78036be6dc1263af78cb3d3", func := "loop.example/flashfiles/laws.FnExactDeviceValid", spec := "fnExactDeviceValid", apart := false }
def FnExactDeviceValidSaid : Prop := fnExactDeviceValidRow.holds Try.pinned (OpenSpec.ofChange fnExactDeviceValidSpec)

/-- ITS FALSE NEIGHBOUR: 'it returns false'. Refute it at one input. -/
def fnExactDeviceValidWrong : ChangeSpec := { name := "fnExactDeviceValid", fn := fun _ => fun
  | [d] => { results := [.lit (.bool false)], args := [d] }
  | _ => none }
def FnExactDeviceValidWrongFalsely : Prop := fnExactDeviceValidRow.holds Try.pinned (OpenSpec.ofChange fnExactDeviceValidWrong)

/-- 'laws.FnExactReadPage': WHATEVER THE INPUT: true; the input reads as it did. -/
def fnExactReadPageSpec : ChangeSpec := { name := "fnExactReadPage", fn := fun _ => fun
  | [d1, d2] => { results := [.lit (.bool true)], args := [d1, d2] }
  | _ => none }
def fnExactReadPageRow : OpenClaim := { program := "ytbinphenccnhoaa", sum := "a6994774f1bfa4715ff7189814d118c7a4c31f4ad78036be6dc1263af78cb3d3", func := "loop.example/flashfiles/laws.FnExactReadPage", spec := "fnExactReadPage", apart := false }
def FnExactReadPageSaid : Prop := fnExactReadPageRow.holds Try.pinned (OpenSpec.ofChange fnExactReadPageSpec)

/-- ITS FALSE NEIGHBOUR: 'it returns false'. Refute it at one input. -/
def fnExactReadPageWrong : ChangeSpec := { name := "fnExactReadPage", fn := fun _ => fun
  | [d1, d2] => { results := [.lit (.bool false)], args := [d1, d2] }
  | _ => none }
def FnExactReadPageWrongFalsely : Prop := fnExactReadPageRow.holds Try.pinned (OpenSpec.ofChange fnExactReadPageWrong)

/-- 'laws.FnExactFreePages': WHATEVER THE INPUT: true; the input reads as it did. -/
def fnExactFreePagesSpec : ChangeSpec := { name := "fnExactFreePages", fn := fun _ => fun
  | [d] => { results := [.lit (.bool true)], args := [d] }
  | _ => none }
def fnExactFreePagesRow : OpenClaim := { program := "ytbinphenccnhoaa", sum := "a6994774f1bfa4715ff7189814d118c7a4c31f4ad78036be6dc1263af78cb3d3", func := "loop.example/flashfiles/laws.FnExactFreePages", spec := "fnExactFreePages", apart := false }
def FnExactFreePagesSaid : Prop := fnExactFreePagesRow.holds Try.pinned (OpenSpec.ofChange fnExactFreePagesSpec)

/-- ITS FALSE NEIGHBOUR: 'it returns false'. Refute it at one input. -/
def fnExactFreePagesWrong : ChangeSpec := { name := "fnExactFreePages", fn := fun _ => fun
  | [d] => { results := [.lit (.bool false)], args := [d] }
  | _ => none }
def FnExactFreePagesWrongFalsely : Prop := fnExactFreePagesRow.holds Try.pinned (OpenSpec.ofChange fnExactFreePagesWrong)

/-- 'laws.FnExactEraseAt': WHATEVER THE INPUT: true; the input reads as it did. -/
def fnExactEraseAtSpec : ChangeSpec := { name := "fnExactEraseAt", fn := fun _ => fun
  | [d1, d2] => { results := [.lit (.bool true)], args := [d1, d2] }
  | _ => none }
def fnExactEraseAtRow : OpenClaim := { program := "ytbinphenccnhoaa", sum := "a6994774f1bfa4715ff7189814d118c7a4c31f4ad78036be6dc1263af78cb3d3", func := "loop.example/flashfiles/laws.FnExactEraseAt", spec := "fnExactEraseAt", apart := false }
def FnExactEraseAtSaid : Prop := fnExactEraseAtRow.holds Try.pinned (OpenSpec.ofChange fnExactEraseAtSpec)

/-- ITS FALSE NEIGHBOUR: 'it returns false'. Refute it at one input. -/
def fnExactEraseAtWrong : ChangeSpec := { name := "fnExactEraseAt", fn := fun _ => fun
  | [d1, d2] => { results := [.lit (.bool false)], args := [d1, d2] }
  | _ => none }
def FnExactEraseAtWrongFalsely : Prop := fnExactEraseAtRow.holds Try.pinned (OpenSpec.ofChange fnExactEraseAtWrong)

/-- 'laws.FnExactProgram': WHATEVER THE INPUT: true; the input reads as it did. -/
def fnExactProgramSpec : ChangeSpec := { name := "fnExactProgram", fn := fun _ => fun
  | [d1, d2, d3] => { results := [.lit (.bool true)], args := [d1, d2, d3] }
  | _ => none }
def fnExactProgramRow : OpenClaim := { program := "ytbinphenccnhoaa", sum := "a6994774f1bfa4715ff7189814d118c7a4c31f4ad78036be6dc1263af78cb3d3", func := "loop.example/flashfiles/laws.FnExactProgram", spec := "fnExactProgram", apart := false }
def FnExactProgramSaid : Prop := fnExactProgramRow.holds Try.pinned (OpenSpec.ofChange fnExactProgramSpec)

/-- ITS FALSE NEIGHBOUR: 'it returns false'. Refute it at one input. -/
def fnExactProgramWrong : ChangeSpec := { name := "fnExactProgram", fn := fun _ => fun
  | [d1, d2, d3] => { results := [.lit (.bool false)], args := [d1, d2, d3] }
  | _ => none }
def FnExactProgramWrongFalsely : Prop := fnExactProgramRow.holds Try.pinned (OpenSpec.ofChange fnExactProgramWrong)

/-- 'laws.FnExactHeadsValid': WHATEVER THE INPUT: true; the input reads as it did. -/
def fnExactHeadsValidSpec : ChangeSpec := { name := "fnExactHeadsValid", fn := fun _ => fun
  | [d1, d2] => { results := [.lit (.bool true)], args := [d1, d2] }
  | _ => none }
def fnExactHeadsValidRow : OpenClaim := { program := "ytbinphenccnhoaa", sum := "a6994774f1bfa4715ff7189814d118c7a4c31f4ad78036be6dc1263af78cb3d3", func := "loop.example/flashfiles/laws.FnExactHeadsValid", spec := "fnExactHeadsValid", apart := false }
def FnExactHeadsValidSaid : Prop := fnExactHeadsValidRow.holds Try.pinned (OpenSpec.ofChange fnExactHeadsValidSpec)

/-- ITS FALSE NEIGHBOUR: 'it returns false'. Refute it at one input. -/
def fnExactHeadsValidWrong : ChangeSpec := { name := "fnExactHeadsValid", fn := fun _ => fun
  | [d1, d2] => { results := [.lit (.bool false)], args := [d1, d2] }
  | _ => none }
def FnExactHeadsValidWrongFalsely : Prop := fnExactHeadsValidRow.holds Try.pinned (OpenSpec.ofChange fnExactHeadsValidWrong)

/-- 'laws.FnExactHeadOf': WHATEVER THE INPUT: true; the input reads as it did. -/
def fnExactHeadOfSpec : ChangeSpec := { name := "fnExactHeadOf", fn := fun _ => fun
  | [d1, d2, d3] => { results := [.lit (.bool true)], args := [d1, d2, d3] }
  | _ => none }
def fnExactHeadOfRow : OpenClaim := { program := "ytbinphenccnhoaa", sum := "a6994774f1bfa4715ff7189814d118c7a4c31f4ad78036be6dc1263af78cb3d3", func := "loop.example/flashfiles/laws.FnExactHeadOf", spec := "fnExactHeadOf", apart := false }
def FnExactHeadOfSaid : Prop := fnExactHeadOfRow.holds Try.pinned (OpenSpec.ofChange fnExactHeadOfSpec)

/-- ITS FALSE NEIGHBOUR: 'it returns false'. Refute it at one input. -/
def fnExactHeadOfWrong : ChangeSpec := { name := "fnExactHeadOf", fn := fun _ => fun
  | [d1, d2, d3] => { results := [.lit (.bool false)], args := [d1, d2, d3] }
  | _ => none }
def FnExactHeadOfWrongFalsely : Prop := fnExactHeadOfRow.holds Try.pinned (OpenSpec.ofChange fnExactHeadOfWrong)

/-- 'laws.FnExactFreshBlock': WHATEVER THE INPUT: true; the input reads as it did. -/
def fnExactFreshBlockSpec : ChangeSpec := { name := "fnExactFreshBlock", fn := fun _ => fun
  | [d1, d2] => { results := [.lit (.bool true)], args := [d1, d2] }
  | _ => none }
def fnExactFreshBlockRow : OpenClaim := { program := "ytbinphenccnhoaa", sum := "a6994774f1bfa4715ff7189814d118c7a4c31f4ad78036be6dc1263af78cb3d3", func := "loop.example/flashfiles/laws.FnExactFreshBlock", spec := "fnExactFreshBlock", apart := false }
def FnExactFreshBlockSaid : Prop := fnExactFreshBlockRow.holds Try.pinned (OpenSpec.ofChange fnExactFreshBlockSpec)

/-- ITS FALSE NEIGHBOUR: 'it returns false'. Refute it at one input. -/
def fnExactFreshBlockWrong : ChangeSpec := { name := "fnExactFreshBlock", fn := fun _ => fun
  | [d1, d2] => { results := [.lit (.bool false)], args := [d1, d2] }
  | _ => none }
def FnExactFreshBlockWrongFalsely : Prop := fnExactFreshBlockRow.holds Try.pinned (OpenSpec.ofChange fnExactFreshBlockWrong)

/-- 'laws.FnExactAppendPage': WHATEVER THE INPUT: true; the input reads as it did. -/
def fnExactAppendPageSpec : ChangeSpec := { name := "fnExactAppendPage", fn := fun _ => fun
  | [d1, d2, d3, d4] => { results := [.lit (.bool true)], args := [d1, d2, d3, d4] }
  | _ => none }
def fnExactAppendPageRow : OpenClaim := { program := "ytbinphenccnhoaa", sum := "a6994774f1bfa4715ff7189814d118c7a4c31f4ad78036be6dc1263af78cb3d3", func := "loop.example/flashfiles/laws.FnExactAppendPage", spec := "fnExactAppendPage", apart := false }
def FnExactAppendPageSaid : Prop := fnExactAppendPageRow.holds Try.pinned (OpenSpec.ofChange fnExactAppendPageSpec)

/-- ITS FALSE NEIGHBOUR: 'it returns false'. Refute it at one input. -/
def fnExactAppendPageWrong : ChangeSpec := { name := "fnExactAppendPage", fn := fun _ => fun
  | [d1, d2, d3, d4] => { results := [.lit (.bool false)], args := [d1, d2, d3, d4] }
  | _ => none }
def FnExactAppendPageWrongFalsely : Prop := fnExactAppendPageRow.holds Try.pinned (OpenSpec.ofChange fnExactAppendPageWrong)

/- THE SECOND FORM. 'bulk': how many values and letters a reading holds, each counted each time it is reached (what is shared counts as often as it is met; a slice's spare places count too). A statement '..UptoSaid' is the law's where the arguments, and the package variables that the reading takes, are together of bulk at most 1048576: NARROWER than '..Said'. Prove '..Said' where nothing that the law and all that it calls make is longer than what came in: it says more and counts as full. Else prove '..UptoSaid'. A law counts once. -/
mutual
def uptoBulk {H : Type} : DataW H → Nat
  | .lit (.string bytes) => bytes.length + 1
  | .lit _ => 1
  | .nil => 1
  | .ptr d => uptoBulk d + 1
  | .slice elems spare => uptoBulkAll elems + uptoBulkAll spare + 1
  | .agg parts => uptoBulkAll parts + 1
  | .iface _ d => uptoBulk d + 1
  | .map entries => uptoBulkEntries entries + 1
  | .held _ => 1
def uptoBulkAll {H : Type} : List (DataW H) → Nat
  | [] => 0
  | d :: r => uptoBulk d + uptoBulkAll r
def uptoBulkEntries {H : Type} : List (Lit × DataW H) → Nat
  | [] => 0
  | x :: r => uptoBulkEntry x + uptoBulkEntries r
def uptoBulkEntry {H : Type} : Lit × DataW H → Nat
  | (.string bytes, d) => bytes.length + uptoBulk d + 1
  | (_, d) => uptoBulk d + 1
 end
def uptoSmall : (H : Type) → List (DataW H) → Bool := fun _ ds => decide (uptoBulkAll ds ≤ 1048576)
def OpenSpec.upto (s : _root_.Go.ChangeSpec) : _root_.Go.OpenSpec := { _root_.Go.OpenSpec.ofChange s with cond := some uptoSmall }

/-- 'laws.FnExactBlockValid', WHERE WHAT IT READS IS OF BULK AT MOST 1048576: true; the input reads as it did. -/
def fnExactBlockValidUptoRow : OpenClaim := { program := "ytbinphenccnhoaa", sum := "a6994774f1bfa4715ff7189814d118c7a4c31f4ad78036be6dc1263af78cb3d3", func := "loop.example/flashfiles/laws.FnExactBlockValid", spec := "fnExactBlockValid", apart := false, narrowed := true }
def FnExactBlockValidUptoSaid : Prop := fnExactBlockValidUptoRow.holds Try.pinned (OpenSpec.upto fnExactBlockValidSpec)

/-- 'laws.FnExactBlockNext', WHERE WHAT IT READS IS OF BULK AT MOST 1048576: true; the input reads as it did. -/
def fnExactBlockNextUptoRow : OpenClaim := { program := "ytbinphenccnhoaa", sum := "a6994774f1bfa4715ff7189814d118c7a4c31f4ad78036be6dc1263af78cb3d3", func := "loop.example/flashfiles/laws.FnExactBlockNext", spec := "fnExactBlockNext", apart := false, narrowed := true }
def FnExactBlockNextUptoSaid : Prop := fnExactBlockNextUptoRow.holds Try.pinned (OpenSpec.upto fnExactBlockNextSpec)

/-- 'laws.FnExactWriteBlock', WHERE WHAT IT READS IS OF BULK AT MOST 1048576: true; the input reads as it did. -/
def fnExactWriteBlockUptoRow : OpenClaim := { program := "ytbinphenccnhoaa", sum := "a6994774f1bfa4715ff7189814d118c7a4c31f4ad78036be6dc1263af78cb3d3", func := "loop.example/flashfiles/laws.FnExactWriteBlock", spec := "fnExactWriteBlock", apart := false, narrowed := true }
def FnExactWriteBlockUptoSaid : Prop := fnExactWriteBlockUptoRow.holds Try.pinned (OpenSpec.upto fnExactWriteBlockSpec)

/-- 'laws.FnExactDeviceValid', WHERE WHAT IT READS IS OF BULK AT MOST 1048576: true; the input reads as it did. -/
def fnExactDeviceValidUptoRow : OpenClaim := { program := "ytbinphenccnhoaa", sum := "a6994774f1bfa4715ff7189814d118c7a4c31f4ad78036be6dc1263af78cb3d3", func := "loop.example/flashfiles/laws.FnExactDeviceValid", spec := "fnExactDeviceValid", apart := false, narrowed := true }
def FnExactDeviceValidUptoSaid : Prop := fnExactDeviceValidUptoRow.holds Try.pinned (OpenSpec.upto fnExactDeviceValidSpec)

/-- 'laws.FnExactReadPage', WHERE WHAT IT READS IS OF BULK AT MOST 1048576: true; the input reads as it did. -/
def fnExactReadPageUptoRow : OpenClaim := { program := "ytbinphenccnhoaa", sum := "a6994774f1bfa4715ff7189814d118c7a4c31f4ad78036be6dc1263af78cb3d3", func := "loop.example/flashfiles/laws.FnExactReadPage", spec := "fnExactReadPage", apart := false, narrowed := true }
def FnExactReadPageUptoSaid : Prop := fnExactReadPageUptoRow.holds Try.pinned (OpenSpec.upto fnExactReadPageSpec)

/-- 'laws.FnExactFreePages', WHERE WHAT IT READS IS OF BULK AT MOST 1048576: true; the input reads as it did. -/
def fnExactFreePagesUptoRow : OpenClaim := { program := "ytbinphenccnhoaa", sum := "a6994774f1bfa4715ff7189814d118c7a4c31f4ad78036be6dc1263af78cb3d3", func := "loop.example/flashfiles/laws.FnExactFreePages", spec := "fnExactFreePages", apart := false, narrowed := true }
def FnExactFreePagesUptoSaid : Prop := fnExactFreePagesUptoRow.holds Try.pinned (OpenSpec.upto fnExactFreePagesSpec)

/-- 'laws.FnExactEraseAt', WHERE WHAT IT READS IS OF BULK AT MOST 1048576: true; the input reads as it did. -/
def fnExactEraseAtUptoRow : OpenClaim := { program := "ytbinphenccnhoaa", sum := "a6994774f1bfa4715ff7189814d118c7a4c31f4ad78036be6dc1263af78cb3d3", func := "loop.example/flashfiles/laws.FnExactEraseAt", spec := "fnExactEraseAt", apart := false, narrowed := true }
def FnExactEraseAtUptoSaid : Prop := fnExactEraseAtUptoRow.holds Try.pinned (OpenSpec.upto fnExactEraseAtSpec)

/-- 'laws.FnExactProgram', WHERE WHAT IT READS IS OF BULK AT MOST 1048576: true; the input reads as it did. -/
def fnExactProgramUptoRow : OpenClaim := { program := "ytbinphenccnhoaa", sum := "a6994774f1bfa4715ff7189814d118c7a4c31f4ad78036be6dc1263af78cb3d3", func := "loop.example/flashfiles/laws.FnExactProgram", spec := "fnExactProgram", apart := false, narrowed := true }
def FnExactProgramUptoSaid : Prop := fnExactProgramUptoRow.holds Try.pinned (OpenSpec.upto fnExactProgramSpec)

/-- 'laws.FnExactHeadsValid', WHERE WHAT IT READS IS OF BULK AT MOST 1048576: true; the input reads as it did. -/
def fnExactHeadsValidUptoRow : OpenClaim := { program := "ytbinphenccnhoaa", sum := "a6994774f1bfa4715ff7189814d118c7a4c31f4ad78036be6dc1263af78cb3d3", func := "loop.example/flashfiles/laws.FnExactHeadsValid", spec := "fnExactHeadsValid", apart := false, narrowed := true }
def FnExactHeadsValidUptoSaid : Prop := fnExactHeadsValidUptoRow.holds Try.pinned (OpenSpec.upto fnExactHeadsValidSpec)

/-- 'laws.FnExactHeadOf', WHERE WHAT IT READS IS OF BULK AT MOST 1048576: true; the input reads as it did. -/
def fnExactHeadOfUptoRow : OpenClaim := { program := "ytbinphenccnhoaa", sum := "a6994774f1bfa4715ff7189814d118c7a4c31f4ad78036be6dc1263af78cb3d3", func := "loop.example/flashfiles/laws.FnExactHeadOf", spec := "fnExactHeadOf", apart := false, narrowed := true }
def FnExactHeadOfUptoSaid : Prop := fnExactHeadOfUptoRow.holds Try.pinned (OpenSpec.upto fnExactHeadOfSpec)

/-- 'laws.FnExactFreshBlock', WHERE WHAT IT READS IS OF BULK AT MOST 1048576: true; the input reads as it did. -/
def fnExactFreshBlockUptoRow : OpenClaim := { program := "ytbinphenccnhoaa", sum := "a6994774f1bfa4715ff7189814d118c7a4c31f4ad78036be6dc1263af78cb3d3", func := "loop.example/flashfiles/laws.FnExactFreshBlock", spec := "fnExactFreshBlock", apart := false, narrowed := true }
def FnExactFreshBlockUptoSaid : Prop := fnExactFreshBlockUptoRow.holds Try.pinned (OpenSpec.upto fnExactFreshBlockSpec)

/-- 'laws.FnExactAppendPage', WHERE WHAT IT READS IS OF BULK AT MOST 1048576: true; the input reads as it did. -/
def fnExactAppendPageUptoRow : OpenClaim := { program := "ytbinphenccnhoaa", sum := "a6994774f1bfa4715ff7189814d118c7a4c31f4ad78036be6dc1263af78cb3d3", func := "loop.example/flashfiles/laws.FnExactAppendPage", spec := "fnExactAppendPage", apart := false, narrowed := true }
def FnExactAppendPageUptoSaid : Prop := fnExactAppendPageUptoRow.holds Try.pinned (OpenSpec.upto fnExactAppendPageSpec)

end Rows
end Go.Proofs.Ytbinphenccnhoaa
