/-
  No cell of these rows narrows 'for every input' (looked for: loops, veiled, ifaces, maps, wideKeys, modest, calm, conditions, laid).
  DERIVED. THE GIVEN ROWS OF THIS SEAT. 12 by the template 'for every input the law returns true; each argument reads behind the call as it read before'; 0 by the template 'total and deterministic' (their statements: YteekikaebmkioaaTotals.lean).
  GIVEN WITH THE SEED: the statements are not yours to turn. If you find one false, say at which input.
  Laid BY PROGRAM, IN A SANDBOX (cutbox-rows.mjs): the forced cells as the released guide's own fill.sh prints them over the translation f9d1ee9e0ccd444d… (all of the seat's roots in one cut). By AI agents, Wed Nov 11 2026. No macro, syntax, notation, axiom, sorry.
-/
import Derived.Test.YteekikaebmkioaaChecked
import GoSem.Claim
import GoSem.ClaimJoined
import GoSem.ClaimMapViews
import Derived.JoinedTies
import Derived.KernelRfl
namespace Go.Proofs.Yteekikaebmkioaa
/- THE CELL 'sum', in the pinned program and in every row, IS THE sha256 OF THE DUMP (.gsa) THAT YteekikaebmkioaaProg.lean LOADS. Nothing in Lean hashes anything: it is a label: what it is worth is what the hold of that sum in a sandbox is worth. -/
noncomputable def Try.pinned : Pinned := { name := "yteekikaebmkioaa", sum := "f9d1ee9e0ccd444d2628edda91755928eb831ad684773f1ae27aea99e8e6e5d8", checked := Try.checked }
namespace Rows
def none {H : Type} : Left H := { results := [], args := [] }

/-- 'laws.FnBlockValid': WHATEVER THE INPUT: true; the input reads as it did. -/
def fnBlockValidSpec : ChangeSpec := { name := "fnBlockValid", fn := fun _ => fun
  | [d] => { results := [.lit (.bool true)], args := [d] }
  | _ => none }
def fnBlockValidRow : OpenClaim := { program := "yteekikaebmkioaa", sum := "f9d1ee9e0ccd444d2628edda91755928eb831ad684773f1ae27aea99e8e6e5d8", func := "loop.example/flashfiles/laws.FnBlockValid", spec := "fnBlockValid", apart := false }
def FnBlockValidSaid : Prop := fnBlockValidRow.holds Try.pinned (OpenSpec.ofChange fnBlockValidSpec)

/-- ITS FALSE NEIGHBOUR: 'it returns false'. Refute it at one input. -/
def fnBlockValidWrong : ChangeSpec := { name := "fnBlockValid", fn := fun _ => fun
  | [d] => { results := [.lit (.bool false)], args := [d] }
  | _ => none }
def FnBlockValidWrongFalsely : Prop := fnBlockValidRow.holds Try.pinned (OpenSpec.ofChange fnBlockValidWrong)

/-- 'laws.FnBlockNext': WHATEVER THE INPUT: true; the input reads as it did. -/
def fnBlockNextSpec : ChangeSpec := { name := "fnBlockNext", fn := fun _ => fun
  | [d] => { results := [.lit (.bool true)], args := [d] }
  | _ => none }
def fnBlockNextRow : OpenClaim := { program := "yteekikaebmkioaa", sum := "f9d1ee9e0ccd444d2628edda91755928eb831ad684773f1ae27aea99e8e6e5d8", func := "loop.example/flashfiles/laws.FnBlockNext", spec := "fnBlockNext", apart := false }
def FnBlockNextSaid : Prop := fnBlockNextRow.holds Try.pinned (OpenSpec.ofChange fnBlockNextSpec)

/-- ITS FALSE NEIGHBOUR: 'it returns false'. Refute it at one input. -/
def fnBlockNextWrong : ChangeSpec := { name := "fnBlockNext", fn := fun _ => fun
  | [d] => { results := [.lit (.bool false)], args := [d] }
  | _ => none }
def FnBlockNextWrongFalsely : Prop := fnBlockNextRow.holds Try.pinned (OpenSpec.ofChange fnBlockNextWrong)

/-- 'laws.FnWriteBlock': WHATEVER THE INPUT: true; the input reads as it did. -/
def fnWriteBlockSpec : ChangeSpec := { name := "fnWriteBlock", fn := fun _ => fun
  | [d] => { results := [.lit (.bool true)], args := [d] }
  | _ => none }
def fnWriteBlockRow : OpenClaim := { program := "yteekikaebmkioaa", sum := "f9d1ee9e0ccd444d2628edda91755928eb831ad684773f1ae27aea99e8e6e5d8", func := "loop.example/flashfiles/laws.FnWriteBlock", spec := "fnWriteBlock", apart := false }
def FnWriteBlockSaid : Prop := fnWriteBlockRow.holds Try.pinned (OpenSpec.ofChange fnWriteBlockSpec)

/-- ITS FALSE NEIGHBOUR: 'it returns false'. Refute it at one input. -/
def fnWriteBlockWrong : ChangeSpec := { name := "fnWriteBlock", fn := fun _ => fun
  | [d] => { results := [.lit (.bool false)], args := [d] }
  | _ => none }
def FnWriteBlockWrongFalsely : Prop := fnWriteBlockRow.holds Try.pinned (OpenSpec.ofChange fnWriteBlockWrong)

/-- 'laws.FnEraseBlock': WHATEVER THE INPUT: true; the input reads as it did. -/
def fnEraseBlockSpec : ChangeSpec := { name := "fnEraseBlock", fn := fun _ => fun
  | [d] => { results := [.lit (.bool true)], args := [d] }
  | _ => none }
def fnEraseBlockRow : OpenClaim := { program := "yteekikaebmkioaa", sum := "f9d1ee9e0ccd444d2628edda91755928eb831ad684773f1ae27aea99e8e6e5d8", func := "loop.example/flashfiles/laws.FnEraseBlock", spec := "fnEraseBlock", apart := false }
def FnEraseBlockSaid : Prop := fnEraseBlockRow.holds Try.pinned (OpenSpec.ofChange fnEraseBlockSpec)

/-- ITS FALSE NEIGHBOUR: 'it returns false'. Refute it at one input. -/
def fnEraseBlockWrong : ChangeSpec := { name := "fnEraseBlock", fn := fun _ => fun
  | [d] => { results := [.lit (.bool false)], args := [d] }
  | _ => none }
def FnEraseBlockWrongFalsely : Prop := fnEraseBlockRow.holds Try.pinned (OpenSpec.ofChange fnEraseBlockWrong)

/-- 'laws.FnDeviceValid': WHATEVER THE INPUT: true; the input reads as it did. -/
def fnDeviceValidSpec : ChangeSpec := { name := "fnDeviceValid", fn := fun _ => fun
  | [d] => { results := [.lit (.bool true)], args := [d] }
  | _ => none }
def fnDeviceValidRow : OpenClaim := { program := "yteekikaebmkioaa", sum := "f9d1ee9e0ccd444d2628edda91755928eb831ad684773f1ae27aea99e8e6e5d8", func := "loop.example/flashfiles/laws.FnDeviceValid", spec := "fnDeviceValid", apart := false }
def FnDeviceValidSaid : Prop := fnDeviceValidRow.holds Try.pinned (OpenSpec.ofChange fnDeviceValidSpec)

/-- ITS FALSE NEIGHBOUR: 'it returns false'. Refute it at one input. -/
def fnDeviceValidWrong : ChangeSpec := { name := "fnDeviceValid", fn := fun _ => fun
  | [d] => { results := [.lit (.bool false)], args := [d] }
  | _ => none }
def FnDeviceValidWrongFalsely : Prop := fnDeviceValidRow.holds Try.pinned (OpenSpec.ofChange fnDeviceValidWrong)

/-- 'laws.FnReadPage': WHATEVER THE INPUT: true; the input reads as it did. -/
def fnReadPageSpec : ChangeSpec := { name := "fnReadPage", fn := fun _ => fun
  | [d] => { results := [.lit (.bool true)], args := [d] }
  | _ => none }
def fnReadPageRow : OpenClaim := { program := "yteekikaebmkioaa", sum := "f9d1ee9e0ccd444d2628edda91755928eb831ad684773f1ae27aea99e8e6e5d8", func := "loop.example/flashfiles/laws.FnReadPage", spec := "fnReadPage", apart := false }
def FnReadPageSaid : Prop := fnReadPageRow.holds Try.pinned (OpenSpec.ofChange fnReadPageSpec)

/-- ITS FALSE NEIGHBOUR: 'it returns false'. Refute it at one input. -/
def fnReadPageWrong : ChangeSpec := { name := "fnReadPage", fn := fun _ => fun
  | [d] => { results := [.lit (.bool false)], args := [d] }
  | _ => none }
def FnReadPageWrongFalsely : Prop := fnReadPageRow.holds Try.pinned (OpenSpec.ofChange fnReadPageWrong)

/-- 'laws.FnProgram': WHATEVER THE INPUT: true; the input reads as it did. -/
def fnProgramSpec : ChangeSpec := { name := "fnProgram", fn := fun _ => fun
  | [d] => { results := [.lit (.bool true)], args := [d] }
  | _ => none }
def fnProgramRow : OpenClaim := { program := "yteekikaebmkioaa", sum := "f9d1ee9e0ccd444d2628edda91755928eb831ad684773f1ae27aea99e8e6e5d8", func := "loop.example/flashfiles/laws.FnProgram", spec := "fnProgram", apart := false }
def FnProgramSaid : Prop := fnProgramRow.holds Try.pinned (OpenSpec.ofChange fnProgramSpec)

/-- ITS FALSE NEIGHBOUR: 'it returns false'. Refute it at one input. -/
def fnProgramWrong : ChangeSpec := { name := "fnProgram", fn := fun _ => fun
  | [d] => { results := [.lit (.bool false)], args := [d] }
  | _ => none }
def FnProgramWrongFalsely : Prop := fnProgramRow.holds Try.pinned (OpenSpec.ofChange fnProgramWrong)

/-- 'laws.FnFreePages': WHATEVER THE INPUT: true; the input reads as it did. -/
def fnFreePagesSpec : ChangeSpec := { name := "fnFreePages", fn := fun _ => fun
  | [d] => { results := [.lit (.bool true)], args := [d] }
  | _ => none }
def fnFreePagesRow : OpenClaim := { program := "yteekikaebmkioaa", sum := "f9d1ee9e0ccd444d2628edda91755928eb831ad684773f1ae27aea99e8e6e5d8", func := "loop.example/flashfiles/laws.FnFreePages", spec := "fnFreePages", apart := false }
def FnFreePagesSaid : Prop := fnFreePagesRow.holds Try.pinned (OpenSpec.ofChange fnFreePagesSpec)

/-- ITS FALSE NEIGHBOUR: 'it returns false'. Refute it at one input. -/
def fnFreePagesWrong : ChangeSpec := { name := "fnFreePages", fn := fun _ => fun
  | [d] => { results := [.lit (.bool false)], args := [d] }
  | _ => none }
def FnFreePagesWrongFalsely : Prop := fnFreePagesRow.holds Try.pinned (OpenSpec.ofChange fnFreePagesWrong)

/-- 'laws.FnHeadsValid': WHATEVER THE INPUT: true; the input reads as it did. -/
def fnHeadsValidSpec : ChangeSpec := { name := "fnHeadsValid", fn := fun _ => fun
  | [d] => { results := [.lit (.bool true)], args := [d] }
  | _ => none }
def fnHeadsValidRow : OpenClaim := { program := "yteekikaebmkioaa", sum := "f9d1ee9e0ccd444d2628edda91755928eb831ad684773f1ae27aea99e8e6e5d8", func := "loop.example/flashfiles/laws.FnHeadsValid", spec := "fnHeadsValid", apart := false }
def FnHeadsValidSaid : Prop := fnHeadsValidRow.holds Try.pinned (OpenSpec.ofChange fnHeadsValidSpec)

/-- ITS FALSE NEIGHBOUR: 'it returns false'. Refute it at one input. -/
def fnHeadsValidWrong : ChangeSpec := { name := "fnHeadsValid", fn := fun _ => fun
  | [d] => { results := [.lit (.bool false)], args := [d] }
  | _ => none }
def FnHeadsValidWrongFalsely : Prop := fnHeadsValidRow.holds Try.pinned (OpenSpec.ofChange fnHeadsValidWrong)

/-- 'laws.FnHeadOf': WHATEVER THE INPUT: true; the input reads as it did. -/
def fnHeadOfSpec : ChangeSpec := { name := "fnHeadOf", fn := fun _ => fun
  | [d] => { results := [.lit (.bool true)], args := [d] }
  | _ => none }
def fnHeadOfRow : OpenClaim := { program := "yteekikaebmkioaa", sum := "f9d1ee9e0ccd444d2628edda91755928eb831ad684773f1ae27aea99e8e6e5d8", func := "loop.example/flashfiles/laws.FnHeadOf", spec := "fnHeadOf", apart := false }
def FnHeadOfSaid : Prop := fnHeadOfRow.holds Try.pinned (OpenSpec.ofChange fnHeadOfSpec)

/-- ITS FALSE NEIGHBOUR: 'it returns false'. Refute it at one input. -/
def fnHeadOfWrong : ChangeSpec := { name := "fnHeadOf", fn := fun _ => fun
  | [d] => { results := [.lit (.bool false)], args := [d] }
  | _ => none }
def FnHeadOfWrongFalsely : Prop := fnHeadOfRow.holds Try.pinned (OpenSpec.ofChange fnHeadOfWrong)

/-- 'laws.FnFreshBlock': WHATEVER THE INPUT: true; the input reads as it did. -/
def fnFreshBlockSpec : ChangeSpec := { name := "fnFreshBlock", fn := fun _ => fun
  | [d] => { results := [.lit (.bool true)], args := [d] }
  | _ => none }
def fnFreshBlockRow : OpenClaim := { program := "yteekikaebmkioaa", sum := "f9d1ee9e0ccd444d2628edda91755928eb831ad684773f1ae27aea99e8e6e5d8", func := "loop.example/flashfiles/laws.FnFreshBlock", spec := "fnFreshBlock", apart := false }
def FnFreshBlockSaid : Prop := fnFreshBlockRow.holds Try.pinned (OpenSpec.ofChange fnFreshBlockSpec)

/-- ITS FALSE NEIGHBOUR: 'it returns false'. Refute it at one input. -/
def fnFreshBlockWrong : ChangeSpec := { name := "fnFreshBlock", fn := fun _ => fun
  | [d] => { results := [.lit (.bool false)], args := [d] }
  | _ => none }
def FnFreshBlockWrongFalsely : Prop := fnFreshBlockRow.holds Try.pinned (OpenSpec.ofChange fnFreshBlockWrong)

/-- 'laws.FnAppendPage': WHATEVER THE INPUT: true; the input reads as it did. -/
def fnAppendPageSpec : ChangeSpec := { name := "fnAppendPage", fn := fun _ => fun
  | [d] => { results := [.lit (.bool true)], args := [d] }
  | _ => none }
def fnAppendPageRow : OpenClaim := { program := "yteekikaebmkioaa", sum := "f9d1ee9e0ccd444d2628edda91755928eb831ad684773f1ae27aea99e8e6e5d8", func := "loop.example/flashfiles/laws.FnAppendPage", spec := "fnAppendPage", apart := false }
def FnAppendPageSaid : Prop := fnAppendPageRow.holds Try.pinned (OpenSpec.ofChange fnAppendPageSpec)

/-- ITS FALSE NEIGHBOUR: 'it returns false'. Refute it at one input. -/
def fnAppendPageWrong : ChangeSpec := { name := "fnAppendPage", fn := fun _ => fun
  | [d] => { results := [.lit (.bool false)], args := [d] }
  | _ => none }
def FnAppendPageWrongFalsely : Prop := fnAppendPageRow.holds Try.pinned (OpenSpec.ofChange fnAppendPageWrong)

/- THE SECOND FORM. 'bulk': how many values and letters a reading holds, each counted each time it is reached (what is shared counts as often as it is met; a slice's spare places count too). A statement '..UptoSaid' is the law's where the arguments, and the package variables that the reading takes, are together of bulk at most 1048576: NARROWER than '..Said'. Prove '..Said' where nothing that the law and all that it calls make is longer than what came in: it says more and counts as full. Else prove '..UptoSaid'. A law counts once. -/
mutual
def uptoBulk {H : Type} : DataW H → Nat
  | .lit (.string bytes) => bytes.length + 1
  | .lit _ => 1
  | .nil => 1
  | .ptr d => uptoBulk d + 1
  | .slice elems spare => uptoBulkAll elems + uptoBulkAll spare + 1
  | .agg parts => uptoBulkAll parts + 1
  | .iface _ d => uptoBulk d + 1
  | .map entries => uptoBulkEntries entries + 1
  | .held _ => 1
def uptoBulkAll {H : Type} : List (DataW H) → Nat
  | [] => 0
  | d :: r => uptoBulk d + uptoBulkAll r
def uptoBulkEntries {H : Type} : List (Lit × DataW H) → Nat
  | [] => 0
  | x :: r => uptoBulkEntry x + uptoBulkEntries r
def uptoBulkEntry {H : Type} : Lit × DataW H → Nat
  | (.string bytes, d) => bytes.length + uptoBulk d + 1
  | (_, d) => uptoBulk d + 1
 end
def uptoSmall : (H : Type) → List (DataW H) → Bool := fun _ ds => decide (uptoBulkAll ds ≤ 1048576)
def OpenSpec.upto (s : _root_.Go.ChangeSpec) : _root_.Go.OpenSpec := { _root_.Go.OpenSpec.ofChange s with cond := some uptoSmall }

/-- 'laws.FnBlockValid', WHERE WHAT IT READS IS OF BULK AT MOST 1048576: true; the input reads as it did. -/
def fnBlockValidUptoRow : OpenClaim := { program := "yteekikaebmkioaa", sum := "f9d1ee9e0ccd444d2628edda91755928eb831ad684773f1ae27aea99e8e6e5d8", func := "loop.example/flashfiles/laws.FnBlockValid", spec := "fnBlockValid", apart := false, narrowed := true }
def FnBlockValidUptoSaid : Prop := fnBlockValidUptoRow.holds Try.pinned (OpenSpec.upto fnBlockValidSpec)

/-- 'laws.FnBlockNext', WHERE WHAT IT READS IS OF BULK AT MOST 1048576: true; the input reads as it did. -/
def fnBlockNextUptoRow : OpenClaim := { program := "yteekikaebmkioaa", sum := "f9d1ee9e0ccd444d2628edda91755928eb831ad684773f1ae27aea99e8e6e5d8", func := "loop.example/flashfiles/laws.FnBlockNext", spec := "fnBlockNext", apart := false, narrowed := true }
def FnBlockNextUptoSaid : Prop := fnBlockNextUptoRow.holds Try.pinned (OpenSpec.upto fnBlockNextSpec)

/-- 'laws.FnWriteBlock', WHERE WHAT IT READS IS OF BULK AT MOST 1048576: true; the input reads as it did. -/
def fnWriteBlockUptoRow : OpenClaim := { program := "yteekikaebmkioaa", sum := "f9d1ee9e0ccd444d2628edda91755928eb831ad684773f1ae27aea99e8e6e5d8", func := "loop.example/flashfiles/laws.FnWriteBlock", spec := "fnWriteBlock", apart := false, narrowed := true }
def FnWriteBlockUptoSaid : Prop := fnWriteBlockUptoRow.holds Try.pinned (OpenSpec.upto fnWriteBlockSpec)

/-- 'laws.FnEraseBlock', WHERE WHAT IT READS IS OF BULK AT MOST 1048576: true; the input reads as it did. -/
def fnEraseBlockUptoRow : OpenClaim := { program := "yteekikaebmkioaa", sum := "f9d1ee9e0ccd444d2628edda91755928eb831ad684773f1ae27aea99e8e6e5d8", func := "loop.example/flashfiles/laws.FnEraseBlock", spec := "fnEraseBlock", apart := false, narrowed := true }
def FnEraseBlockUptoSaid : Prop := fnEraseBlockUptoRow.holds Try.pinned (OpenSpec.upto fnEraseBlockSpec)

/-- 'laws.FnDeviceValid', WHERE WHAT IT READS IS OF BULK AT MOST 1048576: true; the input reads as it did. -/
def fnDeviceValidUptoRow : OpenClaim := { program := "yteekikaebmkioaa", sum := "f9d1ee9e0ccd444d2628edda91755928eb831ad684773f1ae27aea99e8e6e5d8", func := "loop.example/flashfiles/laws.FnDeviceValid", spec := "fnDeviceValid", apart := false, narrowed := true }
def FnDeviceValidUptoSaid : Prop := fnDeviceValidUptoRow.holds Try.pinned (OpenSpec.upto fnDeviceValidSpec)

/-- 'laws.FnReadPage', WHERE WHAT IT READS IS OF BULK AT MOST 1048576: true; the input reads as it did. -/
def fnReadPageUptoRow : OpenClaim := { program := "yteekikaebmkioaa", sum := "f9d1ee9e0ccd444d2628edda91755928eb831ad684773f1ae27aea99e8e6e5d8", func := "loop.example/flashfiles/laws.FnReadPage", spec := "fnReadPage", apart := false, narrowed := true }
def FnReadPageUptoSaid : Prop := fnReadPageUptoRow.holds Try.pinned (OpenSpec.upto fnReadPageSpec)

/-- 'laws.FnProgram', WHERE WHAT IT READS IS OF BULK AT MOST 1048576: true; the input reads as it did. -/
def fnProgramUptoRow : OpenClaim := { program := "yteekikaebmkioaa", sum := "f9d1ee9e0ccd444d2628edda91755928eb831ad684773f1ae27aea99e8e6e5d8", func := "loop.example/flashfiles/laws.FnProgram", spec := "fnProgram", apart := false, narrowed := true }
def FnProgramUptoSaid : Prop := fnProgramUptoRow.holds Try.pinned (OpenSpec.upto fnProgramSpec)

/-- 'laws.FnFreePages', WHERE WHAT IT READS IS OF BULK AT MOST 1048576: true; the input reads as it did. -/
def fnFreePagesUptoRow : OpenClaim := { program := "yteekikaebmkioaa", sum := "f9d1ee9e0ccd444d2628edda91755928eb831ad684773f1ae27aea99e8e6e5d8", func := "loop.example/flashfiles/laws.FnFreePages", spec := "fnFreePages", apart := false, narrowed := true }
def FnFreePagesUptoSaid : Prop := fnFreePagesUptoRow.holds Try.pinned (OpenSpec.upto fnFreePagesSpec)

/-- 'laws.FnHeadsValid', WHERE WHAT IT READS IS OF BULK AT MOST 1048576: true; the input reads as it did. -/
def fnHeadsValidUptoRow : OpenClaim := { program := "yteekikaebmkioaa", sum := "f9d1ee9e0ccd444d2628edda91755928eb831ad684773f1ae27aea99e8e6e5d8", func := "loop.example/flashfiles/laws.FnHeadsValid", spec := "fnHeadsValid", apart := false, narrowed := true }
def FnHeadsValidUptoSaid : Prop := fnHeadsValidUptoRow.holds Try.pinned (OpenSpec.upto fnHeadsValidSpec)

/-- 'laws.FnHeadOf', WHERE WHAT IT READS IS OF BULK AT MOST 1048576: true; the input reads as it did. -/
def fnHeadOfUptoRow : OpenClaim := { program := "yteekikaebmkioaa", sum := "f9d1ee9e0ccd444d2628edda91755928eb831ad684773f1ae27aea99e8e6e5d8", func := "loop.example/flashfiles/laws.FnHeadOf", spec := "fnHeadOf", apart := false, narrowed := true }
def FnHeadOfUptoSaid : Prop := fnHeadOfUptoRow.holds Try.pinned (OpenSpec.upto fnHeadOfSpec)

/-- 'laws.FnFreshBlock', WHERE WHAT IT READS IS OF BULK AT MOST 1048576: true; the input reads as it did. -/
def fnFreshBlockUptoRow : OpenClaim := { program := "yteekikaebmkioaa", sum := "f9d1ee9e0ccd444d2628edda91755928eb831ad684773f1ae27aea99e8e6e5d8", func := "loop.example/flashfiles/laws.FnFreshBlock", spec := "fnFreshBlock", apart := false, narrowed := true }
def FnFreshBlockUptoSaid : Prop := fnFreshBlockUptoRow.holds Try.pinned (OpenSpec.upto fnFreshBlockSpec)

/-- 'laws.FnAppendPage', WHERE WHAT IT READS IS OF BULK AT MOST 1048576: true; the input reads as it did. -/
def fnAppendPageUptoRow : OpenClaim := { program := "yteekikaebmkioaa", sum := "f9d1ee9e0ccd444d2628edda91755928eb831ad684773f1ae27aea99e8e6e5d8", func := "loop.example/flashfiles/laws.FnAppendPage", spec := "fnAppendPage", apart := false, narrowed := true }
def FnAppendPageUptoSaid : Prop := fnAppendPageUptoRow.holds Try.pinned (OpenSpec.upto fnAppendPageSpec)

end Rows
end Go.Proofs.Yteekikaebmkioaa
