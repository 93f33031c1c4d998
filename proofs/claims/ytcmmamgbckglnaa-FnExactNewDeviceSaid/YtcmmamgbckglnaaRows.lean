/-
  No cell of these rows narrows 'for every input' (looked for: loops, veiled, ifaces, maps, wideKeys, modest, calm, conditions, laid).
  DERIVED. THE GIVEN ROWS OF THIS SEAT. 5 by the template 'for every input the law returns true; each argument reads behind the call as it read before'; 0 by the template 'total and deterministic' (their statements: YtcmmamgbckglnaaTotals.lean).
  GIVEN WITH THE SEED: the statements are not yours to turn. If you find one false, say at which input.
  Laid BY PROGRAM, IN A SANDBOX (cutbox-rows.mjs): the forced cells as the released guide's own fill.sh prints them over the translation 8fe379710f89f32f… (all of the seat's roots in one cut). By AI agents, Wed Nov 11 2026. No macro, syntax, notation, axiom, sorry.
-/
import Derived.Test.YtcmmamgbckglnaaChecked
import GoSem.Claim
import GoSem.ClaimJoined
import GoSem.ClaimMapViews
import Derived.JoinedTies
import Derived.KernelRfl
namespace Go.Proofs.Ytcmmamgbckglnaa
/- THE CELL 'sum', in the pinned program and in every row, IS THE sha256 OF THE DUMP (.gsa) THAT YtcmmamgbckglnaaProg.lean LOADS. Nothing in Lean hashes anything: it is a label: what it is worth is what the hold of that sum in a sandbox is worth. -/
noncomputable def Try.pinned : Pinned := { name := "ytcmmamgbckglnaa", sum := "8fe379710f89f32fbae14b9055976e6b9994197052b69fdebb7c1d46d37c6e79", checked := Try.checked }
namespace Rows
def none {H : Type} : Left H := { results := [], args := [] }

/-- 'laws.FnExactNewBlock': WHATEVER THE INPUT: true; the input reads as it did. -/
def fnExactNewBlockSpec : ChangeSpec := { name := "fnExactNewBlock", fn := fun _ => fun
  | [d] => { results := [.lit (.bool true)], args := [d] }
  | _ => none }
def fnExactNewBlockRow : OpenClaim := { program := "ytcmmamgbckglnaa", sum := "8fe379710f89f32fbae14b9055976e6b9994197052b69fdebb7c1d46d37c6e79", func := "loop.example/flashfiles/laws.FnExactNewBlock", spec := "fnExactNewBlock", apart := false }
def FnExactNewBlockSaid : Prop := fnExactNewBlockRow.holds Try.pinned (OpenSpec.ofChange fnExactNewBlockSpec)

/-- ITS FALSE NEIGHBOUR: 'it returns false'. Refute it at one input. -/
def fnExactNewBlockWrong : ChangeSpec := { name := "fnExactNewBlock", fn := fun _ => fun
  | [d] => { results := [.lit (.bool false)], args := [d] }
  | _ => none }
def FnExactNewBlockWrongFalsely : Prop := fnExactNewBlockRow.holds Try.pinned (OpenSpec.ofChange fnExactNewBlockWrong)

/-- 'laws.FnExactNewDevice': WHATEVER THE INPUT: true; the input reads as it did. -/
def fnExactNewDeviceSpec : ChangeSpec := { name := "fnExactNewDevice", fn := fun _ => fun
  | [d] => { results := [.lit (.bool true)], args := [d] }
  | _ => none }
def fnExactNewDeviceRow : OpenClaim := { program := "ytcmmamgbckglnaa", sum := "8fe379710f89f32fbae14b9055976e6b9994197052b69fdebb7c1d46d37c6e79", func := "loop.example/flashfiles/laws.FnExactNewDevice", spec := "fnExactNewDevice", apart := false }
def FnExactNewDeviceSaid : Prop := fnExactNewDeviceRow.holds Try.pinned (OpenSpec.ofChange fnExactNewDeviceSpec)

/-- ITS FALSE NEIGHBOUR: 'it returns false'. Refute it at one input. -/
def fnExactNewDeviceWrong : ChangeSpec := { name := "fnExactNewDevice", fn := fun _ => fun
  | [d] => { results := [.lit (.bool false)], args := [d] }
  | _ => none }
def FnExactNewDeviceWrongFalsely : Prop := fnExactNewDeviceRow.holds Try.pinned (OpenSpec.ofChange fnExactNewDeviceWrong)

/-- 'laws.FnExactEraseBlock': WHATEVER THE INPUT: true; the input reads as it did. -/
def fnExactEraseBlockSpec : ChangeSpec := { name := "fnExactEraseBlock", fn := fun _ => fun
  | [d] => { results := [.lit (.bool true)], args := [d] }
  | _ => none }
def fnExactEraseBlockRow : OpenClaim := { program := "ytcmmamgbckglnaa", sum := "8fe379710f89f32fbae14b9055976e6b9994197052b69fdebb7c1d46d37c6e79", func := "loop.example/flashfiles/laws.FnExactEraseBlock", spec := "fnExactEraseBlock", apart := false }
def FnExactEraseBlockSaid : Prop := fnExactEraseBlockRow.holds Try.pinned (OpenSpec.ofChange fnExactEraseBlockSpec)

/-- ITS FALSE NEIGHBOUR: 'it returns false'. Refute it at one input. -/
def fnExactEraseBlockWrong : ChangeSpec := { name := "fnExactEraseBlock", fn := fun _ => fun
  | [d] => { results := [.lit (.bool false)], args := [d] }
  | _ => none }
def FnExactEraseBlockWrongFalsely : Prop := fnExactEraseBlockRow.holds Try.pinned (OpenSpec.ofChange fnExactEraseBlockWrong)

/-- 'laws.FnExactTableValid': WHATEVER THE INPUT: true; the input reads as it did. -/
def fnExactTableValidSpec : ChangeSpec := { name := "fnExactTableValid", fn := fun _ => fun
  | [d] => { results := [.lit (.bool true)], args := [d] }
  | _ => none }
def fnExactTableValidRow : OpenClaim := { program := "ytcmmamgbckglnaa", sum := "8fe379710f89f32fbae14b9055976e6b9994197052b69fdebb7c1d46d37c6e79", func := "loop.example/flashfiles/laws.FnExactTableValid", spec := "fnExactTableValid", apart := false }
def FnExactTableValidSaid : Prop := fnExactTableValidRow.holds Try.pinned (OpenSpec.ofChange fnExactTableValidSpec)

/-- ITS FALSE NEIGHBOUR: 'it returns false'. Refute it at one input. -/
def fnExactTableValidWrong : ChangeSpec := { name := "fnExactTableValid", fn := fun _ => fun
  | [d] => { results := [.lit (.bool false)], args := [d] }
  | _ => none }
def FnExactTableValidWrongFalsely : Prop := fnExactTableValidRow.holds Try.pinned (OpenSpec.ofChange fnExactTableValidWrong)

/-- 'laws.FnExactTableGet': WHATEVER THE INPUT: true; the input reads as it did. -/
def fnExactTableGetSpec : ChangeSpec := { name := "fnExactTableGet", fn := fun _ => fun
  | [d1, d2, d3] => { results := [.lit (.bool true)], args := [d1, d2, d3] }
  | _ => none }
def fnExactTableGetRow : OpenClaim := { program := "ytcmmamgbckglnaa", sum := "8fe379710f89f32fbae14b9055976e6b9994197052b69fdebb7c1d46d37c6e79", func := "loop.example/flashfiles/laws.FnExactTableGet", spec := "fnExactTableGet", apart := false }
def FnExactTableGetSaid : Prop := fnExactTableGetRow.holds Try.pinned (OpenSpec.ofChange fnExactTableGetSpec)

/-- ITS FALSE NEIGHBOUR: 'it returns false'. Refute it at one input. -/
def fnExactTableGetWrong : ChangeSpec := { name := "fnExactTableGet", fn := fun _ => fun
  | [d1, d2, d3] => { results := [.lit (.bool false)], args := [d1, d2, d3] }
  | _ => none }
def FnExactTableGetWrongFalsely : Prop := fnExactTableGetRow.holds Try.pinned (OpenSpec.ofChange fnExactTableGetWrong)

/- THE SECOND FORM. 'bulk': how many values and letters a reading holds, each counted each time it is reached (what is shared counts as often as it is met; a slice's spare places count too). A statement '..UptoSaid' is the law's where the arguments, and the package variables that the reading takes, are together of bulk at most 1048576: NARROWER than '..Said'. Prove '..Said' where nothing that the law and all that it calls make is longer than what came in: it says more and counts as full. Else prove '..UptoSaid'. A law counts once. -/
mutual
def uptoBulk {H : Type} : DataW H → Nat
  | .lit (.string bytes) => bytes.length + 1
  | .lit _ => 1
  | .nil => 1
  | .ptr d => uptoBulk d + 1
  | .slice elems spare => uptoBulkAll elems + uptoBulkAll spare + 1
  | .agg parts => uptoBulkAll parts + 1
  | .iface _ d => uptoBulk d + 1
  | .map entries => uptoBulkEntries entries + 1
  | .held _ => 1
def uptoBulkAll {H : Type} : List (DataW H) → Nat
  | [] => 0
  | d :: r => uptoBulk d + uptoBulkAll r
def uptoBulkEntries {H : Type} : List (Lit × DataW H) → Nat
  | [] => 0
  | x :: r => uptoBulkEntry x + uptoBulkEntries r
def uptoBulkEntry {H : Type} : Lit × DataW H → Nat
  | (.string bytes, d) => bytes.length + uptoBulk d + 1
  | (_, d) => uptoBulk d + 1
 end
def uptoSmall : (H : Type) → List (DataW H) → Bool := fun _ ds => decide (uptoBulkAll ds ≤ 1048576)
def OpenSpec.upto (s : _root_.Go.ChangeSpec) : _root_.Go.OpenSpec := { _root_.Go.OpenSpec.ofChange s with cond := some uptoSmall }

/-- 'laws.FnExactNewBlock', WHERE WHAT IT READS IS OF BULK AT MOST 1048576: true; the input reads as it did. -/
def fnExactNewBlockUptoRow : OpenClaim := { program := "ytcmmamgbckglnaa", sum := "8fe379710f89f32fbae14b9055976e6b9994197052b69fdebb7c1d46d37c6e79", func := "loop.example/flashfiles/laws.FnExactNewBlock", spec := "fnExactNewBlock", apart := false, narrowed := true }
def FnExactNewBlockUptoSaid : Prop := fnExactNewBlockUptoRow.holds Try.pinned (OpenSpec.upto fnExactNewBlockSpec)

/-- 'laws.FnExactNewDevice', WHERE WHAT IT READS IS OF BULK AT MOST 1048576: true; the input reads as it did. -/
def fnExactNewDeviceUptoRow : OpenClaim := { program := "ytcmmamgbckglnaa", sum := "8fe379710f89f32fbae14b9055976e6b9994197052b69fdebb7c1d46d37c6e79", func := "loop.example/flashfiles/laws.FnExactNewDevice", spec := "fnExactNewDevice", apart := false, narrowed := true }
def FnExactNewDeviceUptoSaid : Prop := fnExactNewDeviceUptoRow.holds Try.pinned (OpenSpec.upto fnExactNewDeviceSpec)

/-- 'laws.FnExactEraseBlock', WHERE WHAT IT READS IS OF BULK AT MOST 1048576: true; the input reads as it did. -/
def fnExactEraseBlockUptoRow : OpenClaim := { program := "ytcmmamgbckglnaa", sum := "8fe379710f89f32fbae14b9055976e6b9994197052b69fdebb7c1d46d37c6e79", func := "loop.example/flashfiles/laws.FnExactEraseBlock", spec := "fnExactEraseBlock", apart := false, narrowed := true }
def FnExactEraseBlockUptoSaid : Prop := fnExactEraseBlockUptoRow.holds Try.pinned (OpenSpec.upto fnExactEraseBlockSpec)

/-- 'laws.FnExactTableValid', WHERE WHAT IT READS IS OF BULK AT MOST 1048576: true; the input reads as it did. -/
def fnExactTableValidUptoRow : OpenClaim := { program := "ytcmmamgbckglnaa", sum := "8fe379710f89f32fbae14b9055976e6b9994197052b69fdebb7c1d46d37c6e79", func := "loop.example/flashfiles/laws.FnExactTableValid", spec := "fnExactTableValid", apart := false, narrowed := true }
def FnExactTableValidUptoSaid : Prop := fnExactTableValidUptoRow.holds Try.pinned (OpenSpec.upto fnExactTableValidSpec)

/-- 'laws.FnExactTableGet', WHERE WHAT IT READS IS OF BULK AT MOST 1048576: true; the input reads as it did. -/
def fnExactTableGetUptoRow : OpenClaim := { program := "ytcmmamgbckglnaa", sum := "8fe379710f89f32fbae14b9055976e6b9994197052b69fdebb7c1d46d37c6e79", func := "loop.example/flashfiles/laws.FnExactTableGet", spec := "fnExactTableGet", apart := false, narrowed := true }
def FnExactTableGetUptoSaid : Prop := fnExactTableGetUptoRow.holds Try.pinned (OpenSpec.upto fnExactTableGetSpec)

end Rows
end Go.Proofs.Ytcmmamgbckglnaa
