/-
  No cell of these rows narrows 'for every input' (looked for: loops, veiled, ifaces, maps, wideKeys, modest, calm, conditions, laid).
  DERIVED. THE GIVEN ROWS OF THIS SEAT. 2 by the template 'for every input the law returns true; each argument reads behind the call as it read before'; 0 by the template 'total and deterministic' (their statements: YtjphehapnhfecaaTotals.lean).
  GIVEN WITH THE SEED: the statements are not yours to turn. If you find one false, say at which input.
  Laid BY PROGRAM, IN A SANDBOX (cutbox-rows.mjs): the forced cells as the released guide's own fill.sh prints them over the translation 35d2af2523d30430… (all of the seat's roots in one cut). By AI agents, Wed Nov 11 2026. No macro, syntax, notation, axiom, sorry.
-/
import Derived.Test.YtjphehapnhfecaaChecked
import GoSem.Claim
import GoSem.ClaimJoined
import GoSem.ClaimMapViews
import Derived.JoinedTies
import Derived.KernelRfl
namespace Go.Proofs.Ytjphehapnhfecaa
/- THE CELL 'sum', in the pinned program and in every row, IS THE sha256 OF THE DUMP (.gsa) THAT YtjphehapnhfecaaProg.lean LOADS. Nothing in Lean hashes anything: it is a label: what it is worth is what the hold of that sum in a sandbox is worth. -/
noncomputable def Try.pinned : Pinned := { name := "ytjphehapnhfecaa", sum := "35d2af2523d30430366f0b897a6514cd55d7b3749f36f066f5c2c8a476cf0978", checked := Try.checked }
namespace Rows
def none {H : Type} : Left H := { results := [], args := [] }

/-- 'laws.FnExactWriteBlock': WHATEVER THE INPUT: true; the input reads as it did. -/
def fnExactWriteBlockSpec : ChangeSpec := { name := "fnExactWriteBlock", fn := fun _ => fun
  | [d1, d2] => { results := [.lit (.bool true)], args := [d1, d2] }
  | _ => none }
def fnExactWriteBlockRow : OpenClaim := { program := "ytjphehapnhfecaa", sum := "35d2af2523d30430366f0b897a6514cd55d7b3749f36f066f5c2c8a476cf0978", func := "loop.example/flashfiles/laws.FnExactWriteBlock", spec := "fnExactWriteBlock", apart := false }
def FnExactWriteBlockSaid : Prop := fnExactWriteBlockRow.holds Try.pinned (OpenSpec.ofChange fnExactWriteBlockSpec)

/-- ITS FALSE NEIGHBOUR: 'it returns false'. Refute it at one input. -/
def fnExactWriteBlockWrong : ChangeSpec := { name := "fnExactWriteBlock", fn := fun _ => fun
  | [d1, d2] => { results := [.lit (.bool false)], args := [d1, d2] }
  | _ => none }
def FnExactWriteBlockWrongFalsely : Prop := fnExactWriteBlockRow.holds Try.pinned (OpenSpec.ofChange fnExactWriteBlockWrong)

/-- 'laws.FnExactAppendPage': WHATEVER THE INPUT: true; the input reads as it did. -/
def fnExactAppendPageSpec : ChangeSpec := { name := "fnExactAppendPage", fn := fun _ => fun
  | [d1, d2, d3, d4] => { results := [.lit (.bool true)], args := [d1, d2, d3, d4] }
  | _ => none }
def fnExactAppendPageRow : OpenClaim := { program := "ytjphehapnhfecaa", sum := "35d2af2523d30430366f0b897a6514cd55d7b3749f36f066f5c2c8a476cf0978", func := "loop.example/flashfiles/laws.FnExactAppendPage", spec := "fnExactAppendPage", apart := false }
def FnExactAppendPageSaid : Prop := fnExactAppendPageRow.holds Try.pinned (OpenSpec.ofChange fnExactAppendPageSpec)

/-- ITS FALSE NEIGHBOUR: 'it returns false'. Refute it at one input. -/
def fnExactAppendPageWrong : ChangeSpec := { name := "fnExactAppendPage", fn := fun _ => fun
  | [d1, d2, d3, d4] => { results := [.lit (.bool false)], args := [d1, d2, d3, d4] }
  | _ => none }
def FnExactAppendPageWrongFalsely : Prop := fnExactAppendPageRow.holds Try.pinned (OpenSpec.ofChange fnExactAppendPageWrong)

/- THE SECOND FORM. 'bulk': how many values and letters a reading holds, each counted each time it is reached (what is shared counts as often as it is met; a slice's spare places count too). A statement '..UptoSaid' is the law's where the arguments, and the package variables that the reading takes, are together of bulk at most 1048576: NARROWER than '..Said'. Prove '..Said' where nothing that the law and all that it calls make is longer than what came in: it says more and counts as full. Else prove '..UptoSaid'. A law counts once. -/
mutual
def uptoBulk {H : Type} : DataW H → Nat
  | .lit (.string bytes) => bytes.length + 1
  | .lit _ => 1
  | .nil => 1
  | .ptr d => uptoBulk d + 1
  | .slice elems spare => uptoBulkAll elems + uptoBulkAll spare + 1
  | .agg parts => uptoBulkAll parts + 1
  | .iface _ d => uptoBulk d + 1
  | .map entries => uptoBulkEntries entries + 1
  | .held _ => 1
def uptoBulkAll {H : Type} : List (DataW H) → Nat
  | [] => 0
  | d :: r => uptoBulk d + uptoBulkAll r
def uptoBulkEntries {H : Type} : List (Lit × DataW H) → Nat
  | [] => 0
  | x :: r => uptoBulkEntry x + uptoBulkEntries r
def uptoBulkEntry {H : Type} : Lit × DataW H → Nat
  | (.string bytes, d) => bytes.length + uptoBulk d + 1
  | (_, d) => uptoBulk d + 1
 end
def uptoSmall : (H : Type) → List (DataW H) → Bool := fun _ ds => decide (uptoBulkAll ds ≤ 1048576)
def OpenSpec.upto (s : _root_.Go.ChangeSpec) : _root_.Go.OpenSpec := { _root_.Go.OpenSpec.ofChange s with cond := some uptoSmall }

/-- 'laws.FnExactWriteBlock', WHERE WHAT IT READS IS OF BULK AT MOST 1048576: true; the input reads as it did. -/
def fnExactWriteBlockUptoRow : OpenClaim := { program := "ytjphehapnhfecaa", sum := "35d2af2523d30430366f0b897a6514cd55d7b3749f36f066f5c2c8a476cf0978", func := "loop.example/flashfiles/laws.FnExactWriteBlock", spec := "fnExactWriteBlock", apart := false, narrowed := true }
def FnExactWriteBlockUptoSaid : Prop := fnExactWriteBlockUptoRow.holds Try.pinned (OpenSpec.upto fnExactWriteBlockSpec)

/-- 'laws.FnExactAppendPage', WHERE WHAT IT READS IS OF BULK AT MOST 1048576: true; the input reads as it did. -/
def fnExactAppendPageUptoRow : OpenClaim := { program := "ytjphehapnhfecaa", sum := "35d2af2523d30430366f0b897a6514cd55d7b3749f36f066f5c2c8a476cf0978", func := "loop.example/flashfiles/laws.FnExactAppendPage", spec := "fnExactAppendPage", apart := false, narrowed := true }
def FnExactAppendPageUptoSaid : Prop := fnExactAppendPageUptoRow.holds Try.pinned (OpenSpec.upto fnExactAppendPageSpec)

end Rows
end Go.Proofs.Ytjphehapnhfecaa
