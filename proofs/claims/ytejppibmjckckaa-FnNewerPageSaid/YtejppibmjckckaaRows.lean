/-
  No cell of these rows narrows 'for every input' (looked for: loops, veiled, ifaces, maps, wideKeys, modest, calm, conditions, laid).
  DERIVED. THE GIVEN ROWS OF THIS SEAT. 12 by the template 'for every input the law returns true; each argument reads behind the call as it read before'; 0 by the template 'total and deterministic' (their statements: YtejppibmjckckaaTotals.lean).
  GIVEN WITH THE SEED: the statements are not yours to turn. If you find one false, say at which input.
  Laid BY PROGRAM, IN A SANDBOX (cutbox-rows.mjs): the forced cells as the released guide's own fill.sh prints them over the translation 7018f19edcaa6a71… (all of the seat's roots in one cut). By AI agents, Wed Nov 11 2026. No macro, syntax, notation, axiom, sorry.
-/
import Derived.Test.YtejppibmjckckaaChecked
import GoSem.Claim
import GoSem.ClaimJoined
import GoSem.ClaimMapViews
import Derived.JoinedTies
import Derived.KernelRfl
namespace Go.Proofs.Ytejppibmjckckaa
/- THE CELL 'sum', in the pinned program and in every row, IS THE sha256 OF THE DUMP (.gsa) THAT YtejppibmjckckaaProg.lean LOADS. Nothing in Lean hashes anything: it is a label: what it is worth is what the hold of that sum in a sandbox is worth. -/
noncomputable def Try.pinned : Pinned := { name := "ytejppibmjckckaa", sum := "7018f19edcaa6a71071976f917f14914381d02871233e637f8ebc709dada6ba5", checked := Try.checked }
namespace Rows
def none {H : Type} : Left H := { results := [], args := [] }

/-- 'laws.FnBitCount': WHATEVER THE INPUT: true; the input reads as it did. -/
def fnBitCountSpec : ChangeSpec := { name := "fnBitCount", fn := fun _ => fun
  | [d] => { results := [.lit (.bool true)], args := [d] }
  | _ => none }
def fnBitCountRow : OpenClaim := { program := "ytejppibmjckckaa", sum := "7018f19edcaa6a71071976f917f14914381d02871233e637f8ebc709dada6ba5", func := "loop.example/flashfiles/laws.FnBitCount", spec := "fnBitCount", apart := false }
def FnBitCountSaid : Prop := fnBitCountRow.holds Try.pinned (OpenSpec.ofChange fnBitCountSpec)

/-- ITS FALSE NEIGHBOUR: 'it returns false'. Refute it at one input. -/
def fnBitCountWrong : ChangeSpec := { name := "fnBitCount", fn := fun _ => fun
  | [d] => { results := [.lit (.bool false)], args := [d] }
  | _ => none }
def FnBitCountWrongFalsely : Prop := fnBitCountRow.holds Try.pinned (OpenSpec.ofChange fnBitCountWrong)

/-- 'laws.FnPageValid': WHATEVER THE INPUT: true; the input reads as it did. -/
def fnPageValidSpec : ChangeSpec := { name := "fnPageValid", fn := fun _ => fun
  | [d] => { results := [.lit (.bool true)], args := [d] }
  | _ => none }
def fnPageValidRow : OpenClaim := { program := "ytejppibmjckckaa", sum := "7018f19edcaa6a71071976f917f14914381d02871233e637f8ebc709dada6ba5", func := "loop.example/flashfiles/laws.FnPageValid", spec := "fnPageValid", apart := false }
def FnPageValidSaid : Prop := fnPageValidRow.holds Try.pinned (OpenSpec.ofChange fnPageValidSpec)

/-- ITS FALSE NEIGHBOUR: 'it returns false'. Refute it at one input. -/
def fnPageValidWrong : ChangeSpec := { name := "fnPageValid", fn := fun _ => fun
  | [d] => { results := [.lit (.bool false)], args := [d] }
  | _ => none }
def FnPageValidWrongFalsely : Prop := fnPageValidRow.holds Try.pinned (OpenSpec.ofChange fnPageValidWrong)

/-- 'laws.FnBitHas': WHATEVER THE INPUT: true; the input reads as it did. -/
def fnBitHasSpec : ChangeSpec := { name := "fnBitHas", fn := fun _ => fun
  | [d] => { results := [.lit (.bool true)], args := [d] }
  | _ => none }
def fnBitHasRow : OpenClaim := { program := "ytejppibmjckckaa", sum := "7018f19edcaa6a71071976f917f14914381d02871233e637f8ebc709dada6ba5", func := "loop.example/flashfiles/laws.FnBitHas", spec := "fnBitHas", apart := false }
def FnBitHasSaid : Prop := fnBitHasRow.holds Try.pinned (OpenSpec.ofChange fnBitHasSpec)

/-- ITS FALSE NEIGHBOUR: 'it returns false'. Refute it at one input. -/
def fnBitHasWrong : ChangeSpec := { name := "fnBitHas", fn := fun _ => fun
  | [d] => { results := [.lit (.bool false)], args := [d] }
  | _ => none }
def FnBitHasWrongFalsely : Prop := fnBitHasRow.holds Try.pinned (OpenSpec.ofChange fnBitHasWrong)

/-- 'laws.FnBitFirst': WHATEVER THE INPUT: true; the input reads as it did. -/
def fnBitFirstSpec : ChangeSpec := { name := "fnBitFirst", fn := fun _ => fun
  | [d] => { results := [.lit (.bool true)], args := [d] }
  | _ => none }
def fnBitFirstRow : OpenClaim := { program := "ytejppibmjckckaa", sum := "7018f19edcaa6a71071976f917f14914381d02871233e637f8ebc709dada6ba5", func := "loop.example/flashfiles/laws.FnBitFirst", spec := "fnBitFirst", apart := false }
def FnBitFirstSaid : Prop := fnBitFirstRow.holds Try.pinned (OpenSpec.ofChange fnBitFirstSpec)

/-- ITS FALSE NEIGHBOUR: 'it returns false'. Refute it at one input. -/
def fnBitFirstWrong : ChangeSpec := { name := "fnBitFirst", fn := fun _ => fun
  | [d] => { results := [.lit (.bool false)], args := [d] }
  | _ => none }
def FnBitFirstWrongFalsely : Prop := fnBitFirstRow.holds Try.pinned (OpenSpec.ofChange fnBitFirstWrong)

/-- 'laws.FnSamePlace': WHATEVER THE INPUT: true; the input reads as it did. -/
def fnSamePlaceSpec : ChangeSpec := { name := "fnSamePlace", fn := fun _ => fun
  | [d] => { results := [.lit (.bool true)], args := [d] }
  | _ => none }
def fnSamePlaceRow : OpenClaim := { program := "ytejppibmjckckaa", sum := "7018f19edcaa6a71071976f917f14914381d02871233e637f8ebc709dada6ba5", func := "loop.example/flashfiles/laws.FnSamePlace", spec := "fnSamePlace", apart := false }
def FnSamePlaceSaid : Prop := fnSamePlaceRow.holds Try.pinned (OpenSpec.ofChange fnSamePlaceSpec)

/-- ITS FALSE NEIGHBOUR: 'it returns false'. Refute it at one input. -/
def fnSamePlaceWrong : ChangeSpec := { name := "fnSamePlace", fn := fun _ => fun
  | [d] => { results := [.lit (.bool false)], args := [d] }
  | _ => none }
def FnSamePlaceWrongFalsely : Prop := fnSamePlaceRow.holds Try.pinned (OpenSpec.ofChange fnSamePlaceWrong)

/-- 'laws.FnBitPut': WHATEVER THE INPUT: true; the input reads as it did. -/
def fnBitPutSpec : ChangeSpec := { name := "fnBitPut", fn := fun _ => fun
  | [d] => { results := [.lit (.bool true)], args := [d] }
  | _ => none }
def fnBitPutRow : OpenClaim := { program := "ytejppibmjckckaa", sum := "7018f19edcaa6a71071976f917f14914381d02871233e637f8ebc709dada6ba5", func := "loop.example/flashfiles/laws.FnBitPut", spec := "fnBitPut", apart := false }
def FnBitPutSaid : Prop := fnBitPutRow.holds Try.pinned (OpenSpec.ofChange fnBitPutSpec)

/-- ITS FALSE NEIGHBOUR: 'it returns false'. Refute it at one input. -/
def fnBitPutWrong : ChangeSpec := { name := "fnBitPut", fn := fun _ => fun
  | [d] => { results := [.lit (.bool false)], args := [d] }
  | _ => none }
def FnBitPutWrongFalsely : Prop := fnBitPutRow.holds Try.pinned (OpenSpec.ofChange fnBitPutWrong)

/-- 'laws.FnNewerPage': WHATEVER THE INPUT: true; the input reads as it did. -/
def fnNewerPageSpec : ChangeSpec := { name := "fnNewerPage", fn := fun _ => fun
  | [d] => { results := [.lit (.bool true)], args := [d] }
  | _ => none }
def fnNewerPageRow : OpenClaim := { program := "ytejppibmjckckaa", sum := "7018f19edcaa6a71071976f917f14914381d02871233e637f8ebc709dada6ba5", func := "loop.example/flashfiles/laws.FnNewerPage", spec := "fnNewerPage", apart := false }
def FnNewerPageSaid : Prop := fnNewerPageRow.holds Try.pinned (OpenSpec.ofChange fnNewerPageSpec)

/-- ITS FALSE NEIGHBOUR: 'it returns false'. Refute it at one input. -/
def fnNewerPageWrong : ChangeSpec := { name := "fnNewerPage", fn := fun _ => fun
  | [d] => { results := [.lit (.bool false)], args := [d] }
  | _ => none }
def FnNewerPageWrongFalsely : Prop := fnNewerPageRow.holds Try.pinned (OpenSpec.ofChange fnNewerPageWrong)

/-- 'laws.FnFlipBit': WHATEVER THE INPUT: true; the input reads as it did. -/
def fnFlipBitSpec : ChangeSpec := { name := "fnFlipBit", fn := fun _ => fun
  | [d] => { results := [.lit (.bool true)], args := [d] }
  | _ => none }
def fnFlipBitRow : OpenClaim := { program := "ytejppibmjckckaa", sum := "7018f19edcaa6a71071976f917f14914381d02871233e637f8ebc709dada6ba5", func := "loop.example/flashfiles/laws.FnFlipBit", spec := "fnFlipBit", apart := false }
def FnFlipBitSaid : Prop := fnFlipBitRow.holds Try.pinned (OpenSpec.ofChange fnFlipBitSpec)

/-- ITS FALSE NEIGHBOUR: 'it returns false'. Refute it at one input. -/
def fnFlipBitWrong : ChangeSpec := { name := "fnFlipBit", fn := fun _ => fun
  | [d] => { results := [.lit (.bool false)], args := [d] }
  | _ => none }
def FnFlipBitWrongFalsely : Prop := fnFlipBitRow.holds Try.pinned (OpenSpec.ofChange fnFlipBitWrong)

/-- 'laws.FnNewBlock': WHATEVER THE INPUT: true; the input reads as it did. -/
def fnNewBlockSpec : ChangeSpec := { name := "fnNewBlock", fn := fun _ => fun
  | [d] => { results := [.lit (.bool true)], args := [d] }
  | _ => none }
def fnNewBlockRow : OpenClaim := { program := "ytejppibmjckckaa", sum := "7018f19edcaa6a71071976f917f14914381d02871233e637f8ebc709dada6ba5", func := "loop.example/flashfiles/laws.FnNewBlock", spec := "fnNewBlock", apart := false }
def FnNewBlockSaid : Prop := fnNewBlockRow.holds Try.pinned (OpenSpec.ofChange fnNewBlockSpec)

/-- ITS FALSE NEIGHBOUR: 'it returns false'. Refute it at one input. -/
def fnNewBlockWrong : ChangeSpec := { name := "fnNewBlock", fn := fun _ => fun
  | [d] => { results := [.lit (.bool false)], args := [d] }
  | _ => none }
def FnNewBlockWrongFalsely : Prop := fnNewBlockRow.holds Try.pinned (OpenSpec.ofChange fnNewBlockWrong)

/-- 'laws.FnWordsApart': WHATEVER THE INPUT: true; the input reads as it did. -/
def fnWordsApartSpec : ChangeSpec := { name := "fnWordsApart", fn := fun _ => fun
  | [d] => { results := [.lit (.bool true)], args := [d] }
  | _ => none }
def fnWordsApartRow : OpenClaim := { program := "ytejppibmjckckaa", sum := "7018f19edcaa6a71071976f917f14914381d02871233e637f8ebc709dada6ba5", func := "loop.example/flashfiles/laws.FnWordsApart", spec := "fnWordsApart", apart := false }
def FnWordsApartSaid : Prop := fnWordsApartRow.holds Try.pinned (OpenSpec.ofChange fnWordsApartSpec)

/-- ITS FALSE NEIGHBOUR: 'it returns false'. Refute it at one input. -/
def fnWordsApartWrong : ChangeSpec := { name := "fnWordsApart", fn := fun _ => fun
  | [d] => { results := [.lit (.bool false)], args := [d] }
  | _ => none }
def FnWordsApartWrongFalsely : Prop := fnWordsApartRow.holds Try.pinned (OpenSpec.ofChange fnWordsApartWrong)

/-- 'laws.FnCodeWord': WHATEVER THE INPUT: true; the input reads as it did. -/
def fnCodeWordSpec : ChangeSpec := { name := "fnCodeWord", fn := fun _ => fun
  | [d] => { results := [.lit (.bool true)], args := [d] }
  | _ => none }
def fnCodeWordRow : OpenClaim := { program := "ytejppibmjckckaa", sum := "7018f19edcaa6a71071976f917f14914381d02871233e637f8ebc709dada6ba5", func := "loop.example/flashfiles/laws.FnCodeWord", spec := "fnCodeWord", apart := false }
def FnCodeWordSaid : Prop := fnCodeWordRow.holds Try.pinned (OpenSpec.ofChange fnCodeWordSpec)

/-- ITS FALSE NEIGHBOUR: 'it returns false'. Refute it at one input. -/
def fnCodeWordWrong : ChangeSpec := { name := "fnCodeWord", fn := fun _ => fun
  | [d] => { results := [.lit (.bool false)], args := [d] }
  | _ => none }
def FnCodeWordWrongFalsely : Prop := fnCodeWordRow.holds Try.pinned (OpenSpec.ofChange fnCodeWordWrong)

/-- 'laws.FnFixWord': WHATEVER THE INPUT: true; the input reads as it did. -/
def fnFixWordSpec : ChangeSpec := { name := "fnFixWord", fn := fun _ => fun
  | [d] => { results := [.lit (.bool true)], args := [d] }
  | _ => none }
def fnFixWordRow : OpenClaim := { program := "ytejppibmjckckaa", sum := "7018f19edcaa6a71071976f917f14914381d02871233e637f8ebc709dada6ba5", func := "loop.example/flashfiles/laws.FnFixWord", spec := "fnFixWord", apart := false }
def FnFixWordSaid : Prop := fnFixWordRow.holds Try.pinned (OpenSpec.ofChange fnFixWordSpec)

/-- ITS FALSE NEIGHBOUR: 'it returns false'. Refute it at one input. -/
def fnFixWordWrong : ChangeSpec := { name := "fnFixWord", fn := fun _ => fun
  | [d] => { results := [.lit (.bool false)], args := [d] }
  | _ => none }
def FnFixWordWrongFalsely : Prop := fnFixWordRow.holds Try.pinned (OpenSpec.ofChange fnFixWordWrong)

/- THE SECOND FORM. 'bulk': how many values and letters a reading holds, each counted each time it is reached (what is shared counts as often as it is met; a slice's spare places count too). A statement '..UptoSaid' is the law's where the arguments, and the package variables that the reading takes, are together of bulk at most 1048576: NARROWER than '..Said'. Prove '..Said' where nothing that the law and all that it calls make is longer than what came in: it says more and counts as full. Else prove '..UptoSaid'. A law counts once. -/
mutual
def uptoBulk {H : Type} : DataW H → Nat
  | .lit (.string bytes) => bytes.length + 1
  | .lit _ => 1
  | .nil => 1
  | .ptr d => uptoBulk d + 1
  | .slice elems spare => uptoBulkAll elems + uptoBulkAll spare + 1
  | .agg parts => uptoBulkAll parts + 1
  | .iface _ d => uptoBulk d + 1
  | .map entries => uptoBulkEntries entries + 1
  | .held _ => 1
def uptoBulkAll {H : Type} : List (DataW H) → Nat
  | [] => 0
  | d :: r => uptoBulk d + uptoBulkAll r
def uptoBulkEntries {H : Type} : List (Lit × DataW H) → Nat
  | [] => 0
  | x :: r => uptoBulkEntry x + uptoBulkEntries r
def uptoBulkEntry {H : Type} : Lit × DataW H → Nat
  | (.string bytes, d) => bytes.length + uptoBulk d + 1
  | (_, d) => uptoBulk d + 1
 end
def uptoSmall : (H : Type) → List (DataW H) → Bool := fun _ ds => decide (uptoBulkAll ds ≤ 1048576)
def OpenSpec.upto (s : _root_.Go.ChangeSpec) : _root_.Go.OpenSpec := { _root_.Go.OpenSpec.ofChange s with cond := some uptoSmall }

/-- 'laws.FnBitCount', WHERE WHAT IT READS IS OF BULK AT MOST 1048576: true; the input reads as it did. -/
def fnBitCountUptoRow : OpenClaim := { program := "ytejppibmjckckaa", sum := "7018f19edcaa6a71071976f917f14914381d02871233e637f8ebc709dada6ba5", func := "loop.example/flashfiles/laws.FnBitCount", spec := "fnBitCount", apart := false, narrowed := true }
def FnBitCountUptoSaid : Prop := fnBitCountUptoRow.holds Try.pinned (OpenSpec.upto fnBitCountSpec)

/-- 'laws.FnPageValid', WHERE WHAT IT READS IS OF BULK AT MOST 1048576: true; the input reads as it did. -/
def fnPageValidUptoRow : OpenClaim := { program := "ytejppibmjckckaa", sum := "7018f19edcaa6a71071976f917f14914381d02871233e637f8ebc709dada6ba5", func := "loop.example/flashfiles/laws.FnPageValid", spec := "fnPageValid", apart := false, narrowed := true }
def FnPageValidUptoSaid : Prop := fnPageValidUptoRow.holds Try.pinned (OpenSpec.upto fnPageValidSpec)

/-- 'laws.FnBitHas', WHERE WHAT IT READS IS OF BULK AT MOST 1048576: true; the input reads as it did. -/
def fnBitHasUptoRow : OpenClaim := { program := "ytejppibmjckckaa", sum := "7018f19edcaa6a71071976f917f14914381d02871233e637f8ebc709dada6ba5", func := "loop.example/flashfiles/laws.FnBitHas", spec := "fnBitHas", apart := false, narrowed := true }
def FnBitHasUptoSaid : Prop := fnBitHasUptoRow.holds Try.pinned (OpenSpec.upto fnBitHasSpec)

/-- 'laws.FnBitFirst', WHERE WHAT IT READS IS OF BULK AT MOST 1048576: true; the input reads as it did. -/
def fnBitFirstUptoRow : OpenClaim := { program := "ytejppibmjckckaa", sum := "7018f19edcaa6a71071976f917f14914381d02871233e637f8ebc709dada6ba5", func := "loop.example/flashfiles/laws.FnBitFirst", spec := "fnBitFirst", apart := false, narrowed := true }
def FnBitFirstUptoSaid : Prop := fnBitFirstUptoRow.holds Try.pinned (OpenSpec.upto fnBitFirstSpec)

/-- 'laws.FnSamePlace', WHERE WHAT IT READS IS OF BULK AT MOST 1048576: true; the input reads as it did. -/
def fnSamePlaceUptoRow : OpenClaim := { program := "ytejppibmjckckaa", sum := "7018f19edcaa6a71071976f917f14914381d02871233e637f8ebc709dada6ba5", func := "loop.example/flashfiles/laws.FnSamePlace", spec := "fnSamePlace", apart := false, narrowed := true }
def FnSamePlaceUptoSaid : Prop := fnSamePlaceUptoRow.holds Try.pinned (OpenSpec.upto fnSamePlaceSpec)

/-- 'laws.FnBitPut', WHERE WHAT IT READS IS OF BULK AT MOST 1048576: true; the input reads as it did. -/
def fnBitPutUptoRow : OpenClaim := { program := "ytejppibmjckckaa", sum := "7018f19edcaa6a71071976f917f14914381d02871233e637f8ebc709dada6ba5", func := "loop.example/flashfiles/laws.FnBitPut", spec := "fnBitPut", apart := false, narrowed := true }
def FnBitPutUptoSaid : Prop := fnBitPutUptoRow.holds Try.pinned (OpenSpec.upto fnBitPutSpec)

/-- 'laws.FnNewerPage', WHERE WHAT IT READS IS OF BULK AT MOST 1048576: true; the input reads as it did. -/
def fnNewerPageUptoRow : OpenClaim := { program := "ytejppibmjckckaa", sum := "7018f19edcaa6a71071976f917f14914381d02871233e637f8ebc709dada6ba5", func := "loop.example/flashfiles/laws.FnNewerPage", spec := "fnNewerPage", apart := false, narrowed := true }
def FnNewerPageUptoSaid : Prop := fnNewerPageUptoRow.holds Try.pinned (OpenSpec.upto fnNewerPageSpec)

/-- 'laws.FnFlipBit', WHERE WHAT IT READS IS OF BULK AT MOST 1048576: true; the input reads as it did. -/
def fnFlipBitUptoRow : OpenClaim := { program := "ytejppibmjckckaa", sum := "7018f19edcaa6a71071976f917f14914381d02871233e637f8ebc709dada6ba5", func := "loop.example/flashfiles/laws.FnFlipBit", spec := "fnFlipBit", apart := false, narrowed := true }
def FnFlipBitUptoSaid : Prop := fnFlipBitUptoRow.holds Try.pinned (OpenSpec.upto fnFlipBitSpec)

/-- 'laws.FnNewBlock', WHERE WHAT IT READS IS OF BULK AT MOST 1048576: true; the input reads as it did. -/
def fnNewBlockUptoRow : OpenClaim := { program := "ytejppibmjckckaa", sum := "7018f19edcaa6a71071976f917f14914381d02871233e637f8ebc709dada6ba5", func := "loop.example/flashfiles/laws.FnNewBlock", spec := "fnNewBlock", apart := false, narrowed := true }
def FnNewBlockUptoSaid : Prop := fnNewBlockUptoRow.holds Try.pinned (OpenSpec.upto fnNewBlockSpec)

/-- 'laws.FnWordsApart', WHERE WHAT IT READS IS OF BULK AT MOST 1048576: true; the input reads as it did. -/
def fnWordsApartUptoRow : OpenClaim := { program := "ytejppibmjckckaa", sum := "7018f19edcaa6a71071976f917f14914381d02871233e637f8ebc709dada6ba5", func := "loop.example/flashfiles/laws.FnWordsApart", spec := "fnWordsApart", apart := false, narrowed := true }
def FnWordsApartUptoSaid : Prop := fnWordsApartUptoRow.holds Try.pinned (OpenSpec.upto fnWordsApartSpec)

/-- 'laws.FnCodeWord', WHERE WHAT IT READS IS OF BULK AT MOST 1048576: true; the input reads as it did. -/
def fnCodeWordUptoRow : OpenClaim := { program := "ytejppibmjckckaa", sum := "7018f19edcaa6a71071976f917f14914381d02871233e637f8ebc709dada6ba5", func := "loop.example/flashfiles/laws.FnCodeWord", spec := "fnCodeWord", apart := false, narrowed := true }
def FnCodeWordUptoSaid : Prop := fnCodeWordUptoRow.holds Try.pinned (OpenSpec.upto fnCodeWordSpec)

/-- 'laws.FnFixWord', WHERE WHAT IT READS IS OF BULK AT MOST 1048576: true; the input reads as it did. -/
def fnFixWordUptoRow : OpenClaim := { program := "ytejppibmjckckaa", sum := "7018f19edcaa6a71071976f917f14914381d02871233e637f8ebc709dada6ba5", func := "loop.example/flashfiles/laws.FnFixWord", spec := "fnFixWord", apart := false, narrowed := true }
def FnFixWordUptoSaid : Prop := fnFixWordUptoRow.holds Try.pinned (OpenSpec.upto fnFixWordSpec)

end Rows
end Go.Proofs.Ytejppibmjckckaa
