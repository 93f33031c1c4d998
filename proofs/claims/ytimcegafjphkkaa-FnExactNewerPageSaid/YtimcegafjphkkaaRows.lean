/-
  No cell of these rows narrows 'for every input' (looked for: loops, veiled, ifaces, maps, wideKeys, modest, calm, conditions, laid).
  DERIVED. THE GIVEN ROWS OF THIS SEAT. 12 by the template 'for every input the law returns true; each argument reads behind the call as it read before'; 0 by the template 'total and deterministic' (their statements: YtimcegafjphkkaaTotals.lean).
  GIVEN WITH THE SEED: the statements are not yours to turn. If you find one false, say at which input.
  Laid BY PROGRAM, IN A SANDBOX (cutbox-rows.mjs): the forced cells as the released guide's own fill.sh prints them over the translation 1c9c6146d4819617… (all of the seat's roots in one cut). By AI agents, Wed Nov 11 2026. No macro, syntax, notation, axiom, sorry.
-/
import Derived.Test.YtimcegafjphkkaaChecked
import GoSem.Claim
import GoSem.ClaimJoined
import GoSem.ClaimMapViews
import Derived.JoinedTies
import Derived.KernelRfl
namespace Go.Proofs.Ytimcegafjphkkaa
/- THE CELL 'sum', in the pinned program and in every row, IS THE sha256 OF THE DUMP (.gsa) THAT YtimcegafjphkkaaProg.lean LOADS. Nothing in Lean hashes anything: it is a label: what it is worth is what the hold of that sum in a sandbox is worth. -/
noncomputable def Try.pinned : Pinned := { name := "ytimcegafjphkkaa", sum := "1c9c6146d4819617529bce9bff6f4b9f4f02cd244001aa1f2622396194d28ac0", checked := Try.checked }
namespace Rows
def none {H : Type} : Left H := { results := [], args := [] }

/-- 'laws.FnExactConstants': WHATEVER THE INPUT: true; the input reads as it did. -/
def fnExactConstantsSpec : ChangeSpec := { name := "fnExactConstants", fn := fun _ => fun
  | [] => { results := [.lit (.bool true)], args := [] }
  | _ => none }
def fnExactConstantsRow : OpenClaim := { program := "ytimcegafjphkkaa", sum := "1c9c6146d4819617529bce9bff6f4b9f4f02cd244001aa1f2622396194d28ac0", func := "loop.example/flashfiles/laws.FnExactConstants", spec := "fnExactConstants", apart := false }
def FnExactConstantsSaid : Prop := fnExactConstantsRow.holds Try.pinned (OpenSpec.ofChange fnExactConstantsSpec)

/-- ITS FALSE NEIGHBOUR: 'it returns false'. Refute it at one input. -/
def fnExactConstantsWrong : ChangeSpec := { name := "fnExactConstants", fn := fun _ => fun
  | [] => { results := [.lit (.bool false)], args := [] }
  | _ => none }
def FnExactConstantsWrongFalsely : Prop := fnExactConstantsRow.holds Try.pinned (OpenSpec.ofChange fnExactConstantsWrong)

/-- 'laws.FnExactBitHas': WHATEVER THE INPUT: true; the input reads as it did. -/
def fnExactBitHasSpec : ChangeSpec := { name := "fnExactBitHas", fn := fun _ => fun
  | [d1, d2] => { results := [.lit (.bool true)], args := [d1, d2] }
  | _ => none }
def fnExactBitHasRow : OpenClaim := { program := "ytimcegafjphkkaa", sum := "1c9c6146d4819617529bce9bff6f4b9f4f02cd244001aa1f2622396194d28ac0", func := "loop.example/flashfiles/laws.FnExactBitHas", spec := "fnExactBitHas", apart := false }
def FnExactBitHasSaid : Prop := fnExactBitHasRow.holds Try.pinned (OpenSpec.ofChange fnExactBitHasSpec)

/-- ITS FALSE NEIGHBOUR: 'it returns false'. Refute it at one input. -/
def fnExactBitHasWrong : ChangeSpec := { name := "fnExactBitHas", fn := fun _ => fun
  | [d1, d2] => { results := [.lit (.bool false)], args := [d1, d2] }
  | _ => none }
def FnExactBitHasWrongFalsely : Prop := fnExactBitHasRow.holds Try.pinned (OpenSpec.ofChange fnExactBitHasWrong)

/-- 'laws.FnExactFlipBit': WHATEVER THE INPUT: true; the input reads as it did. -/
def fnExactFlipBitSpec : ChangeSpec := { name := "fnExactFlipBit", fn := fun _ => fun
  | [d1, d2] => { results := [.lit (.bool true)], args := [d1, d2] }
  | _ => none }
def fnExactFlipBitRow : OpenClaim := { program := "ytimcegafjphkkaa", sum := "1c9c6146d4819617529bce9bff6f4b9f4f02cd244001aa1f2622396194d28ac0", func := "loop.example/flashfiles/laws.FnExactFlipBit", spec := "fnExactFlipBit", apart := false }
def FnExactFlipBitSaid : Prop := fnExactFlipBitRow.holds Try.pinned (OpenSpec.ofChange fnExactFlipBitSpec)

/-- ITS FALSE NEIGHBOUR: 'it returns false'. Refute it at one input. -/
def fnExactFlipBitWrong : ChangeSpec := { name := "fnExactFlipBit", fn := fun _ => fun
  | [d1, d2] => { results := [.lit (.bool false)], args := [d1, d2] }
  | _ => none }
def FnExactFlipBitWrongFalsely : Prop := fnExactFlipBitRow.holds Try.pinned (OpenSpec.ofChange fnExactFlipBitWrong)

/-- 'laws.FnExactBitPut': WHATEVER THE INPUT: true; the input reads as it did. -/
def fnExactBitPutSpec : ChangeSpec := { name := "fnExactBitPut", fn := fun _ => fun
  | [d1, d2, d3] => { results := [.lit (.bool true)], args := [d1, d2, d3] }
  | _ => none }
def fnExactBitPutRow : OpenClaim := { program := "ytimcegafjphkkaa", sum := "1c9c6146d4819617529bce9bff6f4b9f4f02cd244001aa1f2622396194d28ac0", func := "loop.example/flashfiles/laws.FnExactBitPut", spec := "fnExactBitPut", apart := false }
def FnExactBitPutSaid : Prop := fnExactBitPutRow.holds Try.pinned (OpenSpec.ofChange fnExactBitPutSpec)

/-- ITS FALSE NEIGHBOUR: 'it returns false'. Refute it at one input. -/
def fnExactBitPutWrong : ChangeSpec := { name := "fnExactBitPut", fn := fun _ => fun
  | [d1, d2, d3] => { results := [.lit (.bool false)], args := [d1, d2, d3] }
  | _ => none }
def FnExactBitPutWrongFalsely : Prop := fnExactBitPutRow.holds Try.pinned (OpenSpec.ofChange fnExactBitPutWrong)

/-- 'laws.FnExactBitCount': WHATEVER THE INPUT: true; the input reads as it did. -/
def fnExactBitCountSpec : ChangeSpec := { name := "fnExactBitCount", fn := fun _ => fun
  | [d] => { results := [.lit (.bool true)], args := [d] }
  | _ => none }
def fnExactBitCountRow : OpenClaim := { program := "ytimcegafjphkkaa", sum := "1c9c6146d4819617529bce9bff6f4b9f4f02cd244001aa1f2622396194d28ac0", func := "loop.example/flashfiles/laws.FnExactBitCount", spec := "fnExactBitCount", apart := false }
def FnExactBitCountSaid : Prop := fnExactBitCountRow.holds Try.pinned (OpenSpec.ofChange fnExactBitCountSpec)

/-- ITS FALSE NEIGHBOUR: 'it returns false'. Refute it at one input. -/
def fnExactBitCountWrong : ChangeSpec := { name := "fnExactBitCount", fn := fun _ => fun
  | [d] => { results := [.lit (.bool false)], args := [d] }
  | _ => none }
def FnExactBitCountWrongFalsely : Prop := fnExactBitCountRow.holds Try.pinned (OpenSpec.ofChange fnExactBitCountWrong)

/-- 'laws.FnExactBitFirst': WHATEVER THE INPUT: true; the input reads as it did. -/
def fnExactBitFirstSpec : ChangeSpec := { name := "fnExactBitFirst", fn := fun _ => fun
  | [d] => { results := [.lit (.bool true)], args := [d] }
  | _ => none }
def fnExactBitFirstRow : OpenClaim := { program := "ytimcegafjphkkaa", sum := "1c9c6146d4819617529bce9bff6f4b9f4f02cd244001aa1f2622396194d28ac0", func := "loop.example/flashfiles/laws.FnExactBitFirst", spec := "fnExactBitFirst", apart := false }
def FnExactBitFirstSaid : Prop := fnExactBitFirstRow.holds Try.pinned (OpenSpec.ofChange fnExactBitFirstSpec)

/-- ITS FALSE NEIGHBOUR: 'it returns false'. Refute it at one input. -/
def fnExactBitFirstWrong : ChangeSpec := { name := "fnExactBitFirst", fn := fun _ => fun
  | [d] => { results := [.lit (.bool false)], args := [d] }
  | _ => none }
def FnExactBitFirstWrongFalsely : Prop := fnExactBitFirstRow.holds Try.pinned (OpenSpec.ofChange fnExactBitFirstWrong)

/-- 'laws.FnExactPageValid': WHATEVER THE INPUT: true; the input reads as it did. -/
def fnExactPageValidSpec : ChangeSpec := { name := "fnExactPageValid", fn := fun _ => fun
  | [d] => { results := [.lit (.bool true)], args := [d] }
  | _ => none }
def fnExactPageValidRow : OpenClaim := { program := "ytimcegafjphkkaa", sum := "1c9c6146d4819617529bce9bff6f4b9f4f02cd244001aa1f2622396194d28ac0", func := "loop.example/flashfiles/laws.FnExactPageValid", spec := "fnExactPageValid", apart := false }
def FnExactPageValidSaid : Prop := fnExactPageValidRow.holds Try.pinned (OpenSpec.ofChange fnExactPageValidSpec)

/-- ITS FALSE NEIGHBOUR: 'it returns false'. Refute it at one input. -/
def fnExactPageValidWrong : ChangeSpec := { name := "fnExactPageValid", fn := fun _ => fun
  | [d] => { results := [.lit (.bool false)], args := [d] }
  | _ => none }
def FnExactPageValidWrongFalsely : Prop := fnExactPageValidRow.holds Try.pinned (OpenSpec.ofChange fnExactPageValidWrong)

/-- 'laws.FnExactWordsApart': WHATEVER THE INPUT: true; the input reads as it did. -/
def fnExactWordsApartSpec : ChangeSpec := { name := "fnExactWordsApart", fn := fun _ => fun
  | [d1, d2] => { results := [.lit (.bool true)], args := [d1, d2] }
  | _ => none }
def fnExactWordsApartRow : OpenClaim := { program := "ytimcegafjphkkaa", sum := "1c9c6146d4819617529bce9bff6f4b9f4f02cd244001aa1f2622396194d28ac0", func := "loop.example/flashfiles/laws.FnExactWordsApart", spec := "fnExactWordsApart", apart := false }
def FnExactWordsApartSaid : Prop := fnExactWordsApartRow.holds Try.pinned (OpenSpec.ofChange fnExactWordsApartSpec)

/-- ITS FALSE NEIGHBOUR: 'it returns false'. Refute it at one input. -/
def fnExactWordsApartWrong : ChangeSpec := { name := "fnExactWordsApart", fn := fun _ => fun
  | [d1, d2] => { results := [.lit (.bool false)], args := [d1, d2] }
  | _ => none }
def FnExactWordsApartWrongFalsely : Prop := fnExactWordsApartRow.holds Try.pinned (OpenSpec.ofChange fnExactWordsApartWrong)

/-- 'laws.FnExactSamePlace': WHATEVER THE INPUT: true; the input reads as it did. -/
def fnExactSamePlaceSpec : ChangeSpec := { name := "fnExactSamePlace", fn := fun _ => fun
  | [d1, d2] => { results := [.lit (.bool true)], args := [d1, d2] }
  | _ => none }
def fnExactSamePlaceRow : OpenClaim := { program := "ytimcegafjphkkaa", sum := "1c9c6146d4819617529bce9bff6f4b9f4f02cd244001aa1f2622396194d28ac0", func := "loop.example/flashfiles/laws.FnExactSamePlace", spec := "fnExactSamePlace", apart := false }
def FnExactSamePlaceSaid : Prop := fnExactSamePlaceRow.holds Try.pinned (OpenSpec.ofChange fnExactSamePlaceSpec)

/-- ITS FALSE NEIGHBOUR: 'it returns false'. Refute it at one input. -/
def fnExactSamePlaceWrong : ChangeSpec := { name := "fnExactSamePlace", fn := fun _ => fun
  | [d1, d2] => { results := [.lit (.bool false)], args := [d1, d2] }
  | _ => none }
def FnExactSamePlaceWrongFalsely : Prop := fnExactSamePlaceRow.holds Try.pinned (OpenSpec.ofChange fnExactSamePlaceWrong)

/-- 'laws.FnExactCodeWord': WHATEVER THE INPUT: true; the input reads as it did. -/
def fnExactCodeWordSpec : ChangeSpec := { name := "fnExactCodeWord", fn := fun _ => fun
  | [d] => { results := [.lit (.bool true)], args := [d] }
  | _ => none }
def fnExactCodeWordRow : OpenClaim := { program := "ytimcegafjphkkaa", sum := "1c9c6146d4819617529bce9bff6f4b9f4f02cd244001aa1f2622396194d28ac0", func := "loop.example/flashfiles/laws.FnExactCodeWord", spec := "fnExactCodeWord", apart := false }
def FnExactCodeWordSaid : Prop := fnExactCodeWordRow.holds Try.pinned (OpenSpec.ofChange fnExactCodeWordSpec)

/-- ITS FALSE NEIGHBOUR: 'it returns false'. Refute it at one input. -/
def fnExactCodeWordWrong : ChangeSpec := { name := "fnExactCodeWord", fn := fun _ => fun
  | [d] => { results := [.lit (.bool false)], args := [d] }
  | _ => none }
def FnExactCodeWordWrongFalsely : Prop := fnExactCodeWordRow.holds Try.pinned (OpenSpec.ofChange fnExactCodeWordWrong)

/-- 'laws.FnExactNewerPage': WHATEVER THE INPUT: true; the input reads as it did. -/
def fnExactNewerPageSpec : ChangeSpec := { name := "fnExactNewerPage", fn := fun _ => fun
  | [d1, d2] => { results := [.lit (.bool true)], args := [d1, d2] }
  | _ => none }
def fnExactNewerPageRow : OpenClaim := { program := "ytimcegafjphkkaa", sum := "1c9c6146d4819617529bce9bff6f4b9f4f02cd244001aa1f2622396194d28ac0", func := "loop.example/flashfiles/laws.FnExactNewerPage", spec := "fnExactNewerPage", apart := false }
def FnExactNewerPageSaid : Prop := fnExactNewerPageRow.holds Try.pinned (OpenSpec.ofChange fnExactNewerPageSpec)

/-- ITS FALSE NEIGHBOUR: 'it returns false'. Refute it at one input. -/
def fnExactNewerPageWrong : ChangeSpec := { name := "fnExactNewerPage", fn := fun _ => fun
  | [d1, d2] => { results := [.lit (.bool false)], args := [d1, d2] }
  | _ => none }
def FnExactNewerPageWrongFalsely : Prop := fnExactNewerPageRow.holds Try.pinned (OpenSpec.ofChange fnExactNewerPageWrong)

/-- 'laws.FnExactFixWord': WHATEVER THE INPUT: true; the input reads as it did. -/
def fnExactFixWordSpec : ChangeSpec := { name := "fnExactFixWord", fn := fun _ => fun
  | [d] => { results := [.lit (.bool true)], args := [d] }
  | _ => none }
def fnExactFixWordRow : OpenClaim := { program := "ytimcegafjphkkaa", sum := "1c9c6146d4819617529bce9bff6f4b9f4f02cd244001aa1f2622396194d28ac0", func := "loop.example/flashfiles/laws.FnExactFixWord", spec := "fnExactFixWord", apart := false }
def FnExactFixWordSaid : Prop := fnExactFixWordRow.holds Try.pinned (OpenSpec.ofChange fnExactFixWordSpec)

/-- ITS FALSE NEIGHBOUR: 'it returns false'. Refute it at one input. -/
def fnExactFixWordWrong : ChangeSpec := { name := "fnExactFixWord", fn := fun _ => fun
  | [d] => { results := [.lit (.bool false)], args := [d] }
  | _ => none }
def FnExactFixWordWrongFalsely : Prop := fnExactFixWordRow.holds Try.pinned (OpenSpec.ofChange fnExactFixWordWrong)

/- THE SECOND FORM. 'bulk': how many values and letters a reading holds, each counted each time it is reached (what is shared counts as often as it is met; a slice's spare places count too). A statement '..UptoSaid' is the law's where the arguments, and the package variables that the reading takes, are together of bulk at most 1048576: NARROWER than '..Said'. Prove '..Said' where nothing that the law and all that it calls make is longer than what came in: it says more and counts as full. Else prove '..UptoSaid'. A law counts once. -/
mutual
def uptoBulk {H : Type} : DataW H → Nat
  | .lit (.string bytes) => bytes.length + 1
  | .lit _ => 1
  | .nil => 1
  | .ptr d => uptoBulk d + 1
  | .slice elems spare => uptoBulkAll elems + uptoBulkAll spare + 1
  | .agg parts => uptoBulkAll parts + 1
  | .iface _ d => uptoBulk d + 1
  | .map entries => uptoBulkEntries entries + 1
  | .held _ => 1
def uptoBulkAll {H : Type} : List (DataW H) → Nat
  | [] => 0
  | d :: r => uptoBulk d + uptoBulkAll r
def uptoBulkEntries {H : Type} : List (Lit × DataW H) → Nat
  | [] => 0
  | x :: r => uptoBulkEntry x + uptoBulkEntries r
def uptoBulkEntry {H : Type} : Lit × DataW H → Nat
  | (.string bytes, d) => bytes.length + uptoBulk d + 1
  | (_, d) => uptoBulk d + 1
 end
def uptoSmall : (H : Type) → List (DataW H) → Bool := fun _ ds => decide (uptoBulkAll ds ≤ 1048576)
def OpenSpec.upto (s : _root_.Go.ChangeSpec) : _root_.Go.OpenSpec := { _root_.Go.OpenSpec.ofChange s with cond := some uptoSmall }

/-- 'laws.FnExactConstants', WHERE WHAT IT READS IS OF BULK AT MOST 1048576: true; the input reads as it did. -/
def fnExactConstantsUptoRow : OpenClaim := { program := "ytimcegafjphkkaa", sum := "1c9c6146d4819617529bce9bff6f4b9f4f02cd244001aa1f2622396194d28ac0", func := "loop.example/flashfiles/laws.FnExactConstants", spec := "fnExactConstants", apart := false, narrowed := true }
def FnExactConstantsUptoSaid : Prop := fnExactConstantsUptoRow.holds Try.pinned (OpenSpec.upto fnExactConstantsSpec)

/-- 'laws.FnExactBitHas', WHERE WHAT IT READS IS OF BULK AT MOST 1048576: true; the input reads as it did. -/
def fnExactBitHasUptoRow : OpenClaim := { program := "ytimcegafjphkkaa", sum := "1c9c6146d4819617529bce9bff6f4b9f4f02cd244001aa1f2622396194d28ac0", func := "loop.example/flashfiles/laws.FnExactBitHas", spec := "fnExactBitHas", apart := false, narrowed := true }
def FnExactBitHasUptoSaid : Prop := fnExactBitHasUptoRow.holds Try.pinned (OpenSpec.upto fnExactBitHasSpec)

/-- 'laws.FnExactFlipBit', WHERE WHAT IT READS IS OF BULK AT MOST 1048576: true; the input reads as it did. -/
def fnExactFlipBitUptoRow : OpenClaim := { program := "ytimcegafjphkkaa", sum := "1c9c6146d4819617529bce9bff6f4b9f4f02cd244001aa1f2622396194d28ac0", func := "loop.example/flashfiles/laws.FnExactFlipBit", spec := "fnExactFlipBit", apart := false, narrowed := true }
def FnExactFlipBitUptoSaid : Prop := fnExactFlipBitUptoRow.holds Try.pinned (OpenSpec.upto fnExactFlipBitSpec)

/-- 'laws.FnExactBitPut', WHERE WHAT IT READS IS OF BULK AT MOST 1048576: true; the input reads as it did. -/
def fnExactBitPutUptoRow : OpenClaim := { program := "ytimcegafjphkkaa", sum := "1c9c6146d4819617529bce9bff6f4b9f4f02cd244001aa1f2622396194d28ac0", func := "loop.example/flashfiles/laws.FnExactBitPut", spec := "fnExactBitPut", apart := false, narrowed := true }
def FnExactBitPutUptoSaid : Prop := fnExactBitPutUptoRow.holds Try.pinned (OpenSpec.upto fnExactBitPutSpec)

/-- 'laws.FnExactBitCount', WHERE WHAT IT READS IS OF BULK AT MOST 1048576: true; the input reads as it did. -/
def fnExactBitCountUptoRow : OpenClaim := { program := "ytimcegafjphkkaa", sum := "1c9c6146d4819617529bce9bff6f4b9f4f02cd244001aa1f2622396194d28ac0", func := "loop.example/flashfiles/laws.FnExactBitCount", spec := "fnExactBitCount", apart := false, narrowed := true }
def FnExactBitCountUptoSaid : Prop := fnExactBitCountUptoRow.holds Try.pinned (OpenSpec.upto fnExactBitCountSpec)

/-- 'laws.FnExactBitFirst', WHERE WHAT IT READS IS OF BULK AT MOST 1048576: true; the input reads as it did. -/
def fnExactBitFirstUptoRow : OpenClaim := { program := "ytimcegafjphkkaa", sum := "1c9c6146d4819617529bce9bff6f4b9f4f02cd244001aa1f2622396194d28ac0", func := "loop.example/flashfiles/laws.FnExactBitFirst", spec := "fnExactBitFirst", apart := false, narrowed := true }
def FnExactBitFirstUptoSaid : Prop := fnExactBitFirstUptoRow.holds Try.pinned (OpenSpec.upto fnExactBitFirstSpec)

/-- 'laws.FnExactPageValid', WHERE WHAT IT READS IS OF BULK AT MOST 1048576: true; the input reads as it did. -/
def fnExactPageValidUptoRow : OpenClaim := { program := "ytimcegafjphkkaa", sum := "1c9c6146d4819617529bce9bff6f4b9f4f02cd244001aa1f2622396194d28ac0", func := "loop.example/flashfiles/laws.FnExactPageValid", spec := "fnExactPageValid", apart := false, narrowed := true }
def FnExactPageValidUptoSaid : Prop := fnExactPageValidUptoRow.holds Try.pinned (OpenSpec.upto fnExactPageValidSpec)

/-- 'laws.FnExactWordsApart', WHERE WHAT IT READS IS OF BULK AT MOST 1048576: true; the input reads as it did. -/
def fnExactWordsApartUptoRow : OpenClaim := { program := "ytimcegafjphkkaa", sum := "1c9c6146d4819617529bce9bff6f4b9f4f02cd244001aa1f2622396194d28ac0", func := "loop.example/flashfiles/laws.FnExactWordsApart", spec := "fnExactWordsApart", apart := false, narrowed := true }
def FnExactWordsApartUptoSaid : Prop := fnExactWordsApartUptoRow.holds Try.pinned (OpenSpec.upto fnExactWordsApartSpec)

/-- 'laws.FnExactSamePlace', WHERE WHAT IT READS IS OF BULK AT MOST 1048576: true; the input reads as it did. -/
def fnExactSamePlaceUptoRow : OpenClaim := { program := "ytimcegafjphkkaa", sum := "1c9c6146d4819617529bce9bff6f4b9f4f02cd244001aa1f2622396194d28ac0", func := "loop.example/flashfiles/laws.FnExactSamePlace", spec := "fnExactSamePlace", apart := false, narrowed := true }
def FnExactSamePlaceUptoSaid : Prop := fnExactSamePlaceUptoRow.holds Try.pinned (OpenSpec.upto fnExactSamePlaceSpec)

/-- 'laws.FnExactCodeWord', WHERE WHAT IT READS IS OF BULK AT MOST 1048576: true; the input reads as it did. -/
def fnExactCodeWordUptoRow : OpenClaim := { program := "ytimcegafjphkkaa", sum := "1c9c6146d4819617529bce9bff6f4b9f4f02cd244001aa1f2622396194d28ac0", func := "loop.example/flashfiles/laws.FnExactCodeWord", spec := "fnExactCodeWord", apart := false, narrowed := true }
def FnExactCodeWordUptoSaid : Prop := fnExactCodeWordUptoRow.holds Try.pinned (OpenSpec.upto fnExactCodeWordSpec)

/-- 'laws.FnExactNewerPage', WHERE WHAT IT READS IS OF BULK AT MOST 1048576: true; the input reads as it did. -/
def fnExactNewerPageUptoRow : OpenClaim := { program := "ytimcegafjphkkaa", sum := "1c9c6146d4819617529bce9bff6f4b9f4f02cd244001aa1f2622396194d28ac0", func := "loop.example/flashfiles/laws.FnExactNewerPage", spec := "fnExactNewerPage", apart := false, narrowed := true }
def FnExactNewerPageUptoSaid : Prop := fnExactNewerPageUptoRow.holds Try.pinned (OpenSpec.upto fnExactNewerPageSpec)

/-- 'laws.FnExactFixWord', WHERE WHAT IT READS IS OF BULK AT MOST 1048576: true; the input reads as it did. -/
def fnExactFixWordUptoRow : OpenClaim := { program := "ytimcegafjphkkaa", sum := "1c9c6146d4819617529bce9bff6f4b9f4f02cd244001aa1f2622396194d28ac0", func := "loop.example/flashfiles/laws.FnExactFixWord", spec := "fnExactFixWord", apart := false, narrowed := true }
def FnExactFixWordUptoSaid : Prop := fnExactFixWordUptoRow.holds Try.pinned (OpenSpec.upto fnExactFixWordSpec)

end Rows
end Go.Proofs.Ytimcegafjphkkaa
