/-
  No cell of these rows narrows 'for every input' (looked for: loops, veiled, ifaces, maps, wideKeys, modest, calm, conditions, laid).
  DERIVED. THE GIVEN ROWS OF THIS SEAT. 10 by the template 'for every input the law returns true; each argument reads behind the call as it read before'; 0 by the template 'total and deterministic' (their statements: YtbcjhnhkpbcmcaaTotals.lean).
  GIVEN WITH THE SEED: the statements are not yours to turn. If you find one false, say at which input.
  Laid BY PROGRAM, IN A SANDBOX (cutbox-rows.mjs): the forced cells as the released guide's own fill.sh prints them over the translation f49b6c730e3789d0… (all of the seat's roots in one cut). By AI agents, Wed Nov 11 2026. No macro, syntax, notation, axiom, sorry.
-/
import Derived.Test.YtbcjhnhkpbcmcaaChecked
import GoSem.Claim
import GoSem.ClaimJoined
import GoSem.ClaimMapViews
import Derived.JoinedTies
import Derived.KernelRfl
namespace Go.Proofs.Ytbcjhnhkpbcmcaa
/- THE CELL 'sum', in the pinned program and in every row, IS THE sha256 OF THE DUMP (.gsa) THAT YtbcjhnhkpbcmcaaProg.lean LOADS. Nothing in Lean hashes anything: it is a label: what it is worth is what the hold of that sum in a sandbox is worth. -/
noncomputable def Try.pinned : Pinned := { name := "ytbcjhnhkpbcmcaa", sum := "f49b6c730e3789d0e1cc94039b1533f057eeb3a6ae525e1dc0d1395c1e724c9b", checked := Try.checked }
namespace Rows
def none {H : Type} : Left H := { results := [], args := [] }

/-- 'laws.FnExactConstants': WHATEVER THE INPUT: true; the input reads as it did. -/
def fnExactConstantsSpec : ChangeSpec := { name := "fnExactConstants", fn := fun _ => fun
  | [] => { results := [.lit (.bool true)], args := [] }
  | _ => none }
def fnExactConstantsRow : OpenClaim := { program := "ytbcjhnhkpbcmcaa", sum := "f49b6c730e3789d0e1cc94039b1533f057eeb3a6ae525e1dc0d1395c1e724c9b", func := "loop.example/s01330/laws.FnExactConstants", spec := "fnExactConstants", apart := false }
def FnExactConstantsSaid : Prop := fnExactConstantsRow.holds Try.pinned (OpenSpec.ofChange fnExactConstantsSpec)

/-- ITS FALSE NEIGHBOUR: 'it returns false'. Refute it at one input. -/
def fnExactConstantsWrong : ChangeSpec := { name := "fnExactConstants", fn := fun _ => fun
  | [] => { results := [.lit (.bool false)], args := [] }
  | _ => none }
def FnExactConstantsWrongFalsely : Prop := fnExactConstantsRow.holds Try.pinned (OpenSpec.ofChange fnExactConstantsWrong)

/-- 'laws.FnExactShiftLeft': WHATEVER THE INPUT: true; the input reads as it did. -/
def fnExactShiftLeftSpec : ChangeSpec := { name := "fnExactShiftLeft", fn := fun _ => fun
  | [d1, d2] => { results := [.lit (.bool true)], args := [d1, d2] }
  | _ => none }
def fnExactShiftLeftRow : OpenClaim := { program := "ytbcjhnhkpbcmcaa", sum := "f49b6c730e3789d0e1cc94039b1533f057eeb3a6ae525e1dc0d1395c1e724c9b", func := "loop.example/s01330/laws.FnExactShiftLeft", spec := "fnExactShiftLeft", apart := false }
def FnExactShiftLeftSaid : Prop := fnExactShiftLeftRow.holds Try.pinned (OpenSpec.ofChange fnExactShiftLeftSpec)

/-- ITS FALSE NEIGHBOUR: 'it returns false'. Refute it at one input. -/
def fnExactShiftLeftWrong : ChangeSpec := { name := "fnExactShiftLeft", fn := fun _ => fun
  | [d1, d2] => { results := [.lit (.bool false)], args := [d1, d2] }
  | _ => none }
def FnExactShiftLeftWrongFalsely : Prop := fnExactShiftLeftRow.holds Try.pinned (OpenSpec.ofChange fnExactShiftLeftWrong)

/-- 'laws.FnExactSubWide': WHATEVER THE INPUT: true; the input reads as it did. -/
def fnExactSubWideSpec : ChangeSpec := { name := "fnExactSubWide", fn := fun _ => fun
  | [d1, d2] => { results := [.lit (.bool true)], args := [d1, d2] }
  | _ => none }
def fnExactSubWideRow : OpenClaim := { program := "ytbcjhnhkpbcmcaa", sum := "f49b6c730e3789d0e1cc94039b1533f057eeb3a6ae525e1dc0d1395c1e724c9b", func := "loop.example/s01330/laws.FnExactSubWide", spec := "fnExactSubWide", inPlace := ["math/bits.Sub64"], apart := false }
def FnExactSubWideSaid : Prop := fnExactSubWideRow.holds Try.pinned (OpenSpec.ofChange fnExactSubWideSpec)

/-- ITS FALSE NEIGHBOUR: 'it returns false'. Refute it at one input. -/
def fnExactSubWideWrong : ChangeSpec := { name := "fnExactSubWide", fn := fun _ => fun
  | [d1, d2] => { results := [.lit (.bool false)], args := [d1, d2] }
  | _ => none }
def FnExactSubWideWrongFalsely : Prop := fnExactSubWideRow.holds Try.pinned (OpenSpec.ofChange fnExactSubWideWrong)

/-- 'laws.FnExactMulWide': WHATEVER THE INPUT: true; the input reads as it did. -/
def fnExactMulWideSpec : ChangeSpec := { name := "fnExactMulWide", fn := fun _ => fun
  | [d1, d2] => { results := [.lit (.bool true)], args := [d1, d2] }
  | _ => none }
def fnExactMulWideRow : OpenClaim := { program := "ytbcjhnhkpbcmcaa", sum := "f49b6c730e3789d0e1cc94039b1533f057eeb3a6ae525e1dc0d1395c1e724c9b", func := "loop.example/s01330/laws.FnExactMulWide", spec := "fnExactMulWide", apart := false }
def FnExactMulWideSaid : Prop := fnExactMulWideRow.holds Try.pinned (OpenSpec.ofChange fnExactMulWideSpec)

/-- ITS FALSE NEIGHBOUR: 'it returns false'. Refute it at one input. -/
def fnExactMulWideWrong : ChangeSpec := { name := "fnExactMulWide", fn := fun _ => fun
  | [d1, d2] => { results := [.lit (.bool false)], args := [d1, d2] }
  | _ => none }
def FnExactMulWideWrongFalsely : Prop := fnExactMulWideRow.holds Try.pinned (OpenSpec.ofChange fnExactMulWideWrong)

/-- 'laws.FnExactAddWide': WHATEVER THE INPUT: true; the input reads as it did. -/
def fnExactAddWideSpec : ChangeSpec := { name := "fnExactAddWide", fn := fun _ => fun
  | [d1, d2] => { results := [.lit (.bool true)], args := [d1, d2] }
  | _ => none }
def fnExactAddWideRow : OpenClaim := { program := "ytbcjhnhkpbcmcaa", sum := "f49b6c730e3789d0e1cc94039b1533f057eeb3a6ae525e1dc0d1395c1e724c9b", func := "loop.example/s01330/laws.FnExactAddWide", spec := "fnExactAddWide", inPlace := ["math/bits.Add64"], apart := false }
def FnExactAddWideSaid : Prop := fnExactAddWideRow.holds Try.pinned (OpenSpec.ofChange fnExactAddWideSpec)

/-- ITS FALSE NEIGHBOUR: 'it returns false'. Refute it at one input. -/
def fnExactAddWideWrong : ChangeSpec := { name := "fnExactAddWide", fn := fun _ => fun
  | [d1, d2] => { results := [.lit (.bool false)], args := [d1, d2] }
  | _ => none }
def FnExactAddWideWrongFalsely : Prop := fnExactAddWideRow.holds Try.pinned (OpenSpec.ofChange fnExactAddWideWrong)

/-- 'laws.FnExactShiftRight': WHATEVER THE INPUT: true; the input reads as it did. -/
def fnExactShiftRightSpec : ChangeSpec := { name := "fnExactShiftRight", fn := fun _ => fun
  | [d1, d2] => { results := [.lit (.bool true)], args := [d1, d2] }
  | _ => none }
def fnExactShiftRightRow : OpenClaim := { program := "ytbcjhnhkpbcmcaa", sum := "f49b6c730e3789d0e1cc94039b1533f057eeb3a6ae525e1dc0d1395c1e724c9b", func := "loop.example/s01330/laws.FnExactShiftRight", spec := "fnExactShiftRight", apart := false }
def FnExactShiftRightSaid : Prop := fnExactShiftRightRow.holds Try.pinned (OpenSpec.ofChange fnExactShiftRightSpec)

/-- ITS FALSE NEIGHBOUR: 'it returns false'. Refute it at one input. -/
def fnExactShiftRightWrong : ChangeSpec := { name := "fnExactShiftRight", fn := fun _ => fun
  | [d1, d2] => { results := [.lit (.bool false)], args := [d1, d2] }
  | _ => none }
def FnExactShiftRightWrongFalsely : Prop := fnExactShiftRightRow.holds Try.pinned (OpenSpec.ofChange fnExactShiftRightWrong)

/-- 'laws.FnExactZeros': WHATEVER THE INPUT: true; the input reads as it did. -/
def fnExactZerosSpec : ChangeSpec := { name := "fnExactZeros", fn := fun _ => fun
  | [d] => { results := [.lit (.bool true)], args := [d] }
  | _ => none }
def fnExactZerosRow : OpenClaim := { program := "ytbcjhnhkpbcmcaa", sum := "f49b6c730e3789d0e1cc94039b1533f057eeb3a6ae525e1dc0d1395c1e724c9b", func := "loop.example/s01330/laws.FnExactZeros", spec := "fnExactZeros", apart := false }
def FnExactZerosSaid : Prop := fnExactZerosRow.holds Try.pinned (OpenSpec.ofChange fnExactZerosSpec)

/-- ITS FALSE NEIGHBOUR: 'it returns false'. Refute it at one input. -/
def fnExactZerosWrong : ChangeSpec := { name := "fnExactZeros", fn := fun _ => fun
  | [d] => { results := [.lit (.bool false)], args := [d] }
  | _ => none }
def FnExactZerosWrongFalsely : Prop := fnExactZerosRow.holds Try.pinned (OpenSpec.ofChange fnExactZerosWrong)

/-- 'laws.FnExactSqrtWide': WHATEVER THE INPUT: true; the input reads as it did. -/
def fnExactSqrtWideSpec : ChangeSpec := { name := "fnExactSqrtWide", fn := fun _ => fun
  | [d] => { results := [.lit (.bool true)], args := [d] }
  | _ => none }
def fnExactSqrtWideRow : OpenClaim := { program := "ytbcjhnhkpbcmcaa", sum := "f49b6c730e3789d0e1cc94039b1533f057eeb3a6ae525e1dc0d1395c1e724c9b", func := "loop.example/s01330/laws.FnExactSqrtWide", spec := "fnExactSqrtWide", inPlace := ["math/bits.Sub64"], apart := false }
def FnExactSqrtWideSaid : Prop := fnExactSqrtWideRow.holds Try.pinned (OpenSpec.ofChange fnExactSqrtWideSpec)

/-- ITS FALSE NEIGHBOUR: 'it returns false'. Refute it at one input. -/
def fnExactSqrtWideWrong : ChangeSpec := { name := "fnExactSqrtWide", fn := fun _ => fun
  | [d] => { results := [.lit (.bool false)], args := [d] }
  | _ => none }
def FnExactSqrtWideWrongFalsely : Prop := fnExactSqrtWideRow.holds Try.pinned (OpenSpec.ofChange fnExactSqrtWideWrong)

/-- 'laws.FnExactDivWide': WHATEVER THE INPUT: true; the input reads as it did. -/
def fnExactDivWideSpec : ChangeSpec := { name := "fnExactDivWide", fn := fun _ => fun
  | [d1, d2] => { results := [.lit (.bool true)], args := [d1, d2] }
  | _ => none }
def fnExactDivWideRow : OpenClaim := { program := "ytbcjhnhkpbcmcaa", sum := "f49b6c730e3789d0e1cc94039b1533f057eeb3a6ae525e1dc0d1395c1e724c9b", func := "loop.example/s01330/laws.FnExactDivWide", spec := "fnExactDivWide", named := ["math/bits.divideError", "math/bits.overflowError"], apart := false }
def FnExactDivWideSaid : Prop := fnExactDivWideRow.holds Try.pinned (OpenSpec.ofChange fnExactDivWideSpec)

/-- ITS FALSE NEIGHBOUR: 'it returns false'. Refute it at one input. -/
def fnExactDivWideWrong : ChangeSpec := { name := "fnExactDivWide", fn := fun _ => fun
  | [d1, d2] => { results := [.lit (.bool false)], args := [d1, d2] }
  | _ => none }
def FnExactDivWideWrongFalsely : Prop := fnExactDivWideRow.holds Try.pinned (OpenSpec.ofChange fnExactDivWideWrong)

/-- 'laws.FnWords': WHATEVER THE INPUT: true; the input reads as it did. -/
def fnWordsSpec : ChangeSpec := { name := "fnWords", fn := fun _ => fun
  | [d] => { results := [.lit (.bool true)], args := [d] }
  | _ => none }
def fnWordsRow : OpenClaim := { program := "ytbcjhnhkpbcmcaa", sum := "f49b6c730e3789d0e1cc94039b1533f057eeb3a6ae525e1dc0d1395c1e724c9b", func := "loop.example/s01330/laws.FnWords", spec := "fnWords", inPlace := ["math/bits.Add64", "math/bits.Sub64"], named := ["math/bits.divideError", "math/bits.overflowError"], apart := false }
def FnWordsSaid : Prop := fnWordsRow.holds Try.pinned (OpenSpec.ofChange fnWordsSpec)

/-- ITS FALSE NEIGHBOUR: 'it returns false'. Refute it at one input. -/
def fnWordsWrong : ChangeSpec := { name := "fnWords", fn := fun _ => fun
  | [d] => { results := [.lit (.bool false)], args := [d] }
  | _ => none }
def FnWordsWrongFalsely : Prop := fnWordsRow.holds Try.pinned (OpenSpec.ofChange fnWordsWrong)

/- THE SECOND FORM. 'bulk': how many values and letters a reading holds, each counted each time it is reached (what is shared counts as often as it is met; a slice's spare places count too). A statement '..UptoSaid' is the law's where the arguments, and the package variables that the reading takes, are together of bulk at most 1048576: NARROWER than '..Said'. Prove '..Said' where nothing that the law and all that it calls make is longer than what came in: it says more and counts as full. Else prove '..UptoSaid'. A law counts once. -/
mutual
def uptoBulk {H : Type} : DataW H → Nat
  | .lit (.string bytes) => bytes.length + 1
  | .lit _ => 1
  | .nil => 1
  | .ptr d => uptoBulk d + 1
  | .slice elems spare => uptoBulkAll elems + uptoBulkAll spare + 1
  | .agg parts => uptoBulkAll parts + 1
  | .iface _ d => uptoBulk d + 1
  | .map entries => uptoBulkEntries entries + 1
  | .held _ => 1
def uptoBulkAll {H : Type} : List (DataW H) → Nat
  | [] => 0
  | d :: r => uptoBulk d + uptoBulkAll r
def uptoBulkEntries {H : Type} : List (Lit × DataW H) → Nat
  | [] => 0
  | x :: r => uptoBulkEntry x + uptoBulkEntries r
def uptoBulkEntry {H : Type} : Lit × DataW H → Nat
  | (.string bytes, d) => bytes.length + uptoBulk d + 1
  | (_, d) => uptoBulk d + 1
 end
def uptoSmall : (H : Type) → List (DataW H) → Bool := fun _ ds => decide (uptoBulkAll ds ≤ 1048576)
def OpenSpec.upto (s : _root_.Go.ChangeSpec) : _root_.Go.OpenSpec := { _root_.Go.OpenSpec.ofChange s with cond := some uptoSmall }

/-- 'laws.FnExactConstants', WHERE WHAT IT READS IS OF BULK AT MOST 1048576: true; the input reads as it did. -/
def fnExactConstantsUptoRow : OpenClaim := { program := "ytbcjhnhkpbcmcaa", sum := "f49b6c730e3789d0e1cc94039b1533f057eeb3a6ae525e1dc0d1395c1e724c9b", func := "loop.example/s01330/laws.FnExactConstants", spec := "fnExactConstants", apart := false, narrowed := true }
def FnExactConstantsUptoSaid : Prop := fnExactConstantsUptoRow.holds Try.pinned (OpenSpec.upto fnExactConstantsSpec)

/-- 'laws.FnExactShiftLeft', WHERE WHAT IT READS IS OF BULK AT MOST 1048576: true; the input reads as it did. -/
def fnExactShiftLeftUptoRow : OpenClaim := { program := "ytbcjhnhkpbcmcaa", sum := "f49b6c730e3789d0e1cc94039b1533f057eeb3a6ae525e1dc0d1395c1e724c9b", func := "loop.example/s01330/laws.FnExactShiftLeft", spec := "fnExactShiftLeft", apart := false, narrowed := true }
def FnExactShiftLeftUptoSaid : Prop := fnExactShiftLeftUptoRow.holds Try.pinned (OpenSpec.upto fnExactShiftLeftSpec)

/-- 'laws.FnExactSubWide', WHERE WHAT IT READS IS OF BULK AT MOST 1048576: true; the input reads as it did. -/
def fnExactSubWideUptoRow : OpenClaim := { program := "ytbcjhnhkpbcmcaa", sum := "f49b6c730e3789d0e1cc94039b1533f057eeb3a6ae525e1dc0d1395c1e724c9b", func := "loop.example/s01330/laws.FnExactSubWide", spec := "fnExactSubWide", inPlace := ["math/bits.Sub64"], apart := false, narrowed := true }
def FnExactSubWideUptoSaid : Prop := fnExactSubWideUptoRow.holds Try.pinned (OpenSpec.upto fnExactSubWideSpec)

/-- 'laws.FnExactMulWide', WHERE WHAT IT READS IS OF BULK AT MOST 1048576: true; the input reads as it did. -/
def fnExactMulWideUptoRow : OpenClaim := { program := "ytbcjhnhkpbcmcaa", sum := "f49b6c730e3789d0e1cc94039b1533f057eeb3a6ae525e1dc0d1395c1e724c9b", func := "loop.example/s01330/laws.FnExactMulWide", spec := "fnExactMulWide", apart := false, narrowed := true }
def FnExactMulWideUptoSaid : Prop := fnExactMulWideUptoRow.holds Try.pinned (OpenSpec.upto fnExactMulWideSpec)

/-- 'laws.FnExactAddWide', WHERE WHAT IT READS IS OF BULK AT MOST 1048576: true; the input reads as it did. -/
def fnExactAddWideUptoRow : OpenClaim := { program := "ytbcjhnhkpbcmcaa", sum := "f49b6c730e3789d0e1cc94039b1533f057eeb3a6ae525e1dc0d1395c1e724c9b", func := "loop.example/s01330/laws.FnExactAddWide", spec := "fnExactAddWide", inPlace := ["math/bits.Add64"], apart := false, narrowed := true }
def FnExactAddWideUptoSaid : Prop := fnExactAddWideUptoRow.holds Try.pinned (OpenSpec.upto fnExactAddWideSpec)

/-- 'laws.FnExactShiftRight', WHERE WHAT IT READS IS OF BULK AT MOST 1048576: true; the input reads as it did. -/
def fnExactShiftRightUptoRow : OpenClaim := { program := "ytbcjhnhkpbcmcaa", sum := "f49b6c730e3789d0e1cc94039b1533f057eeb3a6ae525e1dc0d1395c1e724c9b", func := "loop.example/s01330/laws.FnExactShiftRight", spec := "fnExactShiftRight", apart := false, narrowed := true }
def FnExactShiftRightUptoSaid : Prop := fnExactShiftRightUptoRow.holds Try.pinned (OpenSpec.upto fnExactShiftRightSpec)

/-- 'laws.FnExactZeros', WHERE WHAT IT READS IS OF BULK AT MOST 1048576: true; the input reads as it did. -/
def fnExactZerosUptoRow : OpenClaim := { program := "ytbcjhnhkpbcmcaa", sum := "f49b6c730e3789d0e1cc94039b1533f057eeb3a6ae525e1dc0d1395c1e724c9b", func := "loop.example/s01330/laws.FnExactZeros", spec := "fnExactZeros", apart := false, narrowed := true }
def FnExactZerosUptoSaid : Prop := fnExactZerosUptoRow.holds Try.pinned (OpenSpec.upto fnExactZerosSpec)

/-- 'laws.FnExactSqrtWide', WHERE WHAT IT READS IS OF BULK AT MOST 1048576: true; the input reads as it did. -/
def fnExactSqrtWideUptoRow : OpenClaim := { program := "ytbcjhnhkpbcmcaa", sum := "f49b6c730e3789d0e1cc94039b1533f057eeb3a6ae525e1dc0d1395c1e724c9b", func := "loop.example/s01330/laws.FnExactSqrtWide", spec := "fnExactSqrtWide", inPlace := ["math/bits.Sub64"], apart := false, narrowed := true }
def FnExactSqrtWideUptoSaid : Prop := fnExactSqrtWideUptoRow.holds Try.pinned (OpenSpec.upto fnExactSqrtWideSpec)

/-- 'laws.FnExactDivWide', WHERE WHAT IT READS IS OF BULK AT MOST 1048576: true; the input reads as it did. -/
def fnExactDivWideUptoRow : OpenClaim := { program := "ytbcjhnhkpbcmcaa", sum := "f49b6c730e3789d0e1cc94039b1533f057eeb3a6ae525e1dc0d1395c1e724c9b", func := "loop.example/s01330/laws.FnExactDivWide", spec := "fnExactDivWide", named := ["math/bits.divideError", "math/bits.overflowError"], apart := false, narrowed := true }
def FnExactDivWideUptoSaid : Prop := fnExactDivWideUptoRow.holds Try.pinned (OpenSpec.upto fnExactDivWideSpec)

/-- 'laws.FnWords', WHERE WHAT IT READS IS OF BULK AT MOST 1048576: true; the input reads as it did. -/
def fnWordsUptoRow : OpenClaim := { program := "ytbcjhnhkpbcmcaa", sum := "f49b6c730e3789d0e1cc94039b1533f057eeb3a6ae525e1dc0d1395c1e724c9b", func := "loop.example/s01330/laws.FnWords", spec := "fnWords", inPlace := ["math/bits.Add64", "math/bits.Sub64"], named := ["math/bits.divideError", "math/bits.overflowError"], apart := false, narrowed := true }
def FnWordsUptoSaid : Prop := fnWordsUptoRow.holds Try.pinned (OpenSpec.upto fnWordsSpec)

end Rows
end Go.Proofs.Ytbcjhnhkpbcmcaa
