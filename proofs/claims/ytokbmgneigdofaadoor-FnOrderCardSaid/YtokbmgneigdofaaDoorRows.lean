/-
  NARROWER THAN 'FOR EVERY INPUT', by the rows' own cells (each row's printed sentence says how): FnExactUnpack: laid · FnExactNextUp: laid · FnExactCompare: laid · FnExactMaximum: laid · FnExactMinimum: laid · FnOrder: laid.
  DERIVED. THE GIVEN ROWS OF THIS SEAT. 6 by the template 'for every input the law returns true; each argument reads behind the call as it read before'; 0 by the template 'total and deterministic' (their statements: YtokbmgneigdofaaDoorTotals.lean).
  GIVEN WITH THE SEED: the statements are not yours to turn. If you find one false, say at which input.
  Laid BY PROGRAM, IN A SANDBOX (cutbox-rows.mjs): the forced cells as the released guide's own fill.sh prints them over the translation ceb4fada18544566… (all of the seat's roots in one cut). By AI agents, Wed Nov 11 2026. No macro, syntax, notation, axiom, sorry.
-/
import Derived.Test.YtokbmgneigdofaaDoorChecked
import GoSem.Claim
import GoSem.ClaimJoined
import GoSem.ClaimMapViews
import Derived.JoinedTies
import Derived.KernelRfl
namespace Go.Proofs.YtokbmgneigdofaaDoor
/- THE CELL 'sum', in the pinned program and in every row, IS THE sha256 OF THE DUMP (.gsa) THAT YtokbmgneigdofaaDoorProg.lean LOADS. Nothing in Lean hashes anything: it is a label: what it is worth is what the hold of that sum in a sandbox is worth. -/
noncomputable def Tryd.pinned : Pinned := { name := "ytokbmgneigdofaadoor", sum := "ceb4fada185445668c8386e6425584ee709838390c5456ca3afce1876d6af655", checked := Tryd.checked }
namespace Rows
def none {H : Type} : Left H := { results := [], args := [] }

/- WHAT THE LISTED PACKAGE-LEVEL VARIABLES READ AS WHEN THE CALL BEGINS. Each datum BY PROGRAM (the guide's laid-datum.mjs) off the statement by which the dump's own 'gosem.cut.vars' lays the variable. In a bare row this is a premise. The card (YtokbmgneigdofaaDoorCards.lean) ties it to the program's text. -/
def laid_loop_example_s01330_impl_formats {H : Type} : DataW H := .agg [.agg [.lit (.int .i64 24), .lit (.int .i64 (-126)), .lit (.int .i64 127)], .agg [.lit (.int .i64 53), .lit (.int .i64 (-1022)), .lit (.int .i64 1023)]]

/-- 'laws.FnExactUnpack': WHATEVER THE INPUT: true; the input reads as it did. -/
def fnExactUnpackSpec : ChangeSpec := { name := "fnExactUnpack", vars := ["loop.example/s01330/impl.formats"], fn := fun _ => fun
  | [d1, d2, g1] => { results := [.lit (.bool true)], args := [d1, d2], vars := [g1] }
  | _ => none }
def fnExactUnpackRow : OpenClaim := { program := "ytokbmgneigdofaadoor", sum := "ceb4fada185445668c8386e6425584ee709838390c5456ca3afce1876d6af655", func := "loop.example/s01330/laws.FnExactUnpack", spec := "fnExactUnpack", named := ["loop.example/s01330/impl.formats"], apart := false, laid := [("loop.example/s01330/impl.formats", laid_loop_example_s01330_impl_formats)] }
def FnExactUnpackSaid : Prop := fnExactUnpackRow.holds Tryd.pinned (OpenSpec.ofChange fnExactUnpackSpec)

/-- ITS FALSE NEIGHBOUR: 'it returns false'. Refute it at one input. -/
def fnExactUnpackWrong : ChangeSpec := { name := "fnExactUnpack", vars := ["loop.example/s01330/impl.formats"], fn := fun _ => fun
  | [d1, d2, g1] => { results := [.lit (.bool false)], args := [d1, d2], vars := [g1] }
  | _ => none }
def FnExactUnpackWrongFalsely : Prop := fnExactUnpackRow.holds Tryd.pinned (OpenSpec.ofChange fnExactUnpackWrong)

/-- 'laws.FnExactNextUp': WHATEVER THE INPUT: true; the input reads as it did. -/
def fnExactNextUpSpec : ChangeSpec := { name := "fnExactNextUp", vars := ["loop.example/s01330/impl.formats"], fn := fun _ => fun
  | [d1, d2, g1] => { results := [.lit (.bool true)], args := [d1, d2], vars := [g1] }
  | _ => none }
def fnExactNextUpRow : OpenClaim := { program := "ytokbmgneigdofaadoor", sum := "ceb4fada185445668c8386e6425584ee709838390c5456ca3afce1876d6af655", func := "loop.example/s01330/laws.FnExactNextUp", spec := "fnExactNextUp", named := ["loop.example/s01330/impl.formats"], apart := false, laid := [("loop.example/s01330/impl.formats", laid_loop_example_s01330_impl_formats)] }
def FnExactNextUpSaid : Prop := fnExactNextUpRow.holds Tryd.pinned (OpenSpec.ofChange fnExactNextUpSpec)

/-- ITS FALSE NEIGHBOUR: 'it returns false'. Refute it at one input. -/
def fnExactNextUpWrong : ChangeSpec := { name := "fnExactNextUp", vars := ["loop.example/s01330/impl.formats"], fn := fun _ => fun
  | [d1, d2, g1] => { results := [.lit (.bool false)], args := [d1, d2], vars := [g1] }
  | _ => none }
def FnExactNextUpWrongFalsely : Prop := fnExactNextUpRow.holds Tryd.pinned (OpenSpec.ofChange fnExactNextUpWrong)

/-- 'laws.FnExactCompare': WHATEVER THE INPUT: true; the input reads as it did. -/
def fnExactCompareSpec : ChangeSpec := { name := "fnExactCompare", vars := ["loop.example/s01330/impl.formats"], fn := fun _ => fun
  | [d1, d2, d3, d4, g1] => { results := [.lit (.bool true)], args := [d1, d2, d3, d4], vars := [g1] }
  | _ => none }
def fnExactCompareRow : OpenClaim := { program := "ytokbmgneigdofaadoor", sum := "ceb4fada185445668c8386e6425584ee709838390c5456ca3afce1876d6af655", func := "loop.example/s01330/laws.FnExactCompare", spec := "fnExactCompare", named := ["loop.example/s01330/impl.formats"], apart := false, laid := [("loop.example/s01330/impl.formats", laid_loop_example_s01330_impl_formats)] }
def FnExactCompareSaid : Prop := fnExactCompareRow.holds Tryd.pinned (OpenSpec.ofChange fnExactCompareSpec)

/-- ITS FALSE NEIGHBOUR: 'it returns false'. Refute it at one input. -/
def fnExactCompareWrong : ChangeSpec := { name := "fnExactCompare", vars := ["loop.example/s01330/impl.formats"], fn := fun _ => fun
  | [d1, d2, d3, d4, g1] => { results := [.lit (.bool false)], args := [d1, d2, d3, d4], vars := [g1] }
  | _ => none }
def FnExactCompareWrongFalsely : Prop := fnExactCompareRow.holds Tryd.pinned (OpenSpec.ofChange fnExactCompareWrong)

/-- 'laws.FnExactMaximum': WHATEVER THE INPUT: true; the input reads as it did. -/
def fnExactMaximumSpec : ChangeSpec := { name := "fnExactMaximum", vars := ["loop.example/s01330/impl.formats"], fn := fun _ => fun
  | [d1, d2, d3, g1] => { results := [.lit (.bool true)], args := [d1, d2, d3], vars := [g1] }
  | _ => none }
def fnExactMaximumRow : OpenClaim := { program := "ytokbmgneigdofaadoor", sum := "ceb4fada185445668c8386e6425584ee709838390c5456ca3afce1876d6af655", func := "loop.example/s01330/laws.FnExactMaximum", spec := "fnExactMaximum", unfollowed := true, recurses := true, named := ["loop.example/s01330/impl.formats"], apart := false, laid := [("loop.example/s01330/impl.formats", laid_loop_example_s01330_impl_formats)] }
def FnExactMaximumSaid : Prop := fnExactMaximumRow.holds Tryd.pinned (OpenSpec.ofChange fnExactMaximumSpec)

/-- ITS FALSE NEIGHBOUR: 'it returns false'. Refute it at one input. -/
def fnExactMaximumWrong : ChangeSpec := { name := "fnExactMaximum", vars := ["loop.example/s01330/impl.formats"], fn := fun _ => fun
  | [d1, d2, d3, g1] => { results := [.lit (.bool false)], args := [d1, d2, d3], vars := [g1] }
  | _ => none }
def FnExactMaximumWrongFalsely : Prop := fnExactMaximumRow.holds Tryd.pinned (OpenSpec.ofChange fnExactMaximumWrong)

/-- 'laws.FnExactMinimum': WHATEVER THE INPUT: true; the input reads as it did. -/
def fnExactMinimumSpec : ChangeSpec := { name := "fnExactMinimum", vars := ["loop.example/s01330/impl.formats"], fn := fun _ => fun
  | [d1, d2, d3, g1] => { results := [.lit (.bool true)], args := [d1, d2, d3], vars := [g1] }
  | _ => none }
def fnExactMinimumRow : OpenClaim := { program := "ytokbmgneigdofaadoor", sum := "ceb4fada185445668c8386e6425584ee709838390c5456ca3afce1876d6af655", func := "loop.example/s01330/laws.FnExactMinimum", spec := "fnExactMinimum", unfollowed := true, recurses := true, named := ["loop.example/s01330/impl.formats"], apart := false, laid := [("loop.example/s01330/impl.formats", laid_loop_example_s01330_impl_formats)] }
def FnExactMinimumSaid : Prop := fnExactMinimumRow.holds Tryd.pinned (OpenSpec.ofChange fnExactMinimumSpec)

/-- ITS FALSE NEIGHBOUR: 'it returns false'. Refute it at one input. -/
def fnExactMinimumWrong : ChangeSpec := { name := "fnExactMinimum", vars := ["loop.example/s01330/impl.formats"], fn := fun _ => fun
  | [d1, d2, d3, g1] => { results := [.lit (.bool false)], args := [d1, d2, d3], vars := [g1] }
  | _ => none }
def FnExactMinimumWrongFalsely : Prop := fnExactMinimumRow.holds Tryd.pinned (OpenSpec.ofChange fnExactMinimumWrong)

/-- 'laws.FnOrder': WHATEVER THE INPUT: true; the input reads as it did. -/
def fnOrderSpec : ChangeSpec := { name := "fnOrder", vars := ["loop.example/s01330/impl.formats"], fn := fun _ => fun
  | [d, g1] => { results := [.lit (.bool true)], args := [d], vars := [g1] }
  | _ => none }
def fnOrderRow : OpenClaim := { program := "ytokbmgneigdofaadoor", sum := "ceb4fada185445668c8386e6425584ee709838390c5456ca3afce1876d6af655", func := "loop.example/s01330/laws.FnOrder", spec := "fnOrder", unfollowed := true, recurses := true, named := ["loop.example/s01330/impl.formats"], apart := false, laid := [("loop.example/s01330/impl.formats", laid_loop_example_s01330_impl_formats)] }
def FnOrderSaid : Prop := fnOrderRow.holds Tryd.pinned (OpenSpec.ofChange fnOrderSpec)

/-- ITS FALSE NEIGHBOUR: 'it returns false'. Refute it at one input. -/
def fnOrderWrong : ChangeSpec := { name := "fnOrder", vars := ["loop.example/s01330/impl.formats"], fn := fun _ => fun
  | [d, g1] => { results := [.lit (.bool false)], args := [d], vars := [g1] }
  | _ => none }
def FnOrderWrongFalsely : Prop := fnOrderRow.holds Tryd.pinned (OpenSpec.ofChange fnOrderWrong)

/- THE SECOND FORM. 'bulk': how many values and letters a reading holds, each counted each time it is reached (what is shared counts as often as it is met; a slice's spare places count too). A statement '..UptoSaid' is the law's where the arguments, and the package variables that the reading takes, are together of bulk at most 1048576: NARROWER than '..Said'. Prove '..Said' where nothing that the law and all that it calls make is longer than what came in: it says more and counts as full. Else prove '..UptoSaid'. A law counts once. -/
mutual
def uptoBulk {H : Type} : DataW H → Nat
  | .lit (.string bytes) => bytes.length + 1
  | .lit _ => 1
  | .nil => 1
  | .ptr d => uptoBulk d + 1
  | .slice elems spare => uptoBulkAll elems + uptoBulkAll spare + 1
  | .agg parts => uptoBulkAll parts + 1
  | .iface _ d => uptoBulk d + 1
  | .map entries => uptoBulkEntries entries + 1
  | .held _ => 1
def uptoBulkAll {H : Type} : List (DataW H) → Nat
  | [] => 0
  | d :: r => uptoBulk d + uptoBulkAll r
def uptoBulkEntries {H : Type} : List (Lit × DataW H) → Nat
  | [] => 0
  | x :: r => uptoBulkEntry x + uptoBulkEntries r
def uptoBulkEntry {H : Type} : Lit × DataW H → Nat
  | (.string bytes, d) => bytes.length + uptoBulk d + 1
  | (_, d) => uptoBulk d + 1
 end
def uptoSmall : (H : Type) → List (DataW H) → Bool := fun _ ds => decide (uptoBulkAll ds ≤ 1048576)
def OpenSpec.upto (s : _root_.Go.ChangeSpec) : _root_.Go.OpenSpec := { _root_.Go.OpenSpec.ofChange s with cond := some uptoSmall }

/-- 'laws.FnExactUnpack', WHERE WHAT IT READS IS OF BULK AT MOST 1048576: true; the input reads as it did. -/
def fnExactUnpackUptoRow : OpenClaim := { program := "ytokbmgneigdofaadoor", sum := "ceb4fada185445668c8386e6425584ee709838390c5456ca3afce1876d6af655", func := "loop.example/s01330/laws.FnExactUnpack", spec := "fnExactUnpack", named := ["loop.example/s01330/impl.formats"], apart := false, laid := [("loop.example/s01330/impl.formats", laid_loop_example_s01330_impl_formats)], narrowed := true }
def FnExactUnpackUptoSaid : Prop := fnExactUnpackUptoRow.holds Tryd.pinned (OpenSpec.upto fnExactUnpackSpec)

/-- 'laws.FnExactNextUp', WHERE WHAT IT READS IS OF BULK AT MOST 1048576: true; the input reads as it did. -/
def fnExactNextUpUptoRow : OpenClaim := { program := "ytokbmgneigdofaadoor", sum := "ceb4fada185445668c8386e6425584ee709838390c5456ca3afce1876d6af655", func := "loop.example/s01330/laws.FnExactNextUp", spec := "fnExactNextUp", named := ["loop.example/s01330/impl.formats"], apart := false, laid := [("loop.example/s01330/impl.formats", laid_loop_example_s01330_impl_formats)], narrowed := true }
def FnExactNextUpUptoSaid : Prop := fnExactNextUpUptoRow.holds Tryd.pinned (OpenSpec.upto fnExactNextUpSpec)

/-- 'laws.FnExactCompare', WHERE WHAT IT READS IS OF BULK AT MOST 1048576: true; the input reads as it did. -/
def fnExactCompareUptoRow : OpenClaim := { program := "ytokbmgneigdofaadoor", sum := "ceb4fada185445668c8386e6425584ee709838390c5456ca3afce1876d6af655", func := "loop.example/s01330/laws.FnExactCompare", spec := "fnExactCompare", named := ["loop.example/s01330/impl.formats"], apart := false, laid := [("loop.example/s01330/impl.formats", laid_loop_example_s01330_impl_formats)], narrowed := true }
def FnExactCompareUptoSaid : Prop := fnExactCompareUptoRow.holds Tryd.pinned (OpenSpec.upto fnExactCompareSpec)

/-- 'laws.FnExactMaximum', WHERE WHAT IT READS IS OF BULK AT MOST 1048576: true; the input reads as it did. -/
def fnExactMaximumUptoRow : OpenClaim := { program := "ytokbmgneigdofaadoor", sum := "ceb4fada185445668c8386e6425584ee709838390c5456ca3afce1876d6af655", func := "loop.example/s01330/laws.FnExactMaximum", spec := "fnExactMaximum", unfollowed := true, recurses := true, named := ["loop.example/s01330/impl.formats"], apart := false, laid := [("loop.example/s01330/impl.formats", laid_loop_example_s01330_impl_formats)], narrowed := true }
def FnExactMaximumUptoSaid : Prop := fnExactMaximumUptoRow.holds Tryd.pinned (OpenSpec.upto fnExactMaximumSpec)

/-- 'laws.FnExactMinimum', WHERE WHAT IT READS IS OF BULK AT MOST 1048576: true; the input reads as it did. -/
def fnExactMinimumUptoRow : OpenClaim := { program := "ytokbmgneigdofaadoor", sum := "ceb4fada185445668c8386e6425584ee709838390c5456ca3afce1876d6af655", func := "loop.example/s01330/laws.FnExactMinimum", spec := "fnExactMinimum", unfollowed := true, recurses := true, named := ["loop.example/s01330/impl.formats"], apart := false, laid := [("loop.example/s01330/impl.formats", laid_loop_example_s01330_impl_formats)], narrowed := true }
def FnExactMinimumUptoSaid : Prop := fnExactMinimumUptoRow.holds Tryd.pinned (OpenSpec.upto fnExactMinimumSpec)

/-- 'laws.FnOrder', WHERE WHAT IT READS IS OF BULK AT MOST 1048576: true; the input reads as it did. -/
def fnOrderUptoRow : OpenClaim := { program := "ytokbmgneigdofaadoor", sum := "ceb4fada185445668c8386e6425584ee709838390c5456ca3afce1876d6af655", func := "loop.example/s01330/laws.FnOrder", spec := "fnOrder", unfollowed := true, recurses := true, named := ["loop.example/s01330/impl.formats"], apart := false, laid := [("loop.example/s01330/impl.formats", laid_loop_example_s01330_impl_formats)], narrowed := true }
def FnOrderUptoSaid : Prop := fnOrderUptoRow.holds Tryd.pinned (OpenSpec.upto fnOrderSpec)

end Rows
end Go.Proofs.YtokbmgneigdofaaDoor
