/-
  NARROWER THAN 'FOR EVERY INPUT', by the rows' own cells (each row's printed sentence says how): FnExactBase: laid · FnExactDecay: laid · FnDecay: laid.
  DERIVED. THE GIVEN ROWS OF THIS SEAT. 3 by the template 'for every input the law returns true; each argument reads behind the call as it read before'; 0 by the template 'total and deterministic' (their statements: YtbcjhnhkpbcmcaaDoorTotals.lean).
  GIVEN WITH THE SEED: the statements are not yours to turn. If you find one false, say at which input.
  Laid BY PROGRAM, IN A SANDBOX (cutbox-rows.mjs): the forced cells as the released guide's own fill.sh prints them over the translation 7eb65e3e6585c1f3… (all of the seat's roots in one cut). By AI agents, Wed Nov 11 2026. No macro, syntax, notation, axiom, sorry.
-/
import Derived.Test.YtbcjhnhkpbcmcaaDoorChecked
import GoSem.Claim
import GoSem.ClaimJoined
import GoSem.ClaimMapViews
import Derived.JoinedTies
import Derived.KernelRfl
namespace Go.Proofs.YtbcjhnhkpbcmcaaDoor
/- THE CELL 'sum', in the pinned program and in every row, IS THE sha256 OF THE DUMP (.gsa) THAT YtbcjhnhkpbcmcaaDoorProg.lean LOADS. Nothing in Lean hashes anything: it is a label: what it is worth is what the hold of that sum in a sandbox is worth. -/
noncomputable def Tryd.pinned : Pinned := { name := "ytbcjhnhkpbcmcaadoor", sum := "7eb65e3e6585c1f3a0fe3dc4e5b430f44cc3d60fc1b9fdac39fb867818600e61", checked := Tryd.checked }
namespace Rows
def none {H : Type} : Left H := { results := [], args := [] }

/- WHAT THE LISTED PACKAGE-LEVEL VARIABLES READ AS WHEN THE CALL BEGINS. Each datum BY PROGRAM (the guide's laid-datum.mjs) off the statement by which the dump's own 'gosem.cut.vars' lays the variable. In a bare row this is a premise. The card (YtbcjhnhkpbcmcaaDoorCards.lean) ties it to the program's text. -/
def laid_loop_example_s01330_impl_shares {H : Type} : DataW H := .agg [.lit (.int .u64 12311384997445461060), .lit (.int .u64 6896949616398116700), .lit (.int .u64 3175666228297764653), .lit (.int .u64 1183806766059182244), .lit (.int .u64 353476207714659139), .lit (.int .u64 83907343225073545), .lit (.int .u64 15749660485982248), .lit (.int .u64 2328616999791800), .lit (.int .u64 270433320942720), .lit (.int .u64 24618334939658), .lit (.int .u64 1753979576257), .lit (.int .u64 97691228987), .lit (.int .u64 4249834529), .lit (.int .u64 144306183), .lit (.int .u64 3822728), .lit (.int .u64 78971), .lit (.int .u64 1272), .lit (.int .u64 16)]
def laid_loop_example_s01330_impl_decays {H : Type} : DataW H := .agg [.lit (.int .u64 9223372034707292160), .lit (.int .u64 9223372032559808513), .lit (.int .u64 9223372028264841220), .lit (.int .u64 9223372019674906640), .lit (.int .u64 9223372002495037504), .lit (.int .u64 9223371968135299328), .lit (.int .u64 9223371899415823360), .lit (.int .u64 9223371761976872960), .lit (.int .u64 9223371487098978304), .lit (.int .u64 9223370937343213568), .lit (.int .u64 9223369837831782400), .lit (.int .u64 9223367638809313280), .lit (.int .u64 9223363240765947903), .lit (.int .u64 9223354444685508597), .lit (.int .u64 9223336852549795755), .lit (.int .u64 9223301668379032917), .lit (.int .u64 9223231300440156843), .lit (.int .u64 9223090566172988758), .lit (.int .u64 9222809104080874160), .lit (.int .u64 9222246205664613803), .lit (.int .u64 9221120511896629248), .lit (.int .u64 9218869536560097961), .lit (.int .u64 9214369234215239612), .lit (.int .u64 9205375219083682339), .lit (.int .u64 9187413517043429148), .lit (.int .u64 9151595186215228390), .lit (.int .u64 9080376907458843210), .lit (.int .u64 8939598712059420229), .lit (.int .u64 8664556174609911609), .lit (.int .u64 8139597253909710366), .lit (.int .u64 7183169364861397922), .lit (.int .u64 5594257926288582650), .lit (.int .u64 3393088950634442637), .lit (.int .u64 1248247667004394400), .lit (.int .u64 168931951563480719), .lit (.int .u64 3094096621605846), .lit (.int .u64 1037953783668), .lit (.int .u64 116806)]

/-- 'laws.FnExactBase': WHATEVER THE INPUT: true; the input reads as it did. -/
def fnExactBaseSpec : ChangeSpec := { name := "fnExactBase", vars := ["loop.example/s01330/impl.shares"], fn := fun _ => fun
  | [d, g1] => { results := [.lit (.bool true)], args := [d], vars := [g1] }
  | _ => none }
def fnExactBaseRow : OpenClaim := { program := "ytbcjhnhkpbcmcaadoor", sum := "7eb65e3e6585c1f3a0fe3dc4e5b430f44cc3d60fc1b9fdac39fb867818600e61", func := "loop.example/s01330/laws.FnExactBase", spec := "fnExactBase", named := ["loop.example/s01330/impl.shares"], apart := false, laid := [("loop.example/s01330/impl.shares", laid_loop_example_s01330_impl_shares)] }
def FnExactBaseSaid : Prop := fnExactBaseRow.holds Tryd.pinned (OpenSpec.ofChange fnExactBaseSpec)

/-- ITS FALSE NEIGHBOUR: 'it returns false'. Refute it at one input. -/
def fnExactBaseWrong : ChangeSpec := { name := "fnExactBase", vars := ["loop.example/s01330/impl.shares"], fn := fun _ => fun
  | [d, g1] => { results := [.lit (.bool false)], args := [d], vars := [g1] }
  | _ => none }
def FnExactBaseWrongFalsely : Prop := fnExactBaseRow.holds Tryd.pinned (OpenSpec.ofChange fnExactBaseWrong)

/-- 'laws.FnExactDecay': WHATEVER THE INPUT: true; the input reads as it did. -/
def fnExactDecaySpec : ChangeSpec := { name := "fnExactDecay", vars := ["loop.example/s01330/impl.decays"], fn := fun _ => fun
  | [d, g1] => { results := [.lit (.bool true)], args := [d], vars := [g1] }
  | _ => none }
def fnExactDecayRow : OpenClaim := { program := "ytbcjhnhkpbcmcaadoor", sum := "7eb65e3e6585c1f3a0fe3dc4e5b430f44cc3d60fc1b9fdac39fb867818600e61", func := "loop.example/s01330/laws.FnExactDecay", spec := "fnExactDecay", named := ["loop.example/s01330/impl.decays"], apart := false, laid := [("loop.example/s01330/impl.decays", laid_loop_example_s01330_impl_decays)] }
def FnExactDecaySaid : Prop := fnExactDecayRow.holds Tryd.pinned (OpenSpec.ofChange fnExactDecaySpec)

/-- ITS FALSE NEIGHBOUR: 'it returns false'. Refute it at one input. -/
def fnExactDecayWrong : ChangeSpec := { name := "fnExactDecay", vars := ["loop.example/s01330/impl.decays"], fn := fun _ => fun
  | [d, g1] => { results := [.lit (.bool false)], args := [d], vars := [g1] }
  | _ => none }
def FnExactDecayWrongFalsely : Prop := fnExactDecayRow.holds Tryd.pinned (OpenSpec.ofChange fnExactDecayWrong)

/-- 'laws.FnDecay': WHATEVER THE INPUT: true; the input reads as it did. -/
def fnDecaySpec : ChangeSpec := { name := "fnDecay", vars := ["loop.example/s01330/impl.shares", "loop.example/s01330/impl.decays"], fn := fun _ => fun
  | [d1, d2, g1, g2] => { results := [.lit (.bool true)], args := [d1, d2], vars := [g1, g2] }
  | _ => none }
def fnDecayRow : OpenClaim := { program := "ytbcjhnhkpbcmcaadoor", sum := "7eb65e3e6585c1f3a0fe3dc4e5b430f44cc3d60fc1b9fdac39fb867818600e61", func := "loop.example/s01330/laws.FnDecay", spec := "fnDecay", named := ["loop.example/s01330/impl.shares", "loop.example/s01330/impl.decays"], apart := false, laid := [("loop.example/s01330/impl.shares", laid_loop_example_s01330_impl_shares), ("loop.example/s01330/impl.decays", laid_loop_example_s01330_impl_decays)] }
def FnDecaySaid : Prop := fnDecayRow.holds Tryd.pinned (OpenSpec.ofChange fnDecaySpec)

/-- ITS FALSE NEIGHBOUR: 'it returns false'. Refute it at one input. -/
def fnDecayWrong : ChangeSpec := { name := "fnDecay", vars := ["loop.example/s01330/impl.shares", "loop.example/s01330/impl.decays"], fn := fun _ => fun
  | [d1, d2, g1, g2] => { results := [.lit (.bool false)], args := [d1, d2], vars := [g1, g2] }
  | _ => none }
def FnDecayWrongFalsely : Prop := fnDecayRow.holds Tryd.pinned (OpenSpec.ofChange fnDecayWrong)

/- THE SECOND FORM. 'bulk': how many values and letters a reading holds, each counted each time it is reached (what is shared counts as often as it is met; a slice's spare places count too). A statement '..UptoSaid' is the law's where the arguments, and the package variables that the reading takes, are together of bulk at most 1048576: NARROWER than '..Said'. Prove '..Said' where nothing that the law and all that it calls make is longer than what came in: it says more and counts as full. Else prove '..UptoSaid'. A law counts once. -/
mutual
def uptoBulk {H : Type} : DataW H → Nat
  | .lit (.string bytes) => bytes.length + 1
  | .lit _ => 1
  | .nil => 1
  | .ptr d => uptoBulk d + 1
  | .slice elems spare => uptoBulkAll elems + uptoBulkAll spare + 1
  | .agg parts => uptoBulkAll parts + 1
  | .iface _ d => uptoBulk d + 1
  | .map entries => uptoBulkEntries entries + 1
  | .held _ => 1
def uptoBulkAll {H : Type} : List (DataW H) → Nat
  | [] => 0
  | d :: r => uptoBulk d + uptoBulkAll r
def uptoBulkEntries {H : Type} : List (Lit × DataW H) → Nat
  | [] => 0
  | x :: r => uptoBulkEntry x + uptoBulkEntries r
def uptoBulkEntry {H : Type} : Lit × DataW H → Nat
  | (.string bytes, d) => bytes.length + uptoBulk d + 1
  | (_, d) => uptoBulk d + 1
 end
def uptoSmall : (H : Type) → List (DataW H) → Bool := fun _ ds => decide (uptoBulkAll ds ≤ 1048576)
def OpenSpec.upto (s : _root_.Go.ChangeSpec) : _root_.Go.OpenSpec := { _root_.Go.OpenSpec.ofChange s with cond := some uptoSmall }

/-- 'laws.FnExactBase', WHERE WHAT IT READS IS OF BULK AT MOST 1048576: true; the input reads as it did. -/
def fnExactBaseUptoRow : OpenClaim := { program := "ytbcjhnhkpbcmcaadoor", sum := "7eb65e3e6585c1f3a0fe3dc4e5b430f44cc3d60fc1b9fdac39fb867818600e61", func := "loop.example/s01330/laws.FnExactBase", spec := "fnExactBase", named := ["loop.example/s01330/impl.shares"], apart := false, laid := [("loop.example/s01330/impl.shares", laid_loop_example_s01330_impl_shares)], narrowed := true }
def FnExactBaseUptoSaid : Prop := fnExactBaseUptoRow.holds Tryd.pinned (OpenSpec.upto fnExactBaseSpec)

/-- 'laws.FnExactDecay', WHERE WHAT IT READS IS OF BULK AT MOST 1048576: true; the input reads as it did. -/
def fnExactDecayUptoRow : OpenClaim := { program := "ytbcjhnhkpbcmcaadoor", sum := "7eb65e3e6585c1f3a0fe3dc4e5b430f44cc3d60fc1b9fdac39fb867818600e61", func := "loop.example/s01330/laws.FnExactDecay", spec := "fnExactDecay", named := ["loop.example/s01330/impl.decays"], apart := false, laid := [("loop.example/s01330/impl.decays", laid_loop_example_s01330_impl_decays)], narrowed := true }
def FnExactDecayUptoSaid : Prop := fnExactDecayUptoRow.holds Tryd.pinned (OpenSpec.upto fnExactDecaySpec)

/-- 'laws.FnDecay', WHERE WHAT IT READS IS OF BULK AT MOST 1048576: true; the input reads as it did. -/
def fnDecayUptoRow : OpenClaim := { program := "ytbcjhnhkpbcmcaadoor", sum := "7eb65e3e6585c1f3a0fe3dc4e5b430f44cc3d60fc1b9fdac39fb867818600e61", func := "loop.example/s01330/laws.FnDecay", spec := "fnDecay", named := ["loop.example/s01330/impl.shares", "loop.example/s01330/impl.decays"], apart := false, laid := [("loop.example/s01330/impl.shares", laid_loop_example_s01330_impl_shares), ("loop.example/s01330/impl.decays", laid_loop_example_s01330_impl_decays)], narrowed := true }
def FnDecayUptoSaid : Prop := fnDecayUptoRow.holds Tryd.pinned (OpenSpec.upto fnDecaySpec)

end Rows
end Go.Proofs.YtbcjhnhkpbcmcaaDoor
