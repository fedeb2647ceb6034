/- The row of the law FnExactDecay: every input that the row speaks of (integers of their kinds, slices and strings within the row's own reach; the listed package-level variables as the program's text lays them): the call returns true and leaves its arguments and the listed variables as they were. -/
import Derived.Test.YtbcjhnhkpbcmcaaDoorRows
import Derived.Test.YtbcjhnhkpbcmcaaDoorPB1
import Derived.Test.YtbcjhnhkpbcmcaaDoorPureFnExactDecay
import Derived.Test.YtbcjhnhkpbcmcaaDoorCards
import Derived.Test.YtbcjhnhkpbcmcaaDoorTie
import Derived.Test.YtbcjhnhkpbcmcaaDoorLaid
import Derived.WalkKit
import Derived.ProofKit
import Derived.OpenShut
import Derived.ShutString
import Derived.ChangeOld
import Derived.Below
import Derived.SizedLaws
import Derived.Lib.SmallJoins
import Derived.LaidMore
import Derived.Stop.Joined
import Derived.SevenTiedAt
namespace Go.Proofs.YtbcjhnhkpbcmcaaDoor.fnExactDecay
open Go.ChangeShapes Go.WideShapes Go.ChangeAt Go.RowKit Go.Joins Go.Proofs.YtbcjhnhkpbcmcaaDoorW.Z Go.Proofs.YtbcjhnhkpbcmcaaDoor.Given Go.Proofs.YtbcjhnhkpbcmcaaDoor.PA
open Go.ChangeMaps (open_string shut_string)
open Go.Proofs.YtbcjhnhkpbcmcaaDoorW
set_option linter.unusedVariables false
theorem own : ownKnob Tryd.prog.godebug = none := by kernel_rfl
theorem door_met (os : Os) (args : Array Value) : laidMetH Tryd.prog Rows.fnExactDecayRow.laid ((World.doorLaid Tryd.prog 400 os).forCall (fun _ _ => 0) ⟨#[], args, []⟩).memory :=
  laidMetH_of_parts3 (fuel := 8) (laidMet_of_run' 8 (by kernel_rfl) (by kernel_rfl)) (by kernel_rfl) (by kernel_rfl)
set_option maxRecDepth 100000 in
theorem lifted (os : Os) (started : os.Started) (H : Type) (enc : TypeId × Value → H) :
    ReturnsInHanded {} Tryd.checked os 4 .any (fun w args => (Rows.fnExactDecaySpec.pre enc Tryd.prog Tryd.f4 [] false w args ∧ laidMetH Tryd.prog Rows.fnExactDecayRow.laid w) ∧ sizedMet enc Tryd.prog Tryd.f4 (OpenSpec.ofChange Rows.fnExactDecaySpec) false w args) (Rows.fnExactDecaySpec.post enc Tryd.prog Tryd.f4 false true false false) := by
  refine returnsInHanded_of_change_and (C := Tryd.checked) (X := fun w _ => laidMetH Tryd.prog Rows.fnExactDecayRow.laid w) (fun _ _ _ hh h => h.of_heap hh) own started (by kernel_rfl) Tryd.func4
    (ChangeSpec.witness_shaped (enc := enc) (C := Tryd.checked) (os := os) (X := fun w _ => laidMetH Tryd.prog Rows.fnExactDecayRow.laid w) false (World.doorLaid Tryd.prog 400 os) #[.int .u64 0] 8 rfl (World.shaped_of_RefB (by kernel_rfl) (by kernel_rfl)) (by kernel_rfl) (by kernel_rfl) (by kernel_rfl) (door_met os _)) ?_
  intro W base args ds gs before hval0 hW _ hsz0 hL _
  have hval : ∀ (j : Nat) t v, Tryd.f4.params[j]? = some t → args[j]? = some v → Value.okWide Tryd.prog W .any base t v := hval0
  have hW' := hW
  obtain ⟨p, q, hA0, hV0, rfl, hfz, hnd⟩ := hW
  have hA : DataW.TrodAll enc Tryd.prog W 0 (fun _ => true) true Tryd.f4.params.toList args.toList ds p := hA0
  have hV : DataW.TrodVars enc Tryd.prog W (fun _ => true) ["loop.example/s01330/impl.decays"] gs q := hV0
  rw [Tryd.params4] at hA hval
  obtain ⟨v0, vs0, d0, ds0, p0, q0, hargs, rfl, rfl, h0, r0⟩ := trodAll_cons hA
  obtain ⟨rfl, rfl, rfl⟩ := trodAll_nil r0
  obtain rfl : args = #[v0] := by cases args; simp_all
  obtain ⟨a0, rfl, rfl, rfl, w0⟩ := open_int Tryd.underlying22 (hval 0 22 v0 rfl rfl) h0
  rw [MakeChecks.laidMetH_plain _ _ _ (by kernel_rfl)] at hL
  have hGdecays : Gdecays W := Gdecays.of_laid hL
  obtain ⟨gn0, gt0, cs0, fu0, dg0, pg0, rfl, hg0, ht0, hvar0, hd0, rfl⟩ := trodVars_one hV
  obtain ⟨rfl, rfl, rfl⟩ := Gdecays.reads hGdecays hg0 ht0 hvar0
  obtain ⟨rfl, rfl⟩ := DataW.Trod.unique (v := .agg Gdecays.cells) ⟨fu0, hd0⟩ ⟨8, Gdecays.trod enc W (fun _ => true)⟩
  clear hA0 hval0 hsz0
  obtain ⟨k, hk⟩ := Pure.FnExactDecay a0 w0
  refine (PB.laws_FnExactDecay.calls k a0 true W hGdecays hk).mono fun e W' ⟨he, bel0⟩ => ?_
  subst he
  have bel : Below W.heap.size W W' := bel0
  exact ⟨_, rfl, _, _, _, [], _, _, hW', trodAll_mk1 (shut_bool Tryd.underlying4 _), (trodAll_cons_mk (shut_int Tryd.underlying22 w0) trodAll_mk0), (Gdecays.vars enc W' _ (Gdecays.below hGdecays bel)), bel.frame _, fun h => by cases h⟩
theorem over : Rows.fnExactDecayRow.holds Tryd.pinned (OpenSpec.ofChange Rows.fnExactDecaySpec) :=
  OpenClaim.holds_of_wide 4 Tryd.f4 rfl rfl rfl rfl rfl rfl rfl ⟨rfl, rfl, rfl, rfl, rfl⟩ rfl rfl rfl rfl rfl (by kernel_rfl) Tryd.func4 (by kernel_rfl)
    (of_decide_eq_true (by kernel_rfl)) (by unfold Func.isWrapper; first | (rw [if_pos (by decide +kernel)]; kernel_rfl) | (rw [if_neg (by decide +kernel)]; exact ⟨rfl, rfl⟩))
    (fun os started H enc _ => lifted os started H enc)
theorem card : Rows.FnExactDecayCardSaid :=
  Claim7.holds_tied_plain_at .later [] [.data] true (true, "4cdb676ebbd38de5a24044eb8bdd7ee5b24f9cdef6e8b092783701295af17ed0") false
    over (fun _ h => by cases h) (by kernel_rfl) (fun _ h => by cases h) fnExactDecay_row_tie rfl ⟨rfl, rfl⟩ (by kernel_rfl) rfl
    (fun f fn hf hfn => by
      obtain rfl : f = 4 := Option.some.inj ((show Tryd.prog.funcNamed "loop.example/s01330/laws.FnExactDecay" = some 4 by kernel_rfl).symm.trans hf) |>.symm
      obtain rfl : fn = Tryd.f4 := (Option.some.inj (Tryd.func4.symm.trans hfn)).symm
      exact ⟨by kernel_rfl, fun j t ht => by
        rw [Tryd.params4] at ht
        have hm : t ∈ [22] := by have := Array.mem_of_getElem? ht; simp at this ⊢; omega
        have hall : ([22].all fun u => !Tryd.prog.wantsStandIn u) = true := by kernel_rfl
        exact (show Tryd.prog.wantsStandIn t = false by simpa using List.all_eq_true.1 hall t hm)⟩)
    (by kernel_rfl)
end Go.Proofs.YtbcjhnhkpbcmcaaDoor.fnExactDecay
namespace Go.Proofs.YtbcjhnhkpbcmcaaDoor
theorem fnExactDecay_holds : Rows.FnExactDecayCardSaid := fnExactDecay.card
#print axioms fnExactDecay_holds
end Go.Proofs.YtbcjhnhkpbcmcaaDoor
