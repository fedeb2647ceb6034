/- The contract of the closure in impl.chosen: of two numbers the one that stands first, or last. -/
import Derived.Test.YtokbmgneigdofaaDoorPA6
import Derived.OneCell
namespace Go.Proofs.YtokbmgneigdofaaDoor.Given
open Go.RowKit Go.Proofs.YtokbmgneigdofaaDoor.PA Go.Proofs.YtokbmgneigdofaaDoorW.PrintWords Go.Proofs.YtokbmgneigdofaaDoorW.PrintLast Go.Proofs.YtokbmgneigdofaaDoorW.Z Go.Proofs.YtokbmgneigdofaaDoor.Num Go.Proofs.YtokbmgneigdofaaDoorW.Z
set_option linter.unusedVariables false

/-- What stands ahead: the order, or the signs' difference. -/
def pickOrder (o sa sb : Int) : Int := if o = 0 then wrap64 (sb - sa) else o

set_option maxHeartbeats 1000000 in
theorem rule.calls (k : Nat) (f a b : Int) (last : Bool) (o fl sa sb : Int) (w : World) (hG : Gformats w) (gf ga gb gl g cap : Nat)
    (hcf : w.cell? ⟨gf, 0, none⟩ = some (.int .i64 f)) (hca : w.cell? ⟨ga, 0, none⟩ = some (.int .u64 a)) (hcb : w.cell? ⟨gb, 0, none⟩ = some (.int .u64 b)) (hcl : w.cell? ⟨gl, 0, none⟩ = some (.bool last))
    (hs0 : w.cell? ⟨g, 1, none⟩ = some (.int .i64 sa)) (hs1 : w.cell? ⟨g, 5, none⟩ = some (.int .i64 sb)) (h : impl_Compare.f k f a b false = some (o, fl)) :
    Calls Tryd.prog 53 #[.slice (some ⟨g, 0, none⟩) 2 cap, .pointer (some ⟨gf, 0, none⟩), .pointer (some ⟨ga, 0, none⟩), .pointer (some ⟨gb, 0, none⟩), .pointer (some ⟨gl, 0, none⟩)] w fun e w' =>
      e = .returned (.agg #[.int .u64 (if decide (0 < pickOrder o sa sb) == last then a else b), .int .i64 0]) ∧ Below w.heap.size w w' := by
  have hu24 := Tryd.underlying24
  have hu33 := Tryd.underlying33
  have HB := Aside0.mk (Below.refl w.heap.size w)
  have A1 := Aside0.mk h
  have bf : gf < w.heap.size := World.block_lt_of_cell? w ⟨gf, 0, none⟩ hcf
  have ba : ga < w.heap.size := World.block_lt_of_cell? w ⟨ga, 0, none⟩ hca
  have bb : gb < w.heap.size := World.block_lt_of_cell? w ⟨gb, 0, none⟩ hcb
  have bl : gl < w.heap.size := World.block_lt_of_cell? w ⟨gl, 0, none⟩ hcl
  have bg : g < w.heap.size := World.block_lt_of_cell? w ⟨g, 1, none⟩ hs0
  clear h
  by_cases ho : o = 0
  · have hp : pickOrder o sa sb = wrap64 (sb - sa) := by unfold pickOrder; rw [if_pos ho]
    have hob : (o == 0) = true := by simpa using ho
    rw [hp]
    clear hp ho
    go_enter Tryd.func53, Tryd.ntmps53
    go_wp2_with (first | ((with_reducible refine gate_dst (N := 6) rfl ?_); refine box_event ?hg (N := 6) ?hd (cs := #[.int .u64 0, .int .i64 0]) (t := 33) ?hr ?_; (case hd => rfl); (case hg => rfl); (case hr => first | (go_simp; done) | (go_simp; rfl)); intro gr hgr w1 hbox hb; have n0_ := Aside0.mk (below_step zb hb); have n1_ := Aside0.mk (hbox); have n2_ := zs w hgr; clear HB; have HB := n0_; have BK := n1_; have GE := n2_; clear n0_ n1_ n2_ hb hbox hgr; have hcf1 := (HB.out.cell (p := ⟨gf, 0, none⟩) bf).trans hcf; have hca1 := (HB.out.cell (p := ⟨ga, 0, none⟩) ba).trans hca; have hcb1 := (HB.out.cell (p := ⟨gb, 0, none⟩) bb).trans hcb) | ((with_reducible refine gate_callee (f := 15) rfl ?_); refine goesL_ (some 13) rfl rfl Tryd.func15 (by kernel_rfl) rfl #[.int .i64 f, .int .u64 a, .int .u64 b, .bool false] rfl (by (try simp only [List.map_toArray, List.map_cons, List.map_nil]); first | done | rfl) ?_; (with_reducible refine (impl_Compare.calls k f a b false o fl _ ?side1 A1.out).mono ?_); (case side1 => exact Gformats.below hG HB.out); rintro e w5 ⟨rfl, hb5⟩; refine ⟨_, rfl, ?_⟩; have n0_ := Aside0.mk (below_step zb hb5); have n1_ := Aside0.mk (blk_below BK.out hb5); clear HB BK; have HB := n0_; have BK := n1_; clear n0_ n1_ hb5; have hca5 := (HB.out.cell (p := ⟨ga, 0, none⟩) ba).trans hca; have hcb5 := (HB.out.cell (p := ⟨gb, 0, none⟩) bb).trans hcb; have hcl5 := (HB.out.cell (p := ⟨gl, 0, none⟩) bl).trans hcl; have hs05 := (HB.out.cell (p := ⟨g, 1, none⟩) bg).trans hs0; have hs15 := (HB.out.cell (p := ⟨g, 5, none⟩) bg).trans hs1; have hz0 : w5.cell? ⟨gr, 0, none⟩ = some (.int .u64 0) := (blk_cell BK.out 0).trans rfl; have hz1 : w5.cell? ⟨gr, 1, none⟩ = some (.int .i64 0) := (blk_cell BK.out 1).trans rfl; have hf0 := blk_frozen BK.out 0; have hf1 := blk_frozen BK.out 1; clear hcf hca hcb hcl hs0 hs1))
    go_region
    go_wp2
    all_goals first | (refine bodyPost_ret (results_cell_row rfl _ _ gr 33 #[.int .u64 a, .int .i64 0] (0, 0) _ rfl (by refine blk_put (cs := #[.int .u64 a, .int .i64 0]) ?_ 1 _ rfl; refine blk_put (cs := #[.int .u64 0, .int .i64 0]) ?_ 0 _ rfl; (with_reducible repeat (first | refine blk_drewN ?_ _ | refine blk_drew ?_)); exact BK.out) Tryd.underlying33 rfl (by kernel_rfl)) rfl ⟨rfl, zb⟩) | (refine bodyPost_ret (results_cell_row rfl _ _ gr 33 #[.int .u64 b, .int .i64 0] (0, 0) _ rfl (by refine blk_put (cs := #[.int .u64 b, .int .i64 0]) ?_ 1 _ rfl; refine blk_put (cs := #[.int .u64 0, .int .i64 0]) ?_ 0 _ rfl; (with_reducible repeat (first | refine blk_drewN ?_ _ | refine blk_drew ?_)); exact BK.out) Tryd.underlying33 rfl (by kernel_rfl)) rfl ⟨rfl, zb⟩)
  · have hp : pickOrder o sa sb = o := by unfold pickOrder; rw [if_neg ho]
    have hob : (o == 0) = false := by simpa using ho
    rw [hp]
    clear hp ho
    go_enter Tryd.func53, Tryd.ntmps53
    go_wp2_with (first | ((with_reducible refine gate_dst (N := 6) rfl ?_); refine box_event ?hg (N := 6) ?hd (cs := #[.int .u64 0, .int .i64 0]) (t := 33) ?hr ?_; (case hd => rfl); (case hg => rfl); (case hr => first | (go_simp; done) | (go_simp; rfl)); intro gr hgr w1 hbox hb; have n0_ := Aside0.mk (below_step zb hb); have n1_ := Aside0.mk (hbox); have n2_ := zs w hgr; clear HB; have HB := n0_; have BK := n1_; have GE := n2_; clear n0_ n1_ n2_ hb hbox hgr; have hcf1 := (HB.out.cell (p := ⟨gf, 0, none⟩) bf).trans hcf; have hca1 := (HB.out.cell (p := ⟨ga, 0, none⟩) ba).trans hca; have hcb1 := (HB.out.cell (p := ⟨gb, 0, none⟩) bb).trans hcb) | ((with_reducible refine gate_callee (f := 15) rfl ?_); refine goesL_ (some 13) rfl rfl Tryd.func15 (by kernel_rfl) rfl #[.int .i64 f, .int .u64 a, .int .u64 b, .bool false] rfl (by (try simp only [List.map_toArray, List.map_cons, List.map_nil]); first | done | rfl) ?_; (with_reducible refine (impl_Compare.calls k f a b false o fl _ ?side1 A1.out).mono ?_); (case side1 => exact Gformats.below hG HB.out); rintro e w5 ⟨rfl, hb5⟩; refine ⟨_, rfl, ?_⟩; have n0_ := Aside0.mk (below_step zb hb5); have n1_ := Aside0.mk (blk_below BK.out hb5); clear HB BK; have HB := n0_; have BK := n1_; clear n0_ n1_ hb5; have hca5 := (HB.out.cell (p := ⟨ga, 0, none⟩) ba).trans hca; have hcb5 := (HB.out.cell (p := ⟨gb, 0, none⟩) bb).trans hcb; have hcl5 := (HB.out.cell (p := ⟨gl, 0, none⟩) bl).trans hcl; have hs05 := (HB.out.cell (p := ⟨g, 1, none⟩) bg).trans hs0; have hs15 := (HB.out.cell (p := ⟨g, 5, none⟩) bg).trans hs1; have hz0 : w5.cell? ⟨gr, 0, none⟩ = some (.int .u64 0) := (blk_cell BK.out 0).trans rfl; have hz1 : w5.cell? ⟨gr, 1, none⟩ = some (.int .i64 0) := (blk_cell BK.out 1).trans rfl; have hf0 := blk_frozen BK.out 0; have hf1 := blk_frozen BK.out 1; clear hcf hca hcb hcl hs0 hs1))
    all_goals first | (refine bodyPost_ret (results_cell_row rfl _ _ gr 33 #[.int .u64 a, .int .i64 0] (0, 0) _ rfl (by refine blk_put (cs := #[.int .u64 a, .int .i64 0]) ?_ 1 _ rfl; refine blk_put (cs := #[.int .u64 0, .int .i64 0]) ?_ 0 _ rfl; (with_reducible repeat (first | refine blk_drewN ?_ _ | refine blk_drew ?_)); exact BK.out) Tryd.underlying33 rfl (by kernel_rfl)) rfl ⟨rfl, zb⟩) | (refine bodyPost_ret (results_cell_row rfl _ _ gr 33 #[.int .u64 b, .int .i64 0] (0, 0) _ rfl (by refine blk_put (cs := #[.int .u64 b, .int .i64 0]) ?_ 1 _ rfl; refine blk_put (cs := #[.int .u64 0, .int .i64 0]) ?_ 0 _ rfl; (with_reducible repeat (first | refine blk_drewN ?_ _ | refine blk_drew ?_)); exact BK.out) Tryd.underlying33 rfl (by kernel_rfl)) rfl ⟨rfl, zb⟩)
end Go.Proofs.YtokbmgneigdofaaDoor.Given
