/- The contract of impl.chosen. -/
import Derived.Test.YtokbmgneigdofaaDoorChosen
namespace Go.Proofs.YtokbmgneigdofaaDoor.Given
open Go.RowKit Go.Proofs.YtokbmgneigdofaaDoor.PA Go.Proofs.YtokbmgneigdofaaDoor.PC Go.Proofs.YtokbmgneigdofaaDoor.Eq Go.Proofs.YtokbmgneigdofaaDoorW.PrintWords Go.Proofs.YtokbmgneigdofaaDoorW.PrintLast Go.Proofs.YtokbmgneigdofaaDoorW.Z Go.Proofs.YtokbmgneigdofaaDoor.Num Go.Proofs.YtokbmgneigdofaaDoorW.Z
set_option linter.unusedVariables false

theorem boxes6 (w : World) (o0 o1 o2 o3 o4 o5 : Obj) (W : World) (h : ((((((w.alloc o0).alloc o1).alloc o2).alloc o3).alloc o4).alloc o5) = W) :
    Below w.heap.size w W ∧ W.heap[w.heap.size]? = some o0 ∧ W.heap[w.heap.size + 1]? = some o1 ∧ W.heap[w.heap.size + 1 + 1]? = some o2 ∧ W.heap[w.heap.size + 1 + 1 + 1]? = some o3 ∧ W.heap[w.heap.size + 1 + 1 + 1 + 1]? = some o4 ∧ W.heap[w.heap.size + 1 + 1 + 1 + 1 + 1]? = some o5 := by
  subst h
  have s1 := alloc_size w o0
  have s2 := (alloc_size (w.alloc o0) o1).trans (by rw [s1])
  have s3 := (alloc_size ((w.alloc o0).alloc o1) o2).trans (by rw [s2])
  have s4 := (alloc_size (((w.alloc o0).alloc o1).alloc o2) o3).trans (by rw [s3])
  have s5 := (alloc_size ((((w.alloc o0).alloc o1).alloc o2).alloc o3) o4).trans (by rw [s4])
  refine ⟨?_, ?_, ?_, ?_, ?_, ?_, ?_⟩
  · exact ((((((Below.refl _ _).alloc (by omega) _).alloc (by omega) _).alloc (by omega) _).alloc (by omega) _).alloc (by omega) _).alloc (by omega) _
  · exact blk_alloc (blk_alloc (blk_alloc (blk_alloc (blk_alloc (blk_new w o0) _) _) _) _) _
  · rw [← s1]; exact blk_alloc (blk_alloc (blk_alloc (blk_alloc (blk_new _ o1) _) _) _) _
  · rw [← s2]; exact blk_alloc (blk_alloc (blk_alloc (blk_new _ o2) _) _) _
  · rw [← s3]; exact blk_alloc (blk_alloc (blk_new _ o3) _) _
  · rw [← s4]; exact blk_alloc (blk_new _ o4) _
  · rw [← s5]; exact blk_new _ o5

def impl_chosen.f (f a b : Int) (last : Bool) : Option (Int × Int) := if Word a ∧ Word b then some (chosenV f a b last) else none

set_option maxHeartbeats 2000000 in
theorem impl_chosen.calls (f a b : Int) (last : Bool) (r1 r2 : Int) (w : World) (hGformats : Gformats w) (h : impl_chosen.f f a b last = some (r1, r2)) :
    Calls Tryd.prog 43 #[.int .i64 f, .int .u64 a, .int .u64 b, .bool last] w fun e w' => e = .returned (.agg #[.int .u64 r1, .int .i64 r2]) ∧ Below w.heap.size w w' := by
  unfold impl_chosen.f at h
  split at h
  case isFalse => cases h
  rename_i hw
  have hv := Option.some.inj h
  have e1 : (chosenV f a b last).1 = r1 := by rw [hv]
  have e2 : (chosenV f a b last).2 = r2 := by rw [hv]
  have V := Aside0.mk (And.intro e1 e2)
  have G := Aside0.mk hGformats
  clear h hv e1 e2 hGformats
  have hu33 := Tryd.underlying33
  have hmf : ∀ (fn : Fn) (first cap : Array Value) (w : World), (Instr.makeFunc fn first cap).run Tryd.prog w = .ok (.func fn first cap) w := fun _ _ _ _ => rfl
  have HB := Aside0.mk (Below.refl w.heap.size w)
  go_enter Tryd.func43, Tryd.ntmps43
  go_wp2_with (fail)
  obtain ⟨W, hW⟩ : ∃ W, ((((((w.alloc (.cells #[.int .i64 f] 3)).alloc (.cells #[.int .u64 a] 22)).alloc (.cells #[.int .u64 b] 22)).alloc (.cells #[.bool last] 4)).alloc (.cells #[.int .u64 0, .int .i64 0] 33)).alloc (.cells #[.int .u64 a, .int .u64 b] 22)) = W := ⟨_, rfl⟩
  obtain ⟨hb0, b0, b1, b2, b3, b4, b5⟩ := boxes6 w _ _ _ _ _ _ W hW
  rw [hW]
  clear hW
  clear HB
  have HB := Aside0.mk hb0
  have BK := Aside0.mk b4
  have GE : Aside0 (w.heap.size ≤ w.heap.size + 1 + 1 + 1 + 1) := ⟨by omega⟩
  clear hb0 b4
  generalize w.heap.size + 1 + 1 + 1 + 1 + 1 = g5 at b5 ⊢
  generalize w.heap.size + 1 + 1 + 1 + 1 = gr at BK GE ⊢
  generalize w.heap.size + 1 + 1 + 1 = g3 at b3 ⊢
  generalize w.heap.size + 1 + 1 = g2 at b2 ⊢
  generalize w.heap.size + 1 = g1 at b1 ⊢
  with_reducible refine (special.calls f a b last W (Gformats.below G.out HB.out) hw.1 hw.2 w.heap.size g1 g2 g3 g5 ((blk_cell b0 0).trans rfl) ((blk_cell b1 0).trans rfl) ((blk_cell b2 0).trans rfl) ((blk_cell b3 0).trans rfl) ((blk_cell b5 0).trans rfl) ((blk_cell b5 1).trans rfl)).mono ?_
  rintro e w5 ⟨rfl, hb⟩
  have n0_ := Aside0.mk (below_step zb hb)
  have n1_ := Aside0.mk (blk_below BK.out hb)
  clear HB BK b0 b1 b2 b3 b5 hb
  have HB := n0_
  have BK := n1_
  clear n0_ n1_
  obtain ⟨e1, e2⟩ := V.out
  rw [e1, e2]
  clear e1 e2 V G
  have hz0 : w5.cell? ⟨gr, 0, none⟩ = some (.int .u64 0) := (blk_cell BK.out 0).trans rfl
  have hz1 : w5.cell? ⟨gr, 1, none⟩ = some (.int .i64 0) := (blk_cell BK.out 1).trans rfl
  have hf0 := blk_frozen BK.out 0
  have hf1 := blk_frozen BK.out 1
  go_wp2
  refine bodyPost_ret (results_cell_row rfl _ _ gr 33 #[.int .u64 r1, .int .i64 r2] (0, 0) _ rfl (by refine blk_put (cs := #[.int .u64 r1, .int .i64 0]) ?_ 1 _ rfl; refine blk_put (cs := #[.int .u64 0, .int .i64 0]) ?_ 0 _ rfl; (with_reducible repeat (first | refine blk_drewN ?_ _ | refine blk_drew ?_)); exact BK.out) Tryd.underlying33 rfl (by kernel_rfl)) rfl ⟨rfl, zb⟩
end Go.Proofs.YtokbmgneigdofaaDoor.Given
