/- Short words for the printed walks: what stands ahead of a step holds behind it (each by one fixed search among what the walk has laid aside). -/
import Derived.Test.YtokbmgneigdofaaDoorWWords
import Derived.Test.YtokbmgneigdofaaDoorWMore
namespace Go.Proofs.YtokbmgneigdofaaDoorW.Z
open Go.RowKit Go.Proofs.YtokbmgneigdofaaDoorW.PrintWords
theorem zb {B : Nat} {w w' : World} (h : Below B w w' := by repeat (first | (with_reducible first | exact HB.out | apply below_alloc | apply pw_below_drewN | apply below_drew1 | refine below_set ?_ (Aside0.out (by assumption))) | exact HB.out)) : Below B w w' := h
theorem zk {w : World} {g : Nat} {o : Obj} (h : w.heap[g]? = some o := by (with_reducible repeat (first | refine blk_drewN ?_ _ | refine blk_drew ?_ | refine blk_alloc ?_ _)); exact Aside0.out (by assumption)) : w.heap[g]? = some o := h
theorem za {w0 w w2 : World} {g : Nat} {o : Obj} (_k : Aside0 (w0.heap[g]? = some o)) (hb : Below w.heap.size w w2) (h : w.heap[g]? = some o := by (with_reducible repeat (first | refine blk_drewN ?_ _ | refine blk_drew ?_ | refine blk_alloc ?_ _)); exact Aside0.out (by assumption)) : Aside0 (w2.heap[g]? = some o) := ⟨blk_below h hb⟩
theorem zs (w : World) {w' : World} {g : Nat} (hg : g = w'.heap.size) (h : Below w.heap.size w w' := by repeat (first | (with_reducible first | exact HB.out | apply below_alloc | apply pw_below_drewN | apply below_drew1 | refine below_set ?_ (Aside0.out (by assumption))) | exact HB.out)) : Aside0 (w.heap.size ≤ g) := ⟨by rw [hg]; exact below_size h⟩
theorem zl {w0 w : World} {g g' : Nat} {o : Obj} (_k : Aside0 (w0.heap[g]? = some o)) (hg : g' = w.heap.size) (h : w.heap[g]? = some o := by (with_reducible repeat (first | refine blk_drewN ?_ _ | refine blk_drew ?_ | refine blk_alloc ?_ _)); exact Aside0.out (by assumption)) : Aside0 (g ≠ g') := ⟨by rw [hg]; exact Nat.ne_of_lt (blk_lt h)⟩
theorem zg {w0 w : World} {g g' : Nat} {o : Obj} (_k : Aside0 (w0.heap[g]? = some o)) (hg : g' = w.heap.size) (h : w.heap[g]? = some o := by (with_reducible repeat (first | refine blk_drewN ?_ _ | refine blk_drew ?_ | refine blk_alloc ?_ _)); exact Aside0.out (by assumption)) : Aside0 (g' ≠ g) := ⟨by rw [hg]; exact Nat.ne_of_gt (blk_lt h)⟩
theorem set_drewN (w : World) (n : Nat) (a : Addr) (v : Value) : (w.drewN n).setCell a v = (w.setCell a v).drewN n := rfl
theorem drewN_two (w : World) (n m : Nat) : (w.drewN n).drewN m = w.drewN (n + m) := by simp only [World.drewN, Nat.add_assoc]
end Go.Proofs.YtokbmgneigdofaaDoorW.Z
