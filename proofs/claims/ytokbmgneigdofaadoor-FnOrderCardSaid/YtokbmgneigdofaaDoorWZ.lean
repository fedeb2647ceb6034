/- Short words for the printed walks (the small make: only these, and the kit's words that they lean on). -/
import Derived.Test.YtokbmgneigdofaaDoorWWords
namespace Go.Proofs.YtokbmgneigdofaaDoorW.Z
open Go.RowKit Go.Proofs.YtokbmgneigdofaaDoorW.PrintWords
theorem zb {B : Nat} {w w' : World} (h : Below B w w' := by repeat (first | (with_reducible first | exact HB.out | apply below_alloc | apply pw_below_drewN | apply below_drew1 | refine below_set ?_ (Aside0.out (by assumption))) | exact HB.out)) : Below B w w' := h
theorem zk {w : World} {g : Nat} {o : Obj} (h : w.heap[g]? = some o := by (with_reducible repeat (first | refine blk_drewN ?_ _ | refine blk_drew ?_ | refine blk_alloc ?_ _)); exact Aside0.out (by assumption)) : w.heap[g]? = some o := h
theorem za {w0 w w2 : World} {g : Nat} {o : Obj} (_k : Aside0 (w0.heap[g]? = some o)) (hb : Below w.heap.size w w2) (h : w.heap[g]? = some o := by (with_reducible repeat (first | refine blk_drewN ?_ _ | refine blk_drew ?_ | refine blk_alloc ?_ _)); exact Aside0.out (by assumption)) : Aside0 (w2.heap[g]? = some o) := ⟨blk_below h hb⟩
theorem zs (w : World) {w' : World} {g : Nat} (hg : g = w'.heap.size) (h : Below w.heap.size w w' := by repeat (first | (with_reducible first | exact HB.out | apply below_alloc | apply pw_below_drewN | apply below_drew1 | refine below_set ?_ (Aside0.out (by assumption))) | exact HB.out)) : Aside0 (w.heap.size ≤ g) := ⟨by rw [hg]; exact below_size h⟩
theorem zl {w0 w : World} {g g' : Nat} {o : Obj} (_k : Aside0 (w0.heap[g]? = some o)) (hg : g' = w.heap.size) (h : w.heap[g]? = some o := by (with_reducible repeat (first | refine blk_drewN ?_ _ | refine blk_drew ?_ | refine blk_alloc ?_ _)); exact Aside0.out (by assumption)) : Aside0 (g ≠ g') := ⟨by rw [hg]; exact Nat.ne_of_lt (blk_lt h)⟩
theorem zg {w0 w : World} {g g' : Nat} {o : Obj} (_k : Aside0 (w0.heap[g]? = some o)) (hg : g' = w.heap.size) (h : w.heap[g]? = some o := by (with_reducible repeat (first | refine blk_drewN ?_ _ | refine blk_drew ?_ | refine blk_alloc ?_ _)); exact Aside0.out (by assumption)) : Aside0 (g' ≠ g) := ⟨by rw [hg]; exact Nat.ne_of_gt (blk_lt h)⟩
theorem set_drewN (w : World) (n : Nat) (a : Addr) (v : Value) : (w.drewN n).setCell a v = (w.setCell a v).drewN n := rfl
theorem drewN_two (w : World) (n m : Nat) : (w.drewN n).drewN m = w.drewN (n + m) := by simp only [World.drewN, Nat.add_assoc]
/-- Go's shifts of whole numbers: what leaves the width is lost. -/
def shl (k : IntKind) (x n : Int) : Int := k.wrap (x * 2 ^ min n.toNat k.bits)
def shr (k : IntKind) (x n : Int) : Int := x / 2 ^ min n.toNat k.bits
theorem shl_small {k : IntKind} {x n r : Int} (h : shl k x n = r) (hn : n ≤ k.bits) : k.wrap (x * 2 ^ n.toNat) = r := by
  have e : min n.toNat k.bits = n.toNat := by omega
  rw [shl, e] at h; exact h
theorem shr_small {k : IntKind} {x n r : Int} (h : shr k x n = r) (hn : n ≤ k.bits) : x / 2 ^ n.toNat = r := by
  have e : min n.toNat k.bits = n.toNat := by omega
  rw [shr, e] at h; exact h
/-- The walk stands at a call of f: no step, a look. -/
theorem gate_callee {P : Program} {ops rest : _} {Q : Exit → Act → World → Prop} {x : Oper} {a : Act} {w : World} {f : FuncId} {xs : Array Operand} {ts : Array TypeId} (_ : x.op = .call { callee := .value (.func f), args := xs, argTypes := ts }) (h : wpList P ops Q (x :: rest) a w) : wpList P ops Q (x :: rest) a w := h
theorem drewN_self (w : World) (n : Nat) : w.drewN n = w.drewN n := rfl
/-- What holds of a drawn world holds of it by another name. -/
theorem blk_at {w w' : World} {n g : Nat} {o : Obj} (e : w.drewN n = w') (h : w.heap[g]? = some o) : w'.heap[g]? = some o := e ▸ h
theorem cell_at {w w' : World} {n : Nat} {p : Addr} {v : Value} (e : w.drewN n = w') (h : w.cell? p = some v) : w'.cell? p = some v := e ▸ h
theorem below_at {w w' u : World} {n B : Nat} (e : w.drewN n = w') (h : Below B u w) : Below B u w' := e ▸ pw_below_drewN h n
end Go.Proofs.YtokbmgneigdofaaDoorW.Z
