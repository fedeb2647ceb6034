/- The contract of impl.special where its rule is the closure of impl.chosen, and of impl.chosen. -/
import Derived.Test.YtokbmgneigdofaaDoorRule
import Derived.Test.YtokbmgneigdofaaDoorPC
import Derived.Test.YtokbmgneigdofaaDoorEqCompare
import Derived.Laws.AppendOwn
import Derived.Below
namespace Go.Proofs.YtokbmgneigdofaaDoor.Given
open Go.RowKit Go.Proofs.YtokbmgneigdofaaDoor.PA Go.Proofs.YtokbmgneigdofaaDoor.PC Go.Proofs.YtokbmgneigdofaaDoor.Eq Go.Proofs.YtokbmgneigdofaaDoorW.PrintWords Go.Proofs.YtokbmgneigdofaaDoorW.PrintLast Go.Proofs.YtokbmgneigdofaaDoorW.Z Go.Proofs.YtokbmgneigdofaaDoor.Num Go.Proofs.YtokbmgneigdofaaDoorW.Z
set_option linter.unusedVariables false

/-- What impl.chosen gives. -/
def chosenV (f a b : Int) (last : Bool) : Int × Int :=
  if fits f a = true ∧ fits f b = true then
    (if kind f a = 4 ∨ kind f b = 4 then (bNan f, 1) else if kind f a ≥ 3 ∨ kind f b ≥ 3 then (bNan f, 0) else
      (if decide (0 < pickOrder (order f a b) (sgn f a) (sgn f b)) == last then a else b, 0))
  else (bNan f, 1)

theorem own_below {w w' : World} {base : Nat} {e : TypeId} {size n : Nat} {v : Value} {xs : List Value} (h : w.ownsRow base e size v n xs) (hb : Below w.heap.size w w') : w'.ownsRow base e size v n xs := by
  refine ⟨h.1, ?_⟩
  rcases h.2 with h0 | ⟨g, cap, cur, h1, h2, h3, h4⟩
  · exact .inl h0
  · exact .inr ⟨g, cap, cur, h1, h2, blk_below h3 hb, h4⟩

theorem cell_four_new (w : World) (x y z u : Value) (t : TypeId) : ∀ (j : Nat) c, [x, y, z, u][j]? = some c → (w.alloc (.cells #[x, y, z, u] t)).cell? ((⟨w.heap.size, 0, none⟩ : Addr).add j) = some c := by
  intro j c hj
  match j, hj with
  | 0, hj => simp at hj; subst hj; simp [Addr.add]
  | 1, hj => simp at hj; subst hj; simp [Addr.add]
  | 2, hj => simp at hj; subst hj; simp [Addr.add]
  | 3, hj => simp at hj; subst hj; simp [Addr.add]
  | (j + 4), hj => simp at hj

theorem heap_new (w : World) (cs : Array Value) (t : TypeId) : (w.alloc (.cells cs t)).heap[w.heap.size]? = some (.cells cs t (0, 0)) := by simp only [World.alloc, Array.getElem?_push_size]

theorem alloc_le (w : World) (o : Obj) : w.heap.size ≤ (w.alloc o).heap.size := by simp only [World.alloc, Array.size_push]; omega

theorem alloc_size (w : World) (o : Obj) : (w.alloc o).heap.size = w.heap.size + 1 := by simp only [World.alloc, Array.size_push]
theorem cell_four_new2 (w : World) (o : Obj) (x y z u : Value) (t : TypeId) : ∀ (j : Nat) c, [x, y, z, u][j]? = some c → ((w.alloc o).alloc (.cells #[x, y, z, u] t)).cell? ((⟨w.heap.size + 1, 0, none⟩ : Addr).add j) = some c := by
  have h := cell_four_new (w.alloc o) x y z u t
  rw [alloc_size] at h
  exact h

theorem append_keep {w wr w3 : World} {B0 gr gt n m : Nat} {e : TypeId} {size : Nat} {v v' : Value} {xs ys : List Value} {o1 o2 : Obj} (HB : Below w.heap.size w wr) (HO : wr.ownsRow B0 e size v n xs) (HZ : B0 ≤ wr.heap.size) (BK : wr.heap[gr]? = some o1) (BT : wr.heap[gt]? = some o2)
    (gB : gr < B0) (gC : gt < B0) (gW : w.heap.size ≤ B0) (o : Obj) (hown' : w3.ownsRow B0 e size v' m ys) (hg : (wr.alloc o).grownBy w3 v.ownBlock) :
    Aside0 (w3.ownsRow B0 e size v' m ys) ∧ Aside0 (B0 ≤ w3.heap.size) ∧ Aside0 (Below w.heap.size w w3) ∧ Aside0 (w3.heap[gr]? = some o1) ∧ Aside0 (w3.heap[gt]? = some o2) := by
  have hlt := fun j h => (HO.lt j h).1
  have ha := alloc_le wr o
  refine ⟨⟨hown'⟩, ⟨?_⟩, ⟨?_⟩, ⟨?_⟩, ⟨?_⟩⟩
  · exact Nat.le_trans HZ (Nat.le_trans ha hg.size)
  · exact Below.grown (HB.alloc (Nat.le_trans gW HZ) _) hg (Nat.le_trans gW (Nat.le_trans HZ ha)) (fun j hj => Nat.le_trans gW (hlt j hj))
  · rw [hg.block gr (by omega) (fun h => by have := hlt _ h.symm; omega)]; exact blk_alloc BK _
  · rw [hg.block gt (by omega) (fun h => by have := hlt _ h.symm; omega)]; exact blk_alloc BT _

/-- A call of a function value that the walk knows. -/
theorem goesF_ {P : Program} {ops : Array Oper} {Q : Exit → Act → World → Prop} {rest : List Oper} {oi : Oper} {a : Act} {w : World} (N : Option Tmp) (hd : oi.dst = N) (hg : oi.guard = none) {f : FuncId} {fn : Func} {x : Operand} {xs : Array Operand} {ts : Array TypeId} (hf : P.funcs[f]? = some fn) (hname : (fn.name == "runtime.NumGoroutine") = false) (hb : fn.body.isSome = true) (args cap : Array Value)
    (hop : oi.op = .call { callee := .value x, args := xs, argTypes := ts }) (hx : a.eval x = .func (.func f) #[] cap) (hargs : xs.map a.eval = args)
    (h : Calls P f (args ++ cap) w fun e w' => ∃ v, e = .returned v ∧ wpList P ops Q rest (a.put N v) w') : wpList P ops Q (oi :: rest) a w := by
  refine wpList_plain hg fun K hK => ?_
  have he := enters_ hf hname hb (args ++ cap) w
  have hrun : (execOp a.eval oi).run P w = .ok (.enter f (args ++ cap)) w := by
    unfold execOp
    simp [hop, resolve, Deferred.ofValue, invoke, hx, hargs, he]
  unfold Oper.wp
  rw [hrun, Oper.upon_enter]
  refine h.mono fun e w'' hh => ?_
  obtain ⟨v, rfl, hv⟩ := hh
  subst hd
  exact hK _ _ hv

theorem info24 : (Tryd.prog.info? 24).map (fun i => (i.zero, i.size, i.bytes)) = some (some (.agg #[.int .i64 0, .int .i64 0, .int .i64 0, .int .u64 0]), 4, 32) := by kernel_rfl

theorem invalid_eq (f : Int) : impl_invalid.f f = some (bNan f, 1) := by
  have hn := nan_fmt f
  unfold impl_invalid.f
  unfold impl_formatOf.f at *
  rw [Option.bind_some] at hn
  rw [Option.bind_some, hn]; rfl
-- WALKS
theorem fmt_of (f : Int) : ∃ p q r, impl_formatOf.f f = some (p, q, r) ∧ impl_format_nan.f p q r = some (bNan f) ∧ (f = 0 ∨ f = 1 → ∀ x, impl_format_fits.f p q r x = some (fits f x)) := by
  have hn := nan_fmt f
  have hx := impl_fits_eq f
  unfold impl_formatOf.f at *
  generalize (if f = 0 then ((24 : Int), (-126 : Int), (127 : Int)) else (53, -1022, 1023)) = T at *
  obtain ⟨p, q, r⟩ := T
  simp only [Option.bind_some] at hn hx
  exact ⟨p, q, r, rfl, hn, fun h x => hx x h⟩

set_option maxHeartbeats 2000000 in
theorem special.bad (f a b : Int) (last : Bool) (w : World) (hG : Gformats w) (wa : Word a) (wb : Word b) (gf ga gb gl gw : Nat)
    (hcf : w.cell? ⟨gf, 0, none⟩ = some (.int .i64 f)) (hca : w.cell? ⟨ga, 0, none⟩ = some (.int .u64 a)) (hcb : w.cell? ⟨gb, 0, none⟩ = some (.int .u64 b)) (hcl : w.cell? ⟨gl, 0, none⟩ = some (.bool last))
    (hw0 : w.cell? ⟨gw, 0, none⟩ = some (.int .u64 a)) (hw1 : w.cell? ⟨gw, 1, none⟩ = some (.int .u64 b)) (h0 : f ≠ 0) (h1 : f ≠ 1) :
    Calls Tryd.prog 52 #[.int .i64 f, .int .i64 0, .func (.func 53) #[] #[.pointer (some ⟨gf, 0, none⟩), .pointer (some ⟨ga, 0, none⟩), .pointer (some ⟨gb, 0, none⟩), .pointer (some ⟨gl, 0, none⟩)], .slice (some ⟨gw, 0, none⟩) 2 2] w fun e w' => e = .returned (.agg #[.int .u64 (bNan f), .int .i64 1]) ∧ Below w.heap.size w w' := by
  have hu33 := Tryd.underlying33
  have hu45 := Tryd.underlying45
  have HB := Aside0.mk (Below.refl w.heap.size w)
  obtain ⟨p, q, r, hf0, hn0, _⟩ := fmt_of f
  have hgood : impl_goodFormat.f f = some false := by unfold impl_goodFormat.f; rw [if_neg h0]; simpa using h1
  have A1 := Aside0.mk hf0
  have A2 := Aside0.mk hgood
  clear hcf hca hcb hcl hw0 hw1 hf0 hn0 hgood
  go_enter Tryd.func52, Tryd.ntmps52
  go_wp2_with (first | ((with_reducible refine gate_dst (N := 8) rfl ?_); refine box_event ?hg (N := 8) ?hd (cs := #[.int .u64 0, .int .i64 0]) (t := 33) ?hr ?_; (case hd => rfl); (case hg => rfl); (case hr => first | (go_simp; done) | (go_simp; rfl)); intro gr hgr_ w1 hbox hb; have gz_ := zs _ hgr_; have n0_ := Aside0.mk (below_step zb hb); clear HB; have HB := n0_; clear n0_ hb; have BK := Aside0.mk hbox; have BKG := gz_; clear gz_ hbox hgr_) | ((with_reducible refine gate_callee (f := 30) rfl ?_); refine goesL_ (some 17) rfl rfl Tryd.func30 (by kernel_rfl) rfl #[.int .i64 f] rfl (by (try simp only [List.map_toArray, List.map_cons, List.map_nil]); first | done | rfl) ?_; (with_reducible refine (impl_formatOf.calls f p q r _ ?side1 A1.out).mono ?_); (case side1 => exact Gformats.below hG HB.out); rintro e w5 ⟨rfl, hb⟩; refine ⟨_, rfl, ?_⟩; have n0_ := Aside0.mk (below_step zb hb); have n1_ := Aside0.mk (blk_below BK.out hb); clear HB BK; have HB := n0_; have BK := n1_; clear n0_ n1_ hb) | ((with_reducible refine gate_callee (f := 31) rfl ?_); refine goesL_ (some 19) rfl rfl Tryd.func31 (by kernel_rfl) rfl #[.int .i64 f] rfl (by (try simp only [List.map_toArray, List.map_cons, List.map_nil]); first | done | rfl) ?_; (with_reducible refine (impl_goodFormat.calls f false _ A2.out).mono ?_); rintro e w5 ⟨rfl, hb0⟩; have hb := hb0.below; clear hb0; refine ⟨_, rfl, ?_⟩; have n0_ := Aside0.mk (below_step zb hb); have n1_ := Aside0.mk ((za BK hb).out); clear HB BK; have HB := n0_; have BK := n1_; clear n0_ n1_ hb) | ((with_reducible refine gate_callee (f := 60) rfl ?_); refine goesL_ (some 27) rfl rfl Tryd.func60 (by kernel_rfl) rfl #[.int .i64 f] rfl (by (try simp only [List.map_toArray, List.map_cons, List.map_nil]); first | done | rfl) ?_; (with_reducible refine (impl_invalid.calls f (bNan f) 1 _ ?side1 (invalid_eq f)).mono ?_); (case side1 => exact Gformats.below hG HB.out); rintro e w5 ⟨rfl, hb⟩; refine ⟨_, rfl, ?_⟩; have n0_ := Aside0.mk (below_step zb hb); have n1_ := Aside0.mk (blk_below BK.out hb); clear HB BK; have HB := n0_; have BK := n1_; clear n0_ n1_ hb; have hz0 : w5.cell? ⟨gr, 0, none⟩ = some (.int .u64 0) := (blk_cell BK.out 0).trans rfl; have hz1 : w5.cell? ⟨gr, 1, none⟩ = some (.int .i64 0) := (blk_cell BK.out 1).trans rfl; have hf0 := blk_frozen BK.out 0; have hf1 := blk_frozen BK.out 1))
  (refine bodyPost_ret (results_cell_row rfl _ _ gr 33 #[.int .u64 (bNan f), .int .i64 1] (0, 0) _ rfl (by refine blk_put (cs := #[.int .u64 (bNan f), .int .i64 0]) ?_ 1 _ rfl; refine blk_put (cs := #[.int .u64 0, .int .i64 0]) ?_ 0 _ rfl; (with_reducible repeat (first | refine blk_drewN ?_ _ | refine blk_drew ?_)); exact BK.out) Tryd.underlying33 rfl (by kernel_rfl)) rfl ⟨rfl, zb⟩)

def Qs (f x : Int) : List Value := [.int .i64 (kind f x), .int .i64 (sgn f x), .int .i64 (expo f x), .int .u64 (sig f x)]
def nanK (f a b : Int) : Nat → Bool | 0 => false | 1 => decide (kind f a ≥ 3) | _ => decide (kind f a ≥ 3) || decide (kind f b ≥ 3)
def sigK (f a b : Int) : Nat → Bool | 0 => false | 1 => kind f a == 4 | _ => (kind f a == 4) || (kind f b == 4)
def xsK (f a b : Int) : Nat → List Value | 0 => [] | 1 => Qs f a | _ => Qs f a ++ Qs f b
def fitK (f a b : Int) : Nat → Prop | 0 => True | 1 => fits f a = true | _ => fits f a = true ∧ fits f b = true


set_option maxHeartbeats 4000000 in
theorem special.good (f a b : Int) (last : Bool) (w : World) (hG : Gformats w) (wa : Word a) (wb : Word b) (gf ga gb gl gw : Nat)
    (hcf : w.cell? ⟨gf, 0, none⟩ = some (.int .i64 f)) (hca : w.cell? ⟨ga, 0, none⟩ = some (.int .u64 a)) (hcb : w.cell? ⟨gb, 0, none⟩ = some (.int .u64 b)) (hcl : w.cell? ⟨gl, 0, none⟩ = some (.bool last))
    (hw0 : w.cell? ⟨gw, 0, none⟩ = some (.int .u64 a)) (hw1 : w.cell? ⟨gw, 1, none⟩ = some (.int .u64 b)) (hf : f = 0 ∨ f = 1) :
    Calls Tryd.prog 52 #[.int .i64 f, .int .i64 0, .func (.func 53) #[] #[.pointer (some ⟨gf, 0, none⟩), .pointer (some ⟨ga, 0, none⟩), .pointer (some ⟨gb, 0, none⟩), .pointer (some ⟨gl, 0, none⟩)], .slice (some ⟨gw, 0, none⟩) 2 2] w fun e w' => e = .returned (.agg #[.int .u64 (chosenV f a b last).1, .int .i64 (chosenV f a b last).2]) ∧ Below w.heap.size w w' := by
  have hu33 := Tryd.underlying33
  have hu45 := Tryd.underlying45
  have hu24 := Tryd.underlying24
  have HB := Aside0.mk (Below.refl w.heap.size w)
  obtain ⟨p, q, r, hf0, hn0, hfit⟩ := fmt_of f
  have hgood : impl_goodFormat.f f = some true := by rcases hf with rfl | rfl <;> decide +kernel
  have hmode : impl_goodMode.f 0 = some true := by decide +kernel
  have A1 := Aside0.mk hf0
  have A2 := Aside0.mk hgood
  have A3 := Aside0.mk hmode
  have A4 := Aside0.mk hn0
  have A5 := Aside0.mk (hfit hf)
  have C1 := Aside0.mk hcf
  have C2 := Aside0.mk hca
  have C3 := Aside0.mk hcb
  have C4 := Aside0.mk hcl
  have C5 := Aside0.mk hw0
  have C6 := Aside0.mk hw1
  clear hcf hca hcb hcl hw0 hw1 hf0 hn0 hgood hmode hfit
  go_enter Tryd.func52, Tryd.ntmps52
  go_wp2_with (first | ((with_reducible refine gate_dst (N := 8) rfl ?_); refine box_event ?hg (N := 8) ?hd (cs := #[.int .u64 0, .int .i64 0]) (t := 33) ?hr ?_; (case hd => rfl); (case hg => rfl); (case hr => first | (go_simp; done) | (go_simp; rfl)); intro gr hgr_ w1 hbox hb; have gz_ := zs _ hgr_; have n0_ := Aside0.mk (below_step zb hb); clear HB; have HB := n0_; clear n0_ hb; have BK := Aside0.mk hbox; have BKG := gz_; clear gz_ hbox hgr_) | ((with_reducible refine gate_callee (f := 30) rfl ?_); refine goesL_ (some 17) rfl rfl Tryd.func30 (by kernel_rfl) rfl #[.int .i64 f] rfl (by (try simp only [List.map_toArray, List.map_cons, List.map_nil]); first | done | rfl) ?_; (with_reducible refine (impl_formatOf.calls f p q r _ ?side1 A1.out).mono ?_); (case side1 => exact Gformats.below hG HB.out); rintro e wF ⟨rfl, hb⟩; refine ⟨_, rfl, ?_⟩; have n0_ := Aside0.mk (below_step zb hb); have n1_ := Aside0.mk (blk_below BK.out hb); clear HB BK; have HB := n0_; have BK := n1_; clear n0_ n1_ hb) | ((with_reducible refine gate_callee (f := 31) rfl ?_); have BT0 : Aside0 ((wF.alloc (.cells #[.int .i64 p, .int .i64 q, .int .i64 r] 45)).heap[wF.heap.size]? = some (.cells #[.int .i64 p, .int .i64 q, .int .i64 r] 45 (0, 0))) := ⟨heap_new _ _ _⟩; have BTG : Aside0 (w.heap.size ≤ wF.heap.size) := ⟨below_size HB.out⟩; generalize wF.heap.size = gt at BT0 BTG ⊢; refine goesL_ (some 19) rfl rfl Tryd.func31 (by kernel_rfl) rfl #[.int .i64 f] rfl (by (try simp only [List.map_toArray, List.map_cons, List.map_nil]); first | done | rfl) ?_; (with_reducible refine (impl_goodFormat.calls f true _ A2.out).mono ?_); rintro e w5 ⟨rfl, hb0⟩; have hb := hb0.below; clear hb0; refine ⟨_, rfl, ?_⟩; have n0_ := Aside0.mk (below_step zb hb); have n1_ := Aside0.mk ((za BK hb).out); have n2_ := Aside0.mk (blk_below BT0.out hb); clear HB BK BT0; have HB := n0_; have BK := n1_; have BT0 := n2_; clear n0_ n1_ n2_ hb))
  (with_reducible refine (impl_goodMode.calls 0 true _ A3.out).mono ?_); rintro e wM ⟨rfl, hb0⟩; have hb := hb0.below; clear hb0; have n0_ := Aside0.mk (below_step zb hb); have n1_ := Aside0.mk (blk_below BK.out hb); have n2_ := Aside0.mk (blk_below BT0.out hb); clear HB BK BT0; have HB := n0_; have BK := n1_; have BT0 := n2_; clear n0_ n1_ n2_ hb
  go_wp2
  have gB : gr < wM.heap.size := blk_lt BK.out
  have gC : gt < wM.heap.size := blk_lt BT0.out
  have gW : w.heap.size ≤ wM.heap.size := below_size HB.out
  have gWw : gw < w.heap.size := World.block_lt_of_cell? w ⟨gw, 0, none⟩ C5.out
  obtain ⟨B0, hB0⟩ : ∃ B, wM.heap.size = B := ⟨_, rfl⟩
  have HZ0 : B0 ≤ wM.heap.size := by omega
  rw [hB0] at gB gC gW
  clear hB0
  go_loopw [10, 11, 12, 30] (fun v n s i wr => ∃ (k : Nat), k ≤ 2 ∧ i = .int .i64 k ∧ n = .bool (nanK f a b k) ∧ s = .bool (sigK f a b k) ∧ Aside0 (fitK f a b k) ∧ Aside0 (wr.ownsRow B0 24 4 v k (xsK f a b k)) ∧ Aside0 (B0 ≤ wr.heap.size) ∧ Aside0 (Below w.heap.size w wr) ∧ Aside0 (wr.heap[gr]? = some (.cells #[.int .u64 0, .int .i64 0] 33 (0, 0))) ∧ Aside0 (wr.heap[gt]? = some (.cells #[.int .i64 p, .int .i64 q, .int .i64 r] 45 (0, 0)))) (fun _ _ _ i _ => 2 - (intOf i).toNat)
  case atStart => exact ⟨0, by decide, rfl, rfl, rfl, ⟨trivial⟩, ⟨World.ownsRow_nil _ _ _ _⟩, ⟨HZ0⟩, HB, BK, BT0⟩
  case round =>
    clear HB BK BT0
    obtain ⟨k, hk, rfl, rfl, rfl, HF, HO, HZ, HB, BK, BT⟩ := hrel
    rcases (by omega : k = 0 ∨ k = 1 ∨ k = 2) with rfl | rfl | rfl
    · -- the first word
      have hx : wr.cell? ⟨gw, 0, none⟩ = some (.int .u64 a) := (HB.out.cell (p := ⟨gw, 0, none⟩) gWw).trans C5.out
      have ht0 : wr.cell? ⟨gt, 0, none⟩ = some (.int .i64 p) := (blk_cell BT.out 0).trans rfl
      have ht1 : wr.cell? ⟨gt, 1, none⟩ = some (.int .i64 q) := (blk_cell BT.out 1).trans rfl
      have ht2 : wr.cell? ⟨gt, 2, none⟩ = some (.int .i64 r) := (blk_cell BT.out 2).trans rfl
      by_cases fa : fits f a = true
      · have A6 := Aside0.mk ((A5.out a).trans (by rw [fa]))
        go_wp2_with (first | ((with_reducible refine gate_callee (f := 32) rfl ?_); refine goesL_ (some 36) rfl rfl Tryd.func32 (by kernel_rfl) rfl #[.agg #[.int .i64 p, .int .i64 q, .int .i64 r], .int .u64 a] rfl (by (try simp only [List.map_toArray, List.map_cons, List.map_nil]); first | done | rfl) ?_; (with_reducible refine (impl_format_fits.calls p q r a true _ A6.out).mono ?_); rintro e w5 ⟨rfl, hb⟩; refine ⟨_, rfl, ?_⟩; have n0_ := Aside0.mk (below_step zb hb); have n1_ := Aside0.mk (blk_below BK.out hb); have n2_ := Aside0.mk (blk_below BT.out hb); have n3_ := Aside0.mk (own_below HO.out hb); have n4_ := Aside0.mk (Nat.le_trans HZ.out (below_size hb)); clear HB BK BT HO HZ; have HB := n0_; have BK := n1_; have BT := n2_; have HO := n3_; have HZ := n4_; clear n0_ n1_ n2_ n3_ n4_ hb) | ((with_reducible refine gate_callee (f := 10) rfl ?_); refine goesL_ (some 42) rfl rfl Tryd.func10 (by kernel_rfl) rfl #[.int .i64 f, .int .u64 a] rfl (by (try simp only [List.map_toArray, List.map_cons, List.map_nil]); first | done | rfl) ?_; (with_reducible refine (impl_Unpack.calls 300 f a (kind f a) (sgn f a) (expo f a) (sig f a) _ ?side1 (impl_Unpack_eq' f a wa (by decide))).mono ?_); (case side1 => exact Gformats.below hG HB.out); rintro e wU ⟨rfl, hb⟩; refine ⟨_, rfl, ?_⟩; have n0_ := Aside0.mk (below_step zb hb); have n1_ := Aside0.mk (blk_below BK.out hb); have n2_ := Aside0.mk (blk_below BT.out hb); have n3_ := Aside0.mk (own_below HO.out hb); have n4_ := Aside0.mk (Nat.le_trans HZ.out (below_size hb)); clear HB BK BT HO HZ; have HB := n0_; have BK := n1_; have BT := n2_; have HO := n3_; have HZ := n4_; clear n0_ n1_ n2_ n3_ n4_ hb))
        have BP : Aside0 ((wU.alloc (.cells #[.int .i64 (kind f a), .int .i64 (sgn f a), .int .i64 (expo f a), .int .u64 (sig f a)] 24)).heap[wU.heap.size]? = some (.cells #[.int .i64 (kind f a), .int .i64 (sgn f a), .int .i64 (expo f a), .int .u64 (sig f a)] 24 (0, 0))) := ⟨heap_new _ _ _⟩
        have BPG : Aside0 (B0 ≤ wU.heap.size) := HZ
        have HBa : Aside0 (Below w.heap.size w (wU.alloc (.cells #[.int .i64 (kind f a), .int .i64 (sgn f a), .int .i64 (expo f a), .int .u64 (sig f a)] 24))) := ⟨zb⟩
        have BKa := Aside0.mk (blk_alloc BK.out (.cells #[.int .i64 (kind f a), .int .i64 (sgn f a), .int .i64 (expo f a), .int .u64 (sig f a)] 24))
        have BTa := Aside0.mk (blk_alloc BT.out (.cells #[.int .i64 (kind f a), .int .i64 (sgn f a), .int .i64 (expo f a), .int .u64 (sig f a)] 24))
        have HOa := Aside0.mk (HO.out.alloc (.cells #[.int .i64 (kind f a), .int .i64 (sgn f a), .int .i64 (expo f a), .int .u64 (sig f a)] 24))
        have HZa : Aside0 (B0 ≤ (wU.alloc (.cells #[.int .i64 (kind f a), .int .i64 (sgn f a), .int .i64 (expo f a), .int .u64 (sig f a)] 24)).heap.size) := ⟨Nat.le_trans HZ.out (alloc_le _ _)⟩
        clear HB BK BT HO HZ
        generalize wU.heap.size = gp at BP BPG ⊢
        generalize wU.alloc (.cells #[.int .i64 (kind f a), .int .i64 (sgn f a), .int .i64 (expo f a), .int .u64 (sig f a)] 24) = wA at BP HBa BKa BTa HOa HZa ⊢
        have HB := HBa
        have BK := BKa
        have BT := BTa
        have HO := HOa
        have HZ := HZa
        clear HBa BKa BTa HOa HZa
        (with_reducible refine (impl_isNaN.calls (kind f a) (sgn f a) (expo f a) (sig f a) (decide (kind f a ≥ 3)) _ (isNaN_eq f a _ _ _)).mono ?_); rintro e wN ⟨rfl, hb⟩
        have n0_ := Aside0.mk (below_step zb hb); have n1_ := Aside0.mk (blk_below BK.out hb); have n2_ := Aside0.mk (blk_below BT.out hb); have n3_ := Aside0.mk (own_below HO.out hb); have n4_ := Aside0.mk (Nat.le_trans HZ.out (below_size hb)); have n5_ := Aside0.mk (blk_below BP.out hb); clear HB BK BT HO HZ BP; have HB := n0_; have BK := n1_; have BT := n2_; have HO := n3_; have HZ := n4_; have BP := n5_; clear n0_ n1_ n2_ n3_ n4_ n5_ hb
        have hp0 := (blk_cell (w := wN) BP.out 0).trans rfl
        have hp1 := (blk_cell (w := wN) BP.out 1).trans rfl
        have hp2 := (blk_cell (w := wN) BP.out 2).trans rfl
        have hp3 := (blk_cell (w := wN) BP.out 3).trans rfl
        obtain ⟨i0, hi_, hz0_, hz1_, hz2_⟩ := info_parts info24
        go_wp2_with (first | (at_builtin; refine wpList_append_own _ rfl _ _ 65 rfl B0 24 i0 (.agg #[.int .i64 0, .int .i64 0, .int .i64 0, .int .u64 0]) 4 32 Tryd.underlying65 hi_ hz0_ hz1_ hz2_ rfl (by decide) _ _ _ rfl (HO.out.alloc (.cells #[.int .i64 (kind f a), .int .i64 (sgn f a), .int .i64 (expo f a), .int .u64 (sig f a)] 24)) ⟨wN.heap.size, 0, none⟩ 1 1 [.int .i64 (kind f a), .int .i64 (sgn f a), .int .i64 (expo f a), .int .u64 (sig f a)] rfl rfl (cell_four_new _ _ _ _ _ _) (fun x hx => by simp at hx; rcases hx with rfl | rfl | rfl | rfl <;> rfl) (by decide) (by decide) (Nat.le_trans HZ.out (alloc_le _ _)) ?_; intro v' w3 hown' hgrow3 hnil3; have X := append_keep HB.out HO.out HZ.out BK.out BT.out gB gC gW (.cells #[.int .i64 (kind f a), .int .i64 (sgn f a), .int .i64 (expo f a), .int .u64 (sig f a)] 24) hown' hgrow3; clear hown' hgrow3 hnil3 HO))
        exact ⟨⟨1, by decide, rfl, rfl, rfl, ⟨fa⟩, X.1, X.2.1, X.2.2.1, X.2.2.2.1, X.2.2.2.2⟩, by decide⟩
      · have A6 := Aside0.mk ((A5.out a).trans (by rw [Bool.eq_false_iff.mpr fa]))
        have hv : chosenV f a b last = (bNan f, 1) := by unfold chosenV; rw [if_neg (fun h => fa h.1)]
        go_wp2_with (first | ((with_reducible refine gate_callee (f := 32) rfl ?_); refine goesL_ (some 36) rfl rfl Tryd.func32 (by kernel_rfl) rfl #[.agg #[.int .i64 p, .int .i64 q, .int .i64 r], .int .u64 a] rfl (by (try simp only [List.map_toArray, List.map_cons, List.map_nil]); first | done | rfl) ?_; (with_reducible refine (impl_format_fits.calls p q r a false _ A6.out).mono ?_); rintro e w5 ⟨rfl, hb⟩; refine ⟨_, rfl, ?_⟩; have n0_ := Aside0.mk (below_step zb hb); have n1_ := Aside0.mk (blk_below BK.out hb); have n2_ := Aside0.mk (blk_below BT.out hb); have n3_ := Aside0.mk (own_below HO.out hb); have n4_ := Aside0.mk (Nat.le_trans HZ.out (below_size hb)); clear HB BK BT HO HZ; have HB := n0_; have BK := n1_; have BT := n2_; have HO := n3_; have HZ := n4_; clear n0_ n1_ n2_ n3_ n4_ hb) | ((with_reducible refine gate_callee (f := 60) rfl ?_); refine goesL_ (some 39) rfl rfl Tryd.func60 (by kernel_rfl) rfl #[.int .i64 f] rfl (by (try simp only [List.map_toArray, List.map_cons, List.map_nil]); first | done | rfl) ?_; (with_reducible refine (impl_invalid.calls f (bNan f) 1 _ ?side1 (invalid_eq f)).mono ?_); (case side1 => exact Gformats.below hG HB.out); rintro e w5 ⟨rfl, hb⟩; refine ⟨_, rfl, ?_⟩; have n0_ := Aside0.mk (below_step zb hb); have n1_ := Aside0.mk (blk_below BK.out hb); have n2_ := Aside0.mk (blk_below BT.out hb); have n3_ := Aside0.mk (own_below HO.out hb); have n4_ := Aside0.mk (Nat.le_trans HZ.out (below_size hb)); clear HB BK BT HO HZ; have HB := n0_; have BK := n1_; have BT := n2_; have HO := n3_; have HZ := n4_; clear n0_ n1_ n2_ n3_ n4_ hb; have hz0 : w5.cell? ⟨gr, 0, none⟩ = some (.int .u64 0) := (blk_cell BK.out 0).trans rfl; have hz1 : w5.cell? ⟨gr, 1, none⟩ = some (.int .i64 0) := (blk_cell BK.out 1).trans rfl; have hf0 := blk_frozen BK.out 0; have hf1 := blk_frozen BK.out 1))
        rw [hv]
        (refine bodyPost_ret (results_cell_row rfl _ _ gr 33 #[.int .u64 (bNan f), .int .i64 1] (0, 0) _ rfl (by refine blk_put (cs := #[.int .u64 (bNan f), .int .i64 0]) ?_ 1 _ rfl; refine blk_put (cs := #[.int .u64 0, .int .i64 0]) ?_ 0 _ rfl; (with_reducible repeat (first | refine blk_drewN ?_ _ | refine blk_drew ?_)); exact BK.out) Tryd.underlying33 rfl (by kernel_rfl)) rfl ⟨rfl, zb⟩)
    · -- the second word
      have hx : wr.cell? ⟨gw, 1, none⟩ = some (.int .u64 b) := (HB.out.cell (p := ⟨gw, 1, none⟩) gWw).trans C6.out
      have ht0 : wr.cell? ⟨gt, 0, none⟩ = some (.int .i64 p) := (blk_cell BT.out 0).trans rfl
      have ht1 : wr.cell? ⟨gt, 1, none⟩ = some (.int .i64 q) := (blk_cell BT.out 1).trans rfl
      have ht2 : wr.cell? ⟨gt, 2, none⟩ = some (.int .i64 r) := (blk_cell BT.out 2).trans rfl
      have fa : fits f a = true := HF.out
      by_cases fb : fits f b = true
      · have A6 := Aside0.mk ((A5.out b).trans (by rw [fb]))
        obtain ⟨i0, hi_, hz0_, hz1_, hz2_⟩ := info_parts info24
        obtain ⟨N, hN⟩ : ∃ N, nanK f a b 1 = N := ⟨_, rfl⟩
        obtain ⟨S, hS⟩ : ∃ S, sigK f a b 1 = S := ⟨_, rfl⟩
        rw [hN, hS]
        have N2 : Aside0 (nanK f a b 2 = (N || decide (kind f b ≥ 3))) := ⟨by rw [← hN]; rfl⟩
        have S2 : Aside0 (sigK f a b 2 = (S || kind f b == 4)) := ⟨by rw [← hS]; rfl⟩
        clear hN hS
        cases N
        · cases S
          all_goals (
            go_wp2_with (first | ((with_reducible refine gate_callee (f := 32) rfl ?_); refine goesL_ (some 36) rfl rfl Tryd.func32 (by kernel_rfl) rfl #[.agg #[.int .i64 p, .int .i64 q, .int .i64 r], .int .u64 b] rfl (by (try simp only [List.map_toArray, List.map_cons, List.map_nil]); first | done | rfl) ?_; (with_reducible refine (impl_format_fits.calls p q r b true _ A6.out).mono ?_); rintro e w5 ⟨rfl, hb⟩; refine ⟨_, rfl, ?_⟩; have n0_ := Aside0.mk (below_step zb hb); have n1_ := Aside0.mk (blk_below BK.out hb); have n2_ := Aside0.mk (blk_below BT.out hb); have n3_ := Aside0.mk (own_below HO.out hb); have n4_ := Aside0.mk (Nat.le_trans HZ.out (below_size hb)); clear HB BK BT HO HZ; have HB := n0_; have BK := n1_; have BT := n2_; have HO := n3_; have HZ := n4_; clear n0_ n1_ n2_ n3_ n4_ hb) | ((with_reducible refine gate_callee (f := 10) rfl ?_); refine goesL_ (some 42) rfl rfl Tryd.func10 (by kernel_rfl) rfl #[.int .i64 f, .int .u64 b] rfl (by (try simp only [List.map_toArray, List.map_cons, List.map_nil]); first | done | rfl) ?_; (with_reducible refine (impl_Unpack.calls 300 f b (kind f b) (sgn f b) (expo f b) (sig f b) _ ?side1 (impl_Unpack_eq' f b wb (by decide))).mono ?_); (case side1 => exact Gformats.below hG HB.out); rintro e wU ⟨rfl, hb⟩; refine ⟨_, rfl, ?_⟩; have n0_ := Aside0.mk (below_step zb hb); have n1_ := Aside0.mk (blk_below BK.out hb); have n2_ := Aside0.mk (blk_below BT.out hb); have n3_ := Aside0.mk (own_below HO.out hb); have n4_ := Aside0.mk (Nat.le_trans HZ.out (below_size hb)); clear HB BK BT HO HZ; have HB := n0_; have BK := n1_; have BT := n2_; have HO := n3_; have HZ := n4_; clear n0_ n1_ n2_ n3_ n4_ hb))
            have BP : Aside0 ((wU.alloc (.cells #[.int .i64 (kind f b), .int .i64 (sgn f b), .int .i64 (expo f b), .int .u64 (sig f b)] 24)).heap[wU.heap.size]? = some (.cells #[.int .i64 (kind f b), .int .i64 (sgn f b), .int .i64 (expo f b), .int .u64 (sig f b)] 24 (0, 0))) := ⟨heap_new _ _ _⟩
            have BPG : Aside0 (B0 ≤ wU.heap.size) := HZ
            have HBa : Aside0 (Below w.heap.size w (wU.alloc (.cells #[.int .i64 (kind f b), .int .i64 (sgn f b), .int .i64 (expo f b), .int .u64 (sig f b)] 24))) := ⟨zb⟩
            have BKa := Aside0.mk (blk_alloc BK.out (.cells #[.int .i64 (kind f b), .int .i64 (sgn f b), .int .i64 (expo f b), .int .u64 (sig f b)] 24))
            have BTa := Aside0.mk (blk_alloc BT.out (.cells #[.int .i64 (kind f b), .int .i64 (sgn f b), .int .i64 (expo f b), .int .u64 (sig f b)] 24))
            have HOa := Aside0.mk (HO.out.alloc (.cells #[.int .i64 (kind f b), .int .i64 (sgn f b), .int .i64 (expo f b), .int .u64 (sig f b)] 24))
            have HZa : Aside0 (B0 ≤ (wU.alloc (.cells #[.int .i64 (kind f b), .int .i64 (sgn f b), .int .i64 (expo f b), .int .u64 (sig f b)] 24)).heap.size) := ⟨Nat.le_trans HZ.out (alloc_le _ _)⟩
            clear HB BK BT HO HZ
            generalize wU.heap.size = gp at BP BPG ⊢
            generalize wU.alloc (.cells #[.int .i64 (kind f b), .int .i64 (sgn f b), .int .i64 (expo f b), .int .u64 (sig f b)] 24) = wA at BP HBa BKa BTa HOa HZa ⊢
            have HB := HBa
            have BK := BKa
            have BT := BTa
            have HO := HOa
            have HZ := HZa
            clear HBa BKa BTa HOa HZa
            (with_reducible refine (impl_isNaN.calls (kind f b) (sgn f b) (expo f b) (sig f b) (decide (kind f b ≥ 3)) _ (isNaN_eq f b _ _ _)).mono ?_); rintro e wN ⟨rfl, hb⟩
            have n0_ := Aside0.mk (below_step zb hb); have n1_ := Aside0.mk (blk_below BK.out hb); have n2_ := Aside0.mk (blk_below BT.out hb); have n3_ := Aside0.mk (own_below HO.out hb); have n4_ := Aside0.mk (Nat.le_trans HZ.out (below_size hb)); have n5_ := Aside0.mk (blk_below BP.out hb); clear HB BK BT HO HZ BP; have HB := n0_; have BK := n1_; have BT := n2_; have HO := n3_; have HZ := n4_; have BP := n5_; clear n0_ n1_ n2_ n3_ n4_ n5_ hb
            have hp0 := (blk_cell (w := wN) BP.out 0).trans rfl
            have hp1 := (blk_cell (w := wN) BP.out 1).trans rfl
            have hp2 := (blk_cell (w := wN) BP.out 2).trans rfl
            have hp3 := (blk_cell (w := wN) BP.out 3).trans rfl
            go_wp2_with (first | (at_builtin; refine wpList_append_own _ rfl _ _ 65 rfl B0 24 i0 (.agg #[.int .i64 0, .int .i64 0, .int .i64 0, .int .u64 0]) 4 32 Tryd.underlying65 hi_ hz0_ hz1_ hz2_ rfl (by decide) _ _ _ rfl (HO.out.alloc (.cells #[.int .i64 (kind f b), .int .i64 (sgn f b), .int .i64 (expo f b), .int .u64 (sig f b)] 24)) ⟨wN.heap.size, 0, none⟩ 1 1 [.int .i64 (kind f b), .int .i64 (sgn f b), .int .i64 (expo f b), .int .u64 (sig f b)] rfl rfl (cell_four_new _ _ _ _ _ _) (fun x hx => by simp at hx; rcases hx with rfl | rfl | rfl | rfl <;> rfl) (by decide) (by decide) (Nat.le_trans HZ.out (alloc_le _ _)) ?_; intro v' w3 hown' hgrow3 hnil3; have X := append_keep HB.out HO.out HZ.out BK.out BT.out gB gC gW (.cells #[.int .i64 (kind f b), .int .i64 (sgn f b), .int .i64 (expo f b), .int .u64 (sig f b)] 24) hown' hgrow3; clear hown' hgrow3 hnil3 HO))
            exact ⟨⟨2, by decide, rfl, by rw [N2.out]; simp, by rw [S2.out]; simp, ⟨fa, fb⟩, X.1, X.2.1, X.2.2.1, X.2.2.2.1, X.2.2.2.2⟩, by decide⟩)
        · cases S
          all_goals (
            go_wp2_with (first | ((with_reducible refine gate_callee (f := 32) rfl ?_); refine goesL_ (some 36) rfl rfl Tryd.func32 (by kernel_rfl) rfl #[.agg #[.int .i64 p, .int .i64 q, .int .i64 r], .int .u64 b] rfl (by (try simp only [List.map_toArray, List.map_cons, List.map_nil]); first | done | rfl) ?_; (with_reducible refine (impl_format_fits.calls p q r b true _ A6.out).mono ?_); rintro e w5 ⟨rfl, hb⟩; refine ⟨_, rfl, ?_⟩; have n0_ := Aside0.mk (below_step zb hb); have n1_ := Aside0.mk (blk_below BK.out hb); have n2_ := Aside0.mk (blk_below BT.out hb); have n3_ := Aside0.mk (own_below HO.out hb); have n4_ := Aside0.mk (Nat.le_trans HZ.out (below_size hb)); clear HB BK BT HO HZ; have HB := n0_; have BK := n1_; have BT := n2_; have HO := n3_; have HZ := n4_; clear n0_ n1_ n2_ n3_ n4_ hb) | ((with_reducible refine gate_callee (f := 10) rfl ?_); refine goesL_ (some 42) rfl rfl Tryd.func10 (by kernel_rfl) rfl #[.int .i64 f, .int .u64 b] rfl (by (try simp only [List.map_toArray, List.map_cons, List.map_nil]); first | done | rfl) ?_; (with_reducible refine (impl_Unpack.calls 300 f b (kind f b) (sgn f b) (expo f b) (sig f b) _ ?side1 (impl_Unpack_eq' f b wb (by decide))).mono ?_); (case side1 => exact Gformats.below hG HB.out); rintro e wU ⟨rfl, hb⟩; refine ⟨_, rfl, ?_⟩; have n0_ := Aside0.mk (below_step zb hb); have n1_ := Aside0.mk (blk_below BK.out hb); have n2_ := Aside0.mk (blk_below BT.out hb); have n3_ := Aside0.mk (own_below HO.out hb); have n4_ := Aside0.mk (Nat.le_trans HZ.out (below_size hb)); clear HB BK BT HO HZ; have HB := n0_; have BK := n1_; have BT := n2_; have HO := n3_; have HZ := n4_; clear n0_ n1_ n2_ n3_ n4_ hb) | (at_builtin; refine wpList_append_own _ rfl _ _ 65 rfl B0 24 i0 (.agg #[.int .i64 0, .int .i64 0, .int .i64 0, .int .u64 0]) 4 32 Tryd.underlying65 hi_ hz0_ hz1_ hz2_ rfl (by decide) _ _ _ rfl ((HO.out.alloc (.cells #[.int .i64 (kind f b), .int .i64 (sgn f b), .int .i64 (expo f b), .int .u64 (sig f b)] 24)).alloc (.cells #[.int .i64 (kind f b), .int .i64 (sgn f b), .int .i64 (expo f b), .int .u64 (sig f b)] 24)) ⟨wU.heap.size + 1, 0, none⟩ 1 1 [.int .i64 (kind f b), .int .i64 (sgn f b), .int .i64 (expo f b), .int .u64 (sig f b)] rfl rfl (cell_four_new2 _ _ _ _ _ _ _) (fun x hx => by simp at hx; rcases hx with rfl | rfl | rfl | rfl <;> rfl) (by decide) (by decide) (Nat.le_trans HZ.out (Nat.le_trans (alloc_le _ _) (alloc_le _ _))) ?_; intro v' w3 hown' hgrow3 hnil3; have X := append_keep (wr := wU.alloc (.cells #[.int .i64 (kind f b), .int .i64 (sgn f b), .int .i64 (expo f b), .int .u64 (sig f b)] 24)) zb (HO.out.alloc (.cells #[.int .i64 (kind f b), .int .i64 (sgn f b), .int .i64 (expo f b), .int .u64 (sig f b)] 24)) (Nat.le_trans HZ.out (alloc_le _ _)) (blk_alloc BK.out _) (blk_alloc BT.out _) gB gC gW (.cells #[.int .i64 (kind f b), .int .i64 (sgn f b), .int .i64 (expo f b), .int .u64 (sig f b)] 24) hown' hgrow3; clear hown' hgrow3 hnil3 HO))
            exact ⟨⟨2, by decide, rfl, by rw [N2.out]; simp, by rw [S2.out]; simp, ⟨fa, fb⟩, X.1, X.2.1, X.2.2.1, X.2.2.2.1, X.2.2.2.2⟩, by decide⟩)
      · have A6 := Aside0.mk ((A5.out b).trans (by rw [Bool.eq_false_iff.mpr fb]))
        have hv : chosenV f a b last = (bNan f, 1) := by unfold chosenV; rw [if_neg (fun h => fb h.2)]
        generalize nanK f a b 1 = N
        generalize sigK f a b 1 = S
        go_wp2_with (first | ((with_reducible refine gate_callee (f := 32) rfl ?_); refine goesL_ (some 36) rfl rfl Tryd.func32 (by kernel_rfl) rfl #[.agg #[.int .i64 p, .int .i64 q, .int .i64 r], .int .u64 b] rfl (by (try simp only [List.map_toArray, List.map_cons, List.map_nil]); first | done | rfl) ?_; (with_reducible refine (impl_format_fits.calls p q r b false _ A6.out).mono ?_); rintro e w5 ⟨rfl, hb⟩; refine ⟨_, rfl, ?_⟩; have n0_ := Aside0.mk (below_step zb hb); have n1_ := Aside0.mk (blk_below BK.out hb); have n2_ := Aside0.mk (blk_below BT.out hb); have n3_ := Aside0.mk (own_below HO.out hb); have n4_ := Aside0.mk (Nat.le_trans HZ.out (below_size hb)); clear HB BK BT HO HZ; have HB := n0_; have BK := n1_; have BT := n2_; have HO := n3_; have HZ := n4_; clear n0_ n1_ n2_ n3_ n4_ hb) | ((with_reducible refine gate_callee (f := 60) rfl ?_); refine goesL_ (some 39) rfl rfl Tryd.func60 (by kernel_rfl) rfl #[.int .i64 f] rfl (by (try simp only [List.map_toArray, List.map_cons, List.map_nil]); first | done | rfl) ?_; (with_reducible refine (impl_invalid.calls f (bNan f) 1 _ ?side1 (invalid_eq f)).mono ?_); (case side1 => exact Gformats.below hG HB.out); rintro e w5 ⟨rfl, hb⟩; refine ⟨_, rfl, ?_⟩; have n0_ := Aside0.mk (below_step zb hb); have n1_ := Aside0.mk (blk_below BK.out hb); have n2_ := Aside0.mk (blk_below BT.out hb); have n3_ := Aside0.mk (own_below HO.out hb); have n4_ := Aside0.mk (Nat.le_trans HZ.out (below_size hb)); clear HB BK BT HO HZ; have HB := n0_; have BK := n1_; have BT := n2_; have HO := n3_; have HZ := n4_; clear n0_ n1_ n2_ n3_ n4_ hb; have hz0 : w5.cell? ⟨gr, 0, none⟩ = some (.int .u64 0) := (blk_cell BK.out 0).trans rfl; have hz1 : w5.cell? ⟨gr, 1, none⟩ = some (.int .i64 0) := (blk_cell BK.out 1).trans rfl; have hf0 := blk_frozen BK.out 0; have hf1 := blk_frozen BK.out 1))
        rw [hv]
        (refine bodyPost_ret (results_cell_row rfl _ _ gr 33 #[.int .u64 (bNan f), .int .i64 1] (0, 0) _ rfl (by refine blk_put (cs := #[.int .u64 (bNan f), .int .i64 0]) ?_ 1 _ rfl; refine blk_put (cs := #[.int .u64 0, .int .i64 0]) ?_ 0 _ rfl; (with_reducible repeat (first | refine blk_drewN ?_ _ | refine blk_drew ?_)); exact BK.out) Tryd.underlying33 rfl (by kernel_rfl)) rfl ⟨rfl, zb⟩)
    · -- behind both
      have fa : fits f a = true := HF.out.1
      have fb : fits f b = true := HF.out.2
      have hN : nanK f a b 2 = (decide (kind f a ≥ 3) || decide (kind f b ≥ 3)) := rfl
      have hS : sigK f a b 2 = ((kind f a == 4) || (kind f b == 4)) := rfl
      have ht0 : wr.cell? ⟨gt, 0, none⟩ = some (.int .i64 p) := (blk_cell BT.out 0).trans rfl
      have ht1 : wr.cell? ⟨gt, 1, none⟩ = some (.int .i64 q) := (blk_cell BT.out 1).trans rfl
      have ht2 : wr.cell? ⟨gt, 2, none⟩ = some (.int .i64 r) := (blk_cell BT.out 2).trans rfl
      by_cases s4 : kind f a = 4 ∨ kind f b = 4
      · have e : sigK f a b 2 = true := by rw [hS]; rcases s4 with h | h <;> simp [h]
        have hv : chosenV f a b last = (bNan f, 1) := by unfold chosenV; rw [if_pos ⟨fa, fb⟩, if_pos s4]
        rw [e]
        clear e hN hS s4 fa fb
        generalize nanK f a b 2 = N
        go_wp2_with (first | ((with_reducible refine gate_callee (f := 60) rfl ?_); refine goesL_ (some 62) rfl rfl Tryd.func60 (by kernel_rfl) rfl #[.int .i64 f] rfl (by (try simp only [List.map_toArray, List.map_cons, List.map_nil]); first | done | rfl) ?_; (with_reducible refine (impl_invalid.calls f (bNan f) 1 _ ?side1 (invalid_eq f)).mono ?_); (case side1 => exact Gformats.below hG HB.out); rintro e w5 ⟨rfl, hb⟩; refine ⟨_, rfl, ?_⟩; have n0_ := Aside0.mk (below_step zb hb); have n1_ := Aside0.mk (blk_below BK.out hb); have n2_ := Aside0.mk (blk_below BT.out hb); have n3_ := Aside0.mk (own_below HO.out hb); have n4_ := Aside0.mk (Nat.le_trans HZ.out (below_size hb)); clear HB BK BT HO HZ; have HB := n0_; have BK := n1_; have BT := n2_; have HO := n3_; have HZ := n4_; clear n0_ n1_ n2_ n3_ n4_ hb; have hz0 : w5.cell? ⟨gr, 0, none⟩ = some (.int .u64 0) := (blk_cell BK.out 0).trans rfl; have hz1 : w5.cell? ⟨gr, 1, none⟩ = some (.int .i64 0) := (blk_cell BK.out 1).trans rfl; have hf0 := blk_frozen BK.out 0; have hf1 := blk_frozen BK.out 1))
        rw [hv]
        (refine bodyPost_ret (results_cell_row rfl _ _ gr 33 #[.int .u64 (bNan f), .int .i64 1] (0, 0) _ rfl (by refine blk_put (cs := #[.int .u64 (bNan f), .int .i64 0]) ?_ 1 _ rfl; refine blk_put (cs := #[.int .u64 0, .int .i64 0]) ?_ 0 _ rfl; (with_reducible repeat (first | refine blk_drewN ?_ _ | refine blk_drew ?_)); exact BK.out) Tryd.underlying33 rfl (by kernel_rfl)) rfl ⟨rfl, zb⟩)
      · have e : sigK f a b 2 = false := by rw [hS]; simp only [not_or] at s4; simp [s4.1, s4.2]
        by_cases n3 : kind f a ≥ 3 ∨ kind f b ≥ 3
        · have e2 : nanK f a b 2 = true := by rw [hN]; rcases n3 with h | h <;> simp [h]
          have hv : chosenV f a b last = (bNan f, 0) := by unfold chosenV; rw [if_pos ⟨fa, fb⟩, if_neg s4, if_pos n3]
          rw [e, e2]
          clear e e2 hN hS s4 n3 fa fb
          go_wp2_with (first | ((with_reducible refine gate_callee (f := 37) rfl ?_); refine goesL_ (some 66) rfl rfl Tryd.func37 (by kernel_rfl) rfl #[.agg #[.int .i64 p, .int .i64 q, .int .i64 r]] rfl (by (try simp only [List.map_toArray, List.map_cons, List.map_nil]); first | done | rfl) ?_; (with_reducible refine (impl_format_nan.calls p q r (bNan f) _ A4.out).mono ?_); rintro e w5 ⟨rfl, hb⟩; refine ⟨_, rfl, ?_⟩; have n0_ := Aside0.mk (below_step zb hb); have n1_ := Aside0.mk (blk_below BK.out hb); have n2_ := Aside0.mk (blk_below BT.out hb); have n3_ := Aside0.mk (own_below HO.out hb); have n4_ := Aside0.mk (Nat.le_trans HZ.out (below_size hb)); clear HB BK BT HO HZ; have HB := n0_; have BK := n1_; have BT := n2_; have HO := n3_; have HZ := n4_; clear n0_ n1_ n2_ n3_ n4_ hb; have hz0 : w5.cell? ⟨gr, 0, none⟩ = some (.int .u64 0) := (blk_cell BK.out 0).trans rfl; have hz1 : w5.cell? ⟨gr, 1, none⟩ = some (.int .i64 0) := (blk_cell BK.out 1).trans rfl; have hf0 := blk_frozen BK.out 0; have hf1 := blk_frozen BK.out 1))
          rw [hv]
          (refine bodyPost_ret (results_cell_row rfl _ _ gr 33 #[.int .u64 (bNan f), .int .i64 0] (0, 0) _ rfl (by refine blk_put (cs := #[.int .u64 (bNan f), .int .i64 0]) ?_ 1 _ rfl; refine blk_put (cs := #[.int .u64 0, .int .i64 0]) ?_ 0 _ rfl; (with_reducible repeat (first | refine blk_drewN ?_ _ | refine blk_drew ?_)); exact BK.out) Tryd.underlying33 rfl (by kernel_rfl)) rfl ⟨rfl, zb⟩)
        · have e2 : nanK f a b 2 = false := by rw [hN]; simp only [not_or] at n3; simp [n3.1, n3.2]
          have hv : chosenV f a b last = (if decide (0 < pickOrder (order f a b) (sgn f a) (sgn f b)) == last then a else b, 0) := by unfold chosenV; rw [if_pos ⟨fa, fb⟩, if_neg s4, if_neg n3]
          have hcmp : impl_Compare.f 300 f a b false = some (order f a b, 0) := by rw [impl_Compare_eq f a b false wa wb (by decide)]; unfold comp; rw [if_pos ⟨fa, fb⟩, if_neg n3]
          have AC := Aside0.mk hcmp
          rw [e, e2]
          clear e e2 hN hS s4 n3 fa fb hcmp
          rcases HO.out.2 with ⟨_, h0⟩ | ⟨g, cap, cur, rfl, hgB, hgc, _⟩
          · exact absurd h0 (by decide)
          have hs0 : wr.cell? ⟨g, 1, none⟩ = some (.int .i64 (sgn f a)) := HO.out.cells (g := g) rfl 1 _ rfl
          have hs1 : wr.cell? ⟨g, 5, none⟩ = some (.int .i64 (sgn f b)) := HO.out.cells (g := g) rfl 5 _ rfl
          have b1 : gf < w.heap.size := World.block_lt_of_cell? w ⟨gf, 0, none⟩ C1.out
          have b2 : ga < w.heap.size := World.block_lt_of_cell? w ⟨ga, 0, none⟩ C2.out
          have b3 : gb < w.heap.size := World.block_lt_of_cell? w ⟨gb, 0, none⟩ C3.out
          have b4 : gl < w.heap.size := World.block_lt_of_cell? w ⟨gl, 0, none⟩ C4.out
          have S0 := Aside0.mk hs0
          have S1 := Aside0.mk hs1
          clear hs0 hs1 hgc
          go_wp2_with (fail)
          (with_reducible refine (rule.calls 300 f a b last (order f a b) 0 (sgn f a) (sgn f b) _ (Gformats.below hG HB.out) gf ga gb gl g cap ((HB.out.cell (p := ⟨gf, 0, none⟩) b1).trans C1.out) ((HB.out.cell (p := ⟨ga, 0, none⟩) b2).trans C2.out) ((HB.out.cell (p := ⟨gb, 0, none⟩) b3).trans C3.out) ((HB.out.cell (p := ⟨gl, 0, none⟩) b4).trans C4.out) S0.out S1.out AC.out).mono ?_); rintro e w5 ⟨rfl, hb⟩; have n0_ := Aside0.mk (below_step zb hb); have n1_ := Aside0.mk (blk_below BK.out hb); clear HB BK; have HB := n0_; have BK := n1_; clear n0_ n1_ hb; have hz0 : w5.cell? ⟨gr, 0, none⟩ = some (.int .u64 0) := (blk_cell BK.out 0).trans rfl; have hz1 : w5.cell? ⟨gr, 1, none⟩ = some (.int .i64 0) := (blk_cell BK.out 1).trans rfl; have hf0 := blk_frozen BK.out 0; have hf1 := blk_frozen BK.out 1
          go_wp2
          all_goals first | (refine bodyPost_ret (results_cell_row rfl _ _ gr 33 #[.int .u64 (a), .int .i64 0] (0, 0) _ rfl (by refine blk_put (cs := #[.int .u64 (a), .int .i64 0]) ?_ 1 _ rfl; refine blk_put (cs := #[.int .u64 0, .int .i64 0]) ?_ 0 _ rfl; (with_reducible repeat (first | refine blk_drewN ?_ _ | refine blk_drew ?_)); exact BK.out) Tryd.underlying33 rfl (by kernel_rfl)) rfl ⟨rfl, zb⟩) | (refine bodyPost_ret (results_cell_row rfl _ _ gr 33 #[.int .u64 (b), .int .i64 0] (0, 0) _ rfl (by refine blk_put (cs := #[.int .u64 (b), .int .i64 0]) ?_ 1 _ rfl; refine blk_put (cs := #[.int .u64 0, .int .i64 0]) ?_ 0 _ rfl; (with_reducible repeat (first | refine blk_drewN ?_ _ | refine blk_drew ?_)); exact BK.out) Tryd.underlying33 rfl (by kernel_rfl)) rfl ⟨rfl, zb⟩) | (rw [hv]; (refine bodyPost_ret (results_cell_row rfl _ _ gr 33 #[.int .u64 (if decide (0 < pickOrder (order f a b) (sgn f a) (sgn f b)) == last then a else b), .int .i64 0] (0, 0) _ rfl (by refine blk_put (cs := #[.int .u64 (if decide (0 < pickOrder (order f a b) (sgn f a) (sgn f b)) == last then a else b), .int .i64 0]) ?_ 1 _ rfl; refine blk_put (cs := #[.int .u64 0, .int .i64 0]) ?_ 0 _ rfl; (with_reducible repeat (first | refine blk_drewN ?_ _ | refine blk_drew ?_)); exact BK.out) Tryd.underlying33 rfl (by kernel_rfl)) rfl ⟨rfl, zb⟩))

theorem special.calls (f a b : Int) (last : Bool) (w : World) (hG : Gformats w) (wa : Word a) (wb : Word b) (gf ga gb gl gw : Nat)
    (hcf : w.cell? ⟨gf, 0, none⟩ = some (.int .i64 f)) (hca : w.cell? ⟨ga, 0, none⟩ = some (.int .u64 a)) (hcb : w.cell? ⟨gb, 0, none⟩ = some (.int .u64 b)) (hcl : w.cell? ⟨gl, 0, none⟩ = some (.bool last))
    (hw0 : w.cell? ⟨gw, 0, none⟩ = some (.int .u64 a)) (hw1 : w.cell? ⟨gw, 1, none⟩ = some (.int .u64 b)) :
    Calls Tryd.prog 52 #[.int .i64 f, .int .i64 0, .func (.func 53) #[] #[.pointer (some ⟨gf, 0, none⟩), .pointer (some ⟨ga, 0, none⟩), .pointer (some ⟨gb, 0, none⟩), .pointer (some ⟨gl, 0, none⟩)], .slice (some ⟨gw, 0, none⟩) 2 2] w fun e w' => e = .returned (.agg #[.int .u64 (chosenV f a b last).1, .int .i64 (chosenV f a b last).2]) ∧ Below w.heap.size w w' := by
  by_cases hf : f = 0 ∨ f = 1
  · exact special.good f a b last w hG wa wb gf ga gb gl gw hcf hca hcb hcl hw0 hw1 hf
  · have h0 : f ≠ 0 := fun h => hf (.inl h)
    have h1 : f ≠ 1 := fun h => hf (.inr h)
    have hv : chosenV f a b last = (bNan f, 1) := by unfold chosenV; rw [if_neg (fun h => by rw [fits_fmt h0 h1] at h; cases h.1)]
    rw [hv]
    exact special.bad f a b last w hG wa wb gf ga gb gl gw hcf hca hcb hcl hw0 hw1 h0 h1
end Go.Proofs.YtokbmgneigdofaaDoor.Given
