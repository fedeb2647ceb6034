/- Contracts of impl.ShiftLeft, impl.ShiftRight and impl.Base (over the listed variable impl.shares), in the form in which the printed texts take them. -/
import Derived.Lib.LaidTab
import Derived.Laws.Rows
import Derived.LaidMore
import Derived.ChangeSame
import Derived.ChangeVars
import Derived.Test.YtbcjhnhkpbcmcaaDoorRows
import Derived.Test.YtbcjhnhkpbcmcaaDoorProg
import Derived.Shelf.Spec.BitsCarry
import Derived.Shelf.Small.Bits
import Derived.WalkKit
import Derived.WalkSpells
import Derived.Below
import Derived.Deep.Draws
import Derived.Test.YtbcjhnhkpbcmcaaDoorWWords
import Derived.Test.YtbcjhnhkpbcmcaaDoorWMore
import Derived.Test.YtbcjhnhkpbcmcaaDoorWEqStruct
import Derived.Test.YtbcjhnhkpbcmcaaDoorNum
import Derived.RegionTactic
import Derived.ChangeAlike
import Derived.WalkLawsBesides
import Derived.Deep.RegionWith
import Derived.Deep.RegionHeld3
import Derived.Lib.Hide
import Derived.Laws.BitsLemmas
namespace Go.Proofs.YtbcjhnhkpbcmcaaDoor.Given
open Go.RowKit Go.Shelf Go.Proofs.YtbcjhnhkpbcmcaaDoorW.PrintWords Go.Proofs.YtbcjhnhkpbcmcaaDoorW.PrintMore Go.Proofs.YtbcjhnhkpbcmcaaDoor.Num
set_option linter.unusedVariables false
attribute [local go_sem] max2_int min2_int max_two min_two max_three min_three max_four min_four
/-- a * 2^n modulo 2^128. -/
def impl_ShiftLeft.f (hi lo n : Int) : Option (Int × Int) :=
  if Word hi ∧ Word lo then some (wide hi lo * 2 ^ clampn n / 18446744073709551616 % 18446744073709551616, wide hi lo * 2 ^ clampn n % 18446744073709551616) else none

theorem impl_ShiftLeft.calls2 (hi lo n : Int) (r1 r2 : Int) (w : World) (h : impl_ShiftLeft.f hi lo n = some (r1, r2)) :
    Calls Tryd.prog 24 #[.agg #[.int .u64 hi, .int .u64 lo], .int .i64 n] w fun e w' =>
      e = .returned (.agg #[.int .u64 r1, .int .u64 r2]) ∧ ∃ (o1 o2 : Obj) (n : Nat), w' = ((w.alloc o1).alloc o2).drewN n := by
  unfold impl_ShiftLeft.f at h
  split at h
  case isFalse => cases h
  rename_i hr
  obtain ⟨hh, hl⟩ := hr
  simp only [Option.some.injEq, Prod.mk.injEq] at h
  obtain ⟨rfl, rfl⟩ := h
  have hu := Tryd.underlying42
  by_cases hn : n < 0
  · have e1 := shl_low hh hl (m := 0) (by decide)
    have e2 := shl_lo (hi := hi) (lo := lo) 0
    rw [clampn_neg hn]
    rw [← e1, ← e2]
    simp only [Int.pow_zero, Int.mul_one, Nat.sub_zero, Int.reducePow]
    clear e1 e2
    go_enter Tryd.func24, Tryd.ntmps24
    go_wp2
    go_region
    go_wp2
    refine bodyPost_ret (v := .agg #[.int .u64 (bits BinOp.or IntKind.u64 (IntKind.u64.wrap hi) (lo / 18446744073709551616)), .int .u64 (IntKind.u64.wrap lo)]) (by simp [results, Tryd.results24, go_sem]) rfl ⟨rfl, ?_⟩
    exact ⟨_, _, 1, rfl⟩
  by_cases hb : 128 < n
  · obtain ⟨e1, e2⟩ := shl_high (hi := hi) (lo := lo) (m := 128) (by decide)
    rw [clampn_big hb, ← e1, e2, show (2 : Int) ^ (128 - 64) = 18446744073709551616 from by decide]
    clear e1 e2
    go_enter Tryd.func24, Tryd.ntmps24
    go_wp2
    refine bodyPost_ret (v := .agg #[.int .u64 (IntKind.u64.wrap (lo * 18446744073709551616)), .int .u64 0]) (by simp [results, Tryd.results24, go_sem]) rfl ⟨rfl, ?_⟩
    exact ⟨_, _, 0, rfl⟩
  rw [clampn_mid (by omega) (by omega)]
  by_cases hm : 64 ≤ n
  · obtain ⟨e1, e2⟩ := shl_high (hi := hi) (lo := lo) (m := n.toNat) (by omega)
    rw [← e1, e2, show n.toNat - 64 = (n - 64).toNat by omega]
    clear e1 e2
    have h2 : 0 ≤ n - 64 := by omega
    go_enter Tryd.func24, Tryd.ntmps24
    go_wp2
    refine bodyPost_ret (v := .agg #[.int .u64 (IntKind.u64.wrap (lo * 2 ^ (n - 64).toNat)), .int .u64 0]) (by simp [results, Tryd.results24, go_sem]) rfl ⟨rfl, ?_⟩
    exact ⟨_, _, 0, rfl⟩
  · have e1 := shl_low hh hl (m := n.toNat) (by omega)
    have e2 := shl_lo (hi := hi) (lo := lo) n.toNat
    rw [← e1, ← e2, show 64 - n.toNat = (64 - n).toNat by omega]
    clear e1 e2
    have h2 : 0 ≤ 64 - n := by omega
    go_enter Tryd.func24, Tryd.ntmps24
    go_wp2
    go_region
    go_wp2
    refine bodyPost_ret (v := .agg #[.int .u64 (bits BinOp.or IntKind.u64 (IntKind.u64.wrap (hi * 2 ^ n.toNat)) (lo / 2 ^ (64 - n).toNat)), .int .u64 (IntKind.u64.wrap (lo * 2 ^ n.toNat))]) (by simp [results, Tryd.results24, go_sem]) rfl ⟨rfl, ?_⟩
    exact ⟨_, _, 1, rfl⟩

theorem impl_ShiftLeft.calls (hi lo n : Int) (r1 r2 : Int) (w : World) (h : impl_ShiftLeft.f hi lo n = some (r1, r2)) :
    Calls Tryd.prog 24 #[.agg #[.int .u64 hi, .int .u64 lo], .int .i64 n] w fun e w' =>
      e = .returned (.agg #[.int .u64 r1, .int .u64 r2]) ∧ Below w.heap.size w w' := by
  refine (impl_ShiftLeft.calls2 hi lo n r1 r2 w h).mono ?_
  rintro e w' ⟨rfl, o1, o2, m, rfl⟩
  exact ⟨rfl, pw_below_drewN (((Below.refl _ _).alloc (Nat.le_refl _) _).alloc (by simp) _) _⟩

/-- a / 2^n rounded down, and whether something was lost. -/
def impl_ShiftRight.f (hi lo n : Int) : Option (Int × Int × Bool) :=
  if Word hi ∧ Word lo then some (wide hi lo / 2 ^ clampn n / 18446744073709551616, wide hi lo / 2 ^ clampn n % 18446744073709551616, decide (wide hi lo % 2 ^ clampn n ≠ 0)) else none

theorem eqW (d : Nat) (w : World) (x0 y0 : Int) (x1 y1 : Int) :
    (Op.equalIn (d + 2) 42 (.agg #[.int .u64 x0, .int .u64 x1]) (.agg #[.int .u64 y0, .int .u64 y1])).run Tryd.prog w = .ok (x0 == y0 && (x1 == y1)) w := by
  refine eqA_of Tryd.underlying42 (by kernel_rfl) ?_
  refine eqf_cons (by rfl) (by go_simp; rfl) (by go_simp; rfl) (by go_simp) ?_
  exact eqf_last (by rfl) (by go_simp; rfl) (by go_simp; rfl) (by go_simp)
attribute [local go_sem high] eqW

/-- Whether a pair is another. -/
def neq2 (a b c d : Int) : Bool := !(a == c) || !(b == d)

set_option maxHeartbeats 2000000 in
theorem sr_neg (hi lo n : Int) (X p q : Int) (hn : n < 0) (hX : bits BinOp.or IntKind.u64 lo (IntKind.u64.wrap (hi * 18446744073709551616)) = X) (hf : impl_ShiftLeft.f (hi) (X) 0 = some (p, q)) (w : World) :
    Calls Tryd.prog 22 #[.agg #[.int .u64 hi, .int .u64 lo], .int .i64 n] w fun e w' =>
      e = .returned (.tuple #[.agg #[.int .u64 (hi), .int .u64 (X)], .bool (neq2 p q hi lo)]) ∧ Below w.heap.size w w' := by
  have hu := Tryd.underlying42
  have hc := Lib.hid (impl_ShiftLeft.calls2 (hi) (X) 0 p q · hf)
  clear hf
  go_enter Tryd.func22, Tryd.ntmps22
  go_wp2
  go_region
  go_wp2
  go_region_held3 (fun w' => w'.cell? ⟨w.heap.size, 0, none⟩ = some (.int .u64 hi) ∧ w'.cell? ⟨w.heap.size, 1, none⟩ = some (.int .u64 lo) ∧ w'.cell? ⟨w.heap.size + 1 + 1, 0, none⟩ = some (.int .u64 (hi)) ∧ w'.cell? ⟨w.heap.size + 1 + 1, 1, none⟩ = some (.int .u64 (X)))
    (simp [go_sem, World.cell?_alloc_past])
    (first | (go_at_call 24; refine (hc.out _).mono ?_; rintro e w' ⟨rfl, o1, o2, m, rfl⟩))
  go_wp2
  refine bodyPost_ret (v := .tuple #[.agg #[.int .u64 (hi), .int .u64 (X)], .bool (neq2 p q hi lo)]) (by simp [results, Tryd.results22, go_sem, World.cell?_alloc_past, neq2]) rfl ⟨rfl, ?_⟩
  repeat (first | exact Below.refl _ _ | refine Below.setCell ?_ (by simp) _ | refine pw_below_drewN ?_ _ | refine Below.drew ?_ | refine Below.alloc ?_ (by first | (simp; done) | (simp; omega)) _)

set_option maxHeartbeats 2000000 in
theorem sr_big (hi lo n : Int) (X p q : Int) (hn : 128 < n) (hX : hi / 18446744073709551616 = X) (hf : impl_ShiftLeft.f (0) (X) 128 = some (p, q)) (w : World) :
    Calls Tryd.prog 22 #[.agg #[.int .u64 hi, .int .u64 lo], .int .i64 n] w fun e w' =>
      e = .returned (.tuple #[.agg #[.int .u64 (0), .int .u64 (X)], .bool (neq2 p q hi lo)]) ∧ Below w.heap.size w w' := by
  have hu := Tryd.underlying42
  have hc := Lib.hid (impl_ShiftLeft.calls2 (0) (X) 128 p q · hf)
  clear hf
  go_enter Tryd.func22, Tryd.ntmps22
  go_wp2
  go_region_held3 (fun w' => w'.cell? ⟨w.heap.size, 0, none⟩ = some (.int .u64 hi) ∧ w'.cell? ⟨w.heap.size, 1, none⟩ = some (.int .u64 lo) ∧ w'.cell? ⟨w.heap.size + 1 + 1, 0, none⟩ = some (.int .u64 (0)) ∧ w'.cell? ⟨w.heap.size + 1 + 1, 1, none⟩ = some (.int .u64 (X)))
    (simp [go_sem, World.cell?_alloc_past])
    (first | (go_at_call 24; refine (hc.out _).mono ?_; rintro e w' ⟨rfl, o1, o2, m, rfl⟩))
  go_wp2
  refine bodyPost_ret (v := .tuple #[.agg #[.int .u64 (0), .int .u64 (X)], .bool (neq2 p q hi lo)]) (by simp [results, Tryd.results22, go_sem, World.cell?_alloc_past, neq2]) rfl ⟨rfl, ?_⟩
  repeat (first | exact Below.refl _ _ | refine Below.setCell ?_ (by simp) _ | refine pw_below_drewN ?_ _ | refine Below.drew ?_ | refine Below.alloc ?_ (by first | (simp; done) | (simp; omega)) _)

set_option maxHeartbeats 2000000 in
theorem sr_high (hi lo n : Int) (X p q : Int) (h1 : 64 ≤ n) (h2 : n ≤ 128) (hX : hi / 2 ^ (n - 64).toNat = X) (hf : impl_ShiftLeft.f (0) (X) n = some (p, q)) (w : World) :
    Calls Tryd.prog 22 #[.agg #[.int .u64 hi, .int .u64 lo], .int .i64 n] w fun e w' =>
      e = .returned (.tuple #[.agg #[.int .u64 (0), .int .u64 (X)], .bool (neq2 p q hi lo)]) ∧ Below w.heap.size w w' := by
  have hu := Tryd.underlying42
  have hc := Lib.hid (impl_ShiftLeft.calls2 (0) (X) n p q · hf)
  clear hf
  have h3 : 0 ≤ n - 64 := by omega
  go_enter Tryd.func22, Tryd.ntmps22
  go_wp2
  go_region_held3 (fun w' => w'.cell? ⟨w.heap.size, 0, none⟩ = some (.int .u64 hi) ∧ w'.cell? ⟨w.heap.size, 1, none⟩ = some (.int .u64 lo) ∧ w'.cell? ⟨w.heap.size + 1 + 1, 0, none⟩ = some (.int .u64 (0)) ∧ w'.cell? ⟨w.heap.size + 1 + 1, 1, none⟩ = some (.int .u64 (X)))
    (simp [go_sem, World.cell?_alloc_past])
    (first | (go_at_call 24; refine (hc.out _).mono ?_; rintro e w' ⟨rfl, o1, o2, m, rfl⟩))
  go_wp2
  refine bodyPost_ret (v := .tuple #[.agg #[.int .u64 (0), .int .u64 (X)], .bool (neq2 p q hi lo)]) (by simp [results, Tryd.results22, go_sem, World.cell?_alloc_past, neq2]) rfl ⟨rfl, ?_⟩
  repeat (first | exact Below.refl _ _ | refine Below.setCell ?_ (by simp) _ | refine pw_below_drewN ?_ _ | refine Below.drew ?_ | refine Below.alloc ?_ (by first | (simp; done) | (simp; omega)) _)

set_option maxHeartbeats 2000000 in
theorem sr_low (hi lo n : Int) (X p q : Int) (Y : Int) (h1 : 0 ≤ n) (h2 : n < 64) (hY : hi / 2 ^ n.toNat = Y) (hX : bits BinOp.or IntKind.u64 (lo / 2 ^ n.toNat) (IntKind.u64.wrap (hi * 2 ^ (64 - n).toNat)) = X) (hf : impl_ShiftLeft.f (Y) (X) n = some (p, q)) (w : World) :
    Calls Tryd.prog 22 #[.agg #[.int .u64 hi, .int .u64 lo], .int .i64 n] w fun e w' =>
      e = .returned (.tuple #[.agg #[.int .u64 (Y), .int .u64 (X)], .bool (neq2 p q hi lo)]) ∧ Below w.heap.size w w' := by
  have hu := Tryd.underlying42
  have hc := Lib.hid (impl_ShiftLeft.calls2 (Y) (X) n p q · hf)
  clear hf
  have h3 : 0 ≤ 64 - n := by omega
  go_enter Tryd.func22, Tryd.ntmps22
  go_wp2
  go_region
  go_wp2
  go_region_held3 (fun w' => w'.cell? ⟨w.heap.size, 0, none⟩ = some (.int .u64 hi) ∧ w'.cell? ⟨w.heap.size, 1, none⟩ = some (.int .u64 lo) ∧ w'.cell? ⟨w.heap.size + 1 + 1, 0, none⟩ = some (.int .u64 (Y)) ∧ w'.cell? ⟨w.heap.size + 1 + 1, 1, none⟩ = some (.int .u64 (X)))
    (simp [go_sem, World.cell?_alloc_past])
    (first | (go_at_call 24; refine (hc.out _).mono ?_; rintro e w' ⟨rfl, o1, o2, m, rfl⟩))
  go_wp2
  refine bodyPost_ret (v := .tuple #[.agg #[.int .u64 (Y), .int .u64 (X)], .bool (neq2 p q hi lo)]) (by simp [results, Tryd.results22, go_sem, World.cell?_alloc_past, neq2]) rfl ⟨rfl, ?_⟩
  repeat (first | exact Below.refl _ _ | refine Below.setCell ?_ (by simp) _ | refine pw_below_drewN ?_ _ | refine Below.drew ?_ | refine Below.alloc ?_ (by first | (simp; done) | (simp; omega)) _)

theorem sr_fin {hi lo : Int} (hh : Word hi) (hl : Word lo) {m : Nat} {n : Int} (hm : clampn n = m) :
    impl_ShiftLeft.f (wide hi lo / 2 ^ m / 18446744073709551616) (wide hi lo / 2 ^ m % 18446744073709551616) n = some (wide hi lo / 2 ^ m * 2 ^ m / 18446744073709551616 % 18446744073709551616, wide hi lo / 2 ^ m * 2 ^ m % 18446744073709551616) ∧
    neq2 (wide hi lo / 2 ^ m * 2 ^ m / 18446744073709551616 % 18446744073709551616) (wide hi lo / 2 ^ m * 2 ^ m % 18446744073709551616) hi lo = decide (wide hi lo % 2 ^ m ≠ 0) := by
  obtain ⟨b0, b1⟩ := wide_bd hh hl
  have hp := pow_pos2 m
  have hq1 : wide hi lo / 2 ^ m ≤ wide hi lo := Int.ediv_le_self _ b0
  have hq0 : 0 ≤ wide hi lo / 2 ^ m := Int.ediv_nonneg b0 (by omega)
  refine ⟨?_, ?_⟩
  · unfold impl_ShiftLeft.f
    rw [if_pos ⟨by unfold Word; omega, word_mod _⟩, wide_div_mod, hm]
  · have := back_neq hh hl m
    unfold neq2
    rw [Bool.eq_iff_iff]
    simp only [Bool.or_eq_true, Bool.not_eq_true', beq_eq_false_iff_ne, decide_eq_true_eq, ne_eq]
    rw [← this]
    by_cases h : wide hi lo / 2 ^ m * 2 ^ m / 18446744073709551616 % 18446744073709551616 = hi <;> simp [h]

theorem impl_ShiftRight.calls (hi lo n : Int) (r1 r2 : Int) (r3 : Bool) (w : World) (h : impl_ShiftRight.f hi lo n = some (r1, r2, r3)) :
    Calls Tryd.prog 22 #[.agg #[.int .u64 hi, .int .u64 lo], .int .i64 n] w fun e w' =>
      e = .returned (.tuple #[.agg #[.int .u64 r1, .int .u64 r2], .bool r3]) ∧ Below w.heap.size w w' := by
  unfold impl_ShiftRight.f at h
  split at h
  case isFalse => cases h
  rename_i hr
  obtain ⟨hh, hl⟩ := hr
  simp only [Option.some.injEq, Prod.mk.injEq] at h
  obtain ⟨rfl, rfl, rfl⟩ := h
  by_cases hn : n < 0
  · obtain ⟨f1, f2⟩ := sr_fin hh hl (m := 0) (n := 0) (by decide)
    obtain ⟨e1, e2⟩ := shr_low hh hl (m := 0) (by decide)
    rw [clampn_neg hn, ← f2]
    rw [← e2, ← e1] at f1
    rw [← e2, ← e1]
    simp only [Int.pow_zero, Int.ediv_one, Nat.sub_zero, Int.reducePow] at f1 ⊢
    exact sr_neg hi lo n _ _ _ hn rfl f1 w
  by_cases hb : 128 < n
  · obtain ⟨f1, f2⟩ := sr_fin hh hl (m := 128) (n := 128) (by decide)
    obtain ⟨e1, e2⟩ := shr_high hh hl (m := 128) (by decide)
    rw [clampn_big hb, ← f2]
    rw [e2, ← e1] at f1
    rw [e2, ← e1]
    rw [show (2 : Int) ^ (128 - 64) = 18446744073709551616 from by decide] at f1 ⊢
    exact sr_big hi lo n _ _ _ hb rfl f1 w
  have hcl := clampn_mid (n := n) (by omega) (by omega)
  obtain ⟨f1, f2⟩ := sr_fin hh hl (m := n.toNat) (n := n) hcl
  rw [hcl, ← f2]
  by_cases hm : 64 ≤ n
  · obtain ⟨e1, e2⟩ := shr_high hh hl (m := n.toNat) (by omega)
    rw [e2, ← e1] at f1
    rw [e2, ← e1]
    rw [show n.toNat - 64 = (n - 64).toNat by omega] at f1 ⊢
    exact sr_high hi lo n _ _ _ hm (by omega) rfl f1 w
  · obtain ⟨e1, e2⟩ := shr_low hh hl (m := n.toNat) (by omega)
    rw [← e2, ← e1] at f1
    rw [← e2, ← e1]
    rw [show 64 - n.toNat = (64 - n).toNat by omega] at f1 ⊢
    exact sr_low hi lo n _ _ _ _ (by omega) (by omega) rfl rfl f1 w

/-! ### the listed variable impl.shares -/
def Gshares.vals : List Int := [12311384997445461060, 6896949616398116700, 3175666228297764653, 1183806766059182244, 353476207714659139, 83907343225073545, 15749660485982248, 2328616999791800, 270433320942720, 24618334939658, 1753979576257, 97691228987, 4249834529, 144306183, 3822728, 78971, 1272, 16]
def Gshares (w : World) : Prop := Lib.TabIs Tryd.prog w "loop.example/s01330/impl.shares" .u64 Gshares.vals
def Gshares.cells : Array Value := (Gshares.vals.map fun z => Value.int .u64 z).toArray
theorem Gshares.named : Tryd.prog.globalNamed "loop.example/s01330/impl.shares" = some 0 := by kernel_rfl
theorem Gshares.typed : (Tryd.prog.globals[0]?).map (·.type) = some 32 := by kernel_rfl
theorem Gshares.lt {w : World} (h : Gshares w) : 0 < w.heap.size := World.block_lt_of_cell? w ⟨0, 0, none⟩ (World.var?_cell Gshares.named h 0)
theorem Gshares.below {w w' : World} (h : Gshares w) (hb : Below w.heap.size w w') : Gshares w' := var?_below hb Gshares.named h.lt h
theorem Gshares.drewN {w : World} (h : Gshares w) (n : Nat) : Gshares (w.drewN n) := h
theorem Gshares.row {w : World} (h : Gshares w) : ∃ t fr, w.heap[0]? = some (.cells Gshares.cells t fr) := by
  unfold Gshares Lib.TabIs World.var? at h
  rw [Gshares.named] at h
  simp only [Option.bind_some] at h
  split at h
  · rename_i c t fr hb
    exact ⟨t, fr, by rw [hb, Option.some.inj h]; rfl⟩
  · cases h
theorem Gshares.index (k : Nat) (hk : k < 18) (w : World) : (Instr.index 32 (.agg Gshares.cells) (.int .i64 (k : Int))).run Tryd.prog w = .ok (.int .u64 (Gshares.vals.getD k 0)) w := by
  revert w
  match k, hk with
  | 0, _ => exact fun w => by kernel_rfl
  | 1, _ => exact fun w => by kernel_rfl
  | 2, _ => exact fun w => by kernel_rfl
  | 3, _ => exact fun w => by kernel_rfl
  | 4, _ => exact fun w => by kernel_rfl
  | 5, _ => exact fun w => by kernel_rfl
  | 6, _ => exact fun w => by kernel_rfl
  | 7, _ => exact fun w => by kernel_rfl
  | 8, _ => exact fun w => by kernel_rfl
  | 9, _ => exact fun w => by kernel_rfl
  | 10, _ => exact fun w => by kernel_rfl
  | 11, _ => exact fun w => by kernel_rfl
  | 12, _ => exact fun w => by kernel_rfl
  | 13, _ => exact fun w => by kernel_rfl
  | 14, _ => exact fun w => by kernel_rfl
  | 15, _ => exact fun w => by kernel_rfl
  | 16, _ => exact fun w => by kernel_rfl
  | 17, _ => exact fun w => by kernel_rfl
  | n + 18, h => exact absurd h (by omega)
theorem Gshares.trod {H : Type} (enc : TypeId × Value → H) (W : World) (sp : Nat → Bool) : DataW.trod enc Tryd.prog W 0 sp true 8 32 Gshares.cells.toList = some (Rows.laid_loop_example_s01330_impl_shares, []) := by kernel_rfl
theorem Gshares.reads {W : World} (h : Gshares W) {gn : Nat} {gt : TypeId} {cs : Array Value} (hg : Tryd.prog.globalNamed "loop.example/s01330/impl.shares" = some gn) (ht : (Tryd.prog.globals[gn]?).map (·.type) = some gt) (hvar : W.var? Tryd.prog "loop.example/s01330/impl.shares" = some cs) :
    gn = 0 ∧ gt = 32 ∧ cs = Gshares.cells := by
  obtain rfl := Option.some.inj (Gshares.named.symm.trans hg)
  obtain rfl := Option.some.inj (Gshares.typed.symm.trans ht)
  exact ⟨rfl, rfl, Option.some.inj (hvar.symm.trans h)⟩
theorem Gshares.of_head {W : World} {rest : List (String × DataW Unit)} (h : laidMet Tryd.prog (("loop.example/s01330/impl.shares", Rows.laid_loop_example_s01330_impl_shares) :: rest) W) : Gshares W :=
  Lib.tabIs_of_head (t := 32) (e := 22) (n := 18) Gshares.named Gshares.typed Tryd.underlying32 Tryd.underlying22 (by kernel_rfl) (by kernel_rfl) h
theorem Gshares.of_laid {W : World} (h : laidMet Tryd.prog [("loop.example/s01330/impl.shares", Rows.laid_loop_example_s01330_impl_shares)] W) : Gshares W := Gshares.of_head h
open Go.ChangeShapes in
theorem Gshares.vars {H : Type} (enc : TypeId × Value → H) (W : World) (sp : Nat → Bool) (h : Gshares W) :
    DataW.TrodVars enc Tryd.prog W sp ["loop.example/s01330/impl.shares"] [Rows.laid_loop_example_s01330_impl_shares] (MemPlace.row ⟨0, 0, none⟩ Gshares.cells.size ++ []) :=
  trodVars_mk1 Gshares.named Gshares.typed h (Gshares.trod enc W sp)

/-! ### the listed variable impl.decays -/
def Gdecays.vals : List Int := [9223372034707292160, 9223372032559808513, 9223372028264841220, 9223372019674906640, 9223372002495037504, 9223371968135299328, 9223371899415823360, 9223371761976872960, 9223371487098978304, 9223370937343213568, 9223369837831782400, 9223367638809313280, 9223363240765947903, 9223354444685508597, 9223336852549795755, 9223301668379032917, 9223231300440156843, 9223090566172988758, 9222809104080874160, 9222246205664613803, 9221120511896629248, 9218869536560097961, 9214369234215239612, 9205375219083682339, 9187413517043429148, 9151595186215228390, 9080376907458843210, 8939598712059420229, 8664556174609911609, 8139597253909710366, 7183169364861397922, 5594257926288582650, 3393088950634442637, 1248247667004394400, 168931951563480719, 3094096621605846, 1037953783668, 116806]
def Gdecays (w : World) : Prop := Lib.TabIs Tryd.prog w "loop.example/s01330/impl.decays" .u64 Gdecays.vals
def Gdecays.cells : Array Value := (Gdecays.vals.map fun z => Value.int .u64 z).toArray
theorem Gdecays.named : Tryd.prog.globalNamed "loop.example/s01330/impl.decays" = some 1 := by kernel_rfl
theorem Gdecays.typed : (Tryd.prog.globals[1]?).map (·.type) = some 36 := by kernel_rfl
theorem Gdecays.lt {w : World} (h : Gdecays w) : 1 < w.heap.size := World.block_lt_of_cell? w ⟨1, 0, none⟩ (World.var?_cell Gdecays.named h 0)
theorem Gdecays.below {w w' : World} (h : Gdecays w) (hb : Below w.heap.size w w') : Gdecays w' := var?_below hb Gdecays.named h.lt h
theorem Gdecays.drewN {w : World} (h : Gdecays w) (n : Nat) : Gdecays (w.drewN n) := h
theorem Gdecays.row {w : World} (h : Gdecays w) : ∃ t fr, w.heap[1]? = some (.cells Gdecays.cells t fr) := by
  unfold Gdecays Lib.TabIs World.var? at h
  rw [Gdecays.named] at h
  simp only [Option.bind_some] at h
  split at h
  · rename_i c t fr hb
    exact ⟨t, fr, by rw [hb, Option.some.inj h]; rfl⟩
  · cases h
theorem Gdecays.index (k : Nat) (hk : k < 38) (w : World) : (Instr.index 36 (.agg Gdecays.cells) (.int .i64 (k : Int))).run Tryd.prog w = .ok (.int .u64 (Gdecays.vals.getD k 0)) w := by
  revert w
  match k, hk with
  | 0, _ => exact fun w => by kernel_rfl
  | 1, _ => exact fun w => by kernel_rfl
  | 2, _ => exact fun w => by kernel_rfl
  | 3, _ => exact fun w => by kernel_rfl
  | 4, _ => exact fun w => by kernel_rfl
  | 5, _ => exact fun w => by kernel_rfl
  | 6, _ => exact fun w => by kernel_rfl
  | 7, _ => exact fun w => by kernel_rfl
  | 8, _ => exact fun w => by kernel_rfl
  | 9, _ => exact fun w => by kernel_rfl
  | 10, _ => exact fun w => by kernel_rfl
  | 11, _ => exact fun w => by kernel_rfl
  | 12, _ => exact fun w => by kernel_rfl
  | 13, _ => exact fun w => by kernel_rfl
  | 14, _ => exact fun w => by kernel_rfl
  | 15, _ => exact fun w => by kernel_rfl
  | 16, _ => exact fun w => by kernel_rfl
  | 17, _ => exact fun w => by kernel_rfl
  | 18, _ => exact fun w => by kernel_rfl
  | 19, _ => exact fun w => by kernel_rfl
  | 20, _ => exact fun w => by kernel_rfl
  | 21, _ => exact fun w => by kernel_rfl
  | 22, _ => exact fun w => by kernel_rfl
  | 23, _ => exact fun w => by kernel_rfl
  | 24, _ => exact fun w => by kernel_rfl
  | 25, _ => exact fun w => by kernel_rfl
  | 26, _ => exact fun w => by kernel_rfl
  | 27, _ => exact fun w => by kernel_rfl
  | 28, _ => exact fun w => by kernel_rfl
  | 29, _ => exact fun w => by kernel_rfl
  | 30, _ => exact fun w => by kernel_rfl
  | 31, _ => exact fun w => by kernel_rfl
  | 32, _ => exact fun w => by kernel_rfl
  | 33, _ => exact fun w => by kernel_rfl
  | 34, _ => exact fun w => by kernel_rfl
  | 35, _ => exact fun w => by kernel_rfl
  | 36, _ => exact fun w => by kernel_rfl
  | 37, _ => exact fun w => by kernel_rfl
  | n + 38, h => exact absurd h (by omega)
theorem Gdecays.trod {H : Type} (enc : TypeId × Value → H) (W : World) (sp : Nat → Bool) : DataW.trod enc Tryd.prog W 0 sp true 8 36 Gdecays.cells.toList = some (Rows.laid_loop_example_s01330_impl_decays, []) := by kernel_rfl
theorem Gdecays.reads {W : World} (h : Gdecays W) {gn : Nat} {gt : TypeId} {cs : Array Value} (hg : Tryd.prog.globalNamed "loop.example/s01330/impl.decays" = some gn) (ht : (Tryd.prog.globals[gn]?).map (·.type) = some gt) (hvar : W.var? Tryd.prog "loop.example/s01330/impl.decays" = some cs) :
    gn = 1 ∧ gt = 36 ∧ cs = Gdecays.cells := by
  obtain rfl := Option.some.inj (Gdecays.named.symm.trans hg)
  obtain rfl := Option.some.inj (Gdecays.typed.symm.trans ht)
  exact ⟨rfl, rfl, Option.some.inj (hvar.symm.trans h)⟩
theorem Gdecays.of_head {W : World} {rest : List (String × DataW Unit)} (h : laidMet Tryd.prog (("loop.example/s01330/impl.decays", Rows.laid_loop_example_s01330_impl_decays) :: rest) W) : Gdecays W :=
  Lib.tabIs_of_head (t := 36) (e := 22) (n := 38) Gdecays.named Gdecays.typed Tryd.underlying36 Tryd.underlying22 (by kernel_rfl) (by kernel_rfl) h
theorem Gdecays.of_laid {W : World} (h : laidMet Tryd.prog [("loop.example/s01330/impl.decays", Rows.laid_loop_example_s01330_impl_decays)] W) : Gdecays W := Gdecays.of_head h
open Go.ChangeShapes in
theorem Gdecays.vars {H : Type} (enc : TypeId × Value → H) (W : World) (sp : Nat → Bool) (h : Gdecays W) :
    DataW.TrodVars enc Tryd.prog W sp ["loop.example/s01330/impl.decays"] [Rows.laid_loop_example_s01330_impl_decays] (MemPlace.row ⟨1, 0, none⟩ Gdecays.cells.size ++ []) :=
  trodVars_mk1 Gdecays.named Gdecays.typed h (Gdecays.trod enc W sp)

/-- How many of the numbers stand above u. -/
def above (xs : List Int) (u : Int) : Int := ((xs.filter fun s => decide (u < s)).length : Int)
theorem above_nil (u : Int) : above [] u = 0 := rfl
theorem above_snoc (xs : List Int) (s u : Int) : above (xs ++ [s]) u = if u < s then above xs u + 1 else above xs u := by
  unfold above; by_cases h : u < s <;> simp [h]
theorem above_le (xs : List Int) (u : Int) : 0 ≤ above xs u ∧ above xs u ≤ xs.length := by
  unfold above; exact ⟨by omega, by exact_mod_cast List.length_filter_le _ _⟩

def impl_Base.f (u : Int) : Option Int := some (above Gshares.vals u)

theorem impl_Base.calls (u r : Int) (w : World) (hGshares : Gshares w) (h : impl_Base.f u = some r) :
    Calls Tryd.prog 7 #[.int .u64 u] w fun e w' => e = .returned (.int .i64 r) ∧ Below w.heap.size w w' := by
  obtain rfl := Option.some.inj h
  clear h
  obtain ⟨tt, fr, hg⟩ := hGshares.row
  clear hGshares
  have hc : Gshares.cells.size = 18 := rfl
  have ix := Gshares.index
  generalize Gshares.cells = C at hg ix hc
  go_enter Tryd.func7, Tryd.ntmps7
  go_wp2_with (refine wpList_load_row rfl 32 _ rfl 0 rfl tt C fr _ hg Tryd.underlying32 rfl (by rw [hc]; kernel_rfl) ?_)
  go_loop [3, 7] (fun n i => ∃ k : Nat, k ≤ 18 ∧ i = .int .i64 k ∧ n = .int .i64 (above (Gshares.vals.take k) u)) (fun _ i => 18 - (intOf i).toNat)
  case atStart => exact ⟨0, by decide, rfl, rfl⟩
  case round =>
    obtain ⟨k, hk, rfl, rfl⟩ := hrel
    by_cases hlt : k < 18
    · have hi := ix k hlt
      have hb : decide ((k : Int) < 18) = true := decide_eq_true (by omega)
      have hs : above (Gshares.vals.take (k + 1)) u = if u < Gshares.vals.getD k 0 then above (Gshares.vals.take k) u + 1 else above (Gshares.vals.take k) u := by
        rw [← above_snoc, List.take_add_one, List.getD_eq_getElem?_getD, List.getElem?_eq_getElem (by exact hlt)]; rfl
      have hl := above_le (Gshares.vals.take k) u
      have hl2 : (Gshares.vals.take k).length ≤ k := List.length_take_le _ _
      generalize Gshares.vals.getD k 0 = s at hi hs
      generalize Gshares.vals.take k = xs at *
      clear ix hg
      by_cases hu : u < s
      · have hd : decide (u < s) = true := decide_eq_true hu
        rw [if_pos hu] at hs
        go_wp2
        exact ⟨⟨k + 1, by omega, by simp, by rw [hs]⟩, by simp [intOf]; omega⟩
      · have hd : decide (u < s) = false := decide_eq_false hu
        rw [if_neg hu] at hs
        go_wp2
        exact ⟨⟨k + 1, by omega, by simp, by rw [hs]⟩, by simp [intOf]; omega⟩
    · obtain rfl : k = 18 := by omega
      go_wp2
      refine bodyPost_ret (v := .int .i64 (above (Gshares.vals.take 18) u)) (by simp [results, Tryd.results7, go_sem]) rfl ⟨rfl, Below.refl _ _⟩

end Go.Proofs.YtbcjhnhkpbcmcaaDoor.Given
