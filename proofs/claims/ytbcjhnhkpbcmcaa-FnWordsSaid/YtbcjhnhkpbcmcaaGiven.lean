/- Contracts of impl.AddWide, impl.SubWide (over the model's own Add64, Sub64) and bits.LeadingZeros64 (the library's contract), in the form in which the printed texts take them; no condition beyond the words' ranges, which are premises of the plain functions. -/
import Derived.Test.YtbcjhnhkpbcmcaaProg
import Derived.Test.YtbcjhnhkpbcmcaaShelf
import Derived.Shelf.Spec.BitsCarry
import Derived.Shelf.Small.Bits
import Derived.WalkKit
import Derived.WalkSpells
import Derived.Below
import Derived.Deep.Draws
import Derived.Test.YtbcjhnhkpbcmcaaWWords
import Derived.Test.YtbcjhnhkpbcmcaaWMore
import Derived.Test.YtbcjhnhkpbcmcaaWEqStruct
import Derived.Test.YtbcjhnhkpbcmcaaNum
import Derived.RegionTactic
import Derived.ChangeAlike
import Derived.WalkLawsBesides
import Derived.Deep.RegionWith
import Derived.Deep.RegionHeld3
import Derived.Lib.Hide
import Derived.Laws.BitsLemmas
namespace Go.Proofs.Ytbcjhnhkpbcmcaa.Given
open Go.RowKit Go.Shelf Go.Proofs.YtbcjhnhkpbcmcaaW.PrintWords Go.Proofs.YtbcjhnhkpbcmcaaW.PrintMore Go.Proofs.Ytbcjhnhkpbcmcaa.Num
set_option linter.unusedVariables false
attribute [local go_sem] max2_int min2_int max_two min_two max_three min_three max_four min_four

theorem add64 (x y c : Int) (hx : 0 ≤ x ∧ x < 18446744073709551616) (hy : 0 ≤ y ∧ y < 18446744073709551616) (hc0 : 0 ≤ c) (hc : c ≤ 1) (w : World) : (callFunc 39 #[.int .u64 x, .int .u64 y, .int .u64 c]).run Try.prog w =
    .ok (.value (.tuple #[.int .u64 ((x + y + c) % 18446744073709551616), .int .u64 ((x + y + c) / 18446744073709551616)])) w := by
  obtain ⟨hx, hx'⟩ := hx
  obtain ⟨hy, hy'⟩ := hy
  obtain ⟨x, rfl⟩ := Int.eq_ofNat_of_zero_le hx
  obtain ⟨y, rfl⟩ := Int.eq_ofNat_of_zero_le hy
  obtain ⟨c, rfl⟩ := Int.eq_ofNat_of_zero_le hc0
  rw [run_callFunc_extern Try.func39 (by kernel_rfl) (by kernel_rfl) (by kernel_rfl) (e := add64Entry) (by kernel_rfl), run_add64 x y c (by omega) (by omega) (by omega) (by omega)]
  simp only [Result.andThen]

theorem sub64 (x y b : Int) (hx : 0 ≤ x ∧ x < 18446744073709551616) (hy : 0 ≤ y ∧ y < 18446744073709551616) (hb0 : 0 ≤ b) (hb : b ≤ 1) (w : World) : (callFunc 37 #[.int .u64 x, .int .u64 y, .int .u64 b]).run Try.prog w =
    .ok (.value (.tuple #[.int .u64 ((x - y - b) % 18446744073709551616), .int .u64 (if x < y + b then 1 else 0)])) w := by
  obtain ⟨hx, hx'⟩ := hx
  obtain ⟨hy, hy'⟩ := hy
  obtain ⟨x, rfl⟩ := Int.eq_ofNat_of_zero_le hx
  obtain ⟨y, rfl⟩ := Int.eq_ofNat_of_zero_le hy
  obtain ⟨b, rfl⟩ := Int.eq_ofNat_of_zero_le hb0
  have e1 : (((x + 18446744073709551616 - y - b) % 18446744073709551616 : Nat) : Int) = ((x : Int) - y - b) % 18446744073709551616 := by omega
  have e2 : ((if x < y + b then 1 else 0 : Nat) : Int) = if (x : Int) < y + b then 1 else 0 := by split <;> split <;> omega
  rw [← e1, ← e2]
  rw [run_callFunc_extern Try.func37 (by kernel_rfl) (by kernel_rfl) (by kernel_rfl) (e := sub64Entry) (by kernel_rfl), run_sub64 x y b (by omega) w]
  rfl

theorem add64_0 (x y : Int) (hx : 0 ≤ x ∧ x < 18446744073709551616) (hy : 0 ≤ y ∧ y < 18446744073709551616) (w : World) : (callFunc 39 #[.int .u64 x, .int .u64 y, .int .u64 0]).run Try.prog w =
    .ok (.value (.tuple #[.int .u64 ((x + y) % 18446744073709551616), .int .u64 ((x + y) / 18446744073709551616)])) w := by
  simpa using add64 x y 0 hx hy (Int.le_refl 0) (by decide) w
theorem sub64_0 (x y : Int) (hx : 0 ≤ x ∧ x < 18446744073709551616) (hy : 0 ≤ y ∧ y < 18446744073709551616) (w : World) : (callFunc 37 #[.int .u64 x, .int .u64 y, .int .u64 0]).run Try.prog w =
    .ok (.value (.tuple #[.int .u64 ((x - y) % 18446744073709551616), .int .u64 (if x < y then 1 else 0)])) w := by
  simpa using sub64 x y 0 hx hy (Int.le_refl 0) (by decide) w

def bor (x y : Int) : Int := if x < y then 1 else 0
theorem bor_eq (x y : Int) : (bor x y == 1) = decide (x < y) := by
  unfold bor
  by_cases h : x < y <;> simp [h]


/-- Sum of two wide numbers, modulo 2^128, and the carry. -/
def impl_AddWide.f (a b c d : Int) : Option (Int × Int × Bool) :=
  if (Word a ∧ Word b) ∧ Word c ∧ Word d then some ((a + c + (b + d) / 18446744073709551616) % 18446744073709551616, (b + d) % 18446744073709551616, (a + c + (b + d) / 18446744073709551616) / 18446744073709551616 == 1) else none

def impl_SubWide.f (a b c d : Int) : Option (Int × Int × Bool) :=
  if (Word a ∧ Word b) ∧ Word c ∧ Word d then some ((a - c - (if b < d then 1 else 0)) % 18446744073709551616, (b - d) % 18446744073709551616, decide (a < c + (if b < d then 1 else 0))) else none

set_option maxHeartbeats 800000 in
theorem impl_AddWide.calls (a b c d : Int) (r1 r2 : Int) (r3 : Bool) (w : World) (h : impl_AddWide.f a b c d = some (r1, r2, r3)) :
    Calls Try.prog 22 #[.agg #[.int .u64 a, .int .u64 b], .agg #[.int .u64 c, .int .u64 d]] w fun e w' =>
      e = .returned (.tuple #[.agg #[.int .u64 r1, .int .u64 r2], .bool r3]) ∧ Below w.heap.size w w' := by
  unfold impl_AddWide.f at h
  split at h
  case isFalse => cases h
  rename_i hr
  obtain ⟨⟨ha, hb⟩, hc, hd⟩ := hr
  simp only [Option.some.injEq, Prod.mk.injEq] at h
  obtain ⟨rfl, rfl, rfl⟩ := h
  have k0 : 0 ≤ (b + d) / 18446744073709551616 := by unfold Word at *; omega
  have k1 : (b + d) / 18446744073709551616 ≤ 1 := by unfold Word at *; omega
  go_enter Try.func22, Try.ntmps22
  go_wp2_with (first | simp only [add64_0 b d hb hd] | simp only [add64 a c _ ha hc k0 k1])
  refine bodyPost_ret (v := .tuple #[.agg #[.int .u64 ((a + c + (b + d) / 18446744073709551616) % 18446744073709551616), .int .u64 ((b + d) % 18446744073709551616)], .bool ((a + c + (b + d) / 18446744073709551616) / 18446744073709551616 == 1)]) (by simp [results, Try.results22, go_sem]) rfl ⟨rfl, ?_⟩
  repeat (first | exact Below.refl _ _ | refine Below.drew ?_ | refine Below.alloc ?_ (by first | (simp; done) | (simp; omega)) _)

theorem impl_SubWide.calls (a b c d : Int) (r1 r2 : Int) (r3 : Bool) (w : World) (h : impl_SubWide.f a b c d = some (r1, r2, r3)) :
    Calls Try.prog 18 #[.agg #[.int .u64 a, .int .u64 b], .agg #[.int .u64 c, .int .u64 d]] w fun e w' =>
      e = .returned (.tuple #[.agg #[.int .u64 r1, .int .u64 r2], .bool r3]) ∧ Below w.heap.size w w' := by
  unfold impl_SubWide.f at h
  split at h
  case isFalse => cases h
  rename_i hr
  obtain ⟨⟨ha, hb⟩, hc, hd⟩ := hr
  simp only [Option.some.injEq, Prod.mk.injEq] at h
  obtain ⟨rfl, rfl, rfl⟩ := h
  have k0 : (0 : Int) ≤ (if b < d then 1 else 0) := by split <;> decide
  have k1 : (if b < d then 1 else 0 : Int) ≤ 1 := by split <;> decide
  generalize hq : (if b < d then 1 else 0 : Int) = q at *
  have e0 : ∀ w : World, (callFunc 37 #[.int .u64 b, .int .u64 d, .int .u64 0]).run Try.prog w = .ok (.value (.tuple #[.int .u64 ((b - d) % 18446744073709551616), .int .u64 q])) w := by
    intro w; rw [sub64_0 b d hb hd w, hq]
  have e1 : ∀ w : World, (callFunc 37 #[.int .u64 a, .int .u64 c, .int .u64 q]).run Try.prog w = .ok (.value (.tuple #[.int .u64 ((a - c - q) % 18446744073709551616), .int .u64 (bor a (c + q))])) w := by
    intro w; rw [sub64 a c q ha hc k0 k1 w]; rfl
  clear hq
  go_enter Try.func18, Try.ntmps18
  go_wp2_with (first | simp only [e0] | simp only [e1])
  refine bodyPost_ret (v := .tuple #[.agg #[.int .u64 ((a - c - q) % 18446744073709551616), .int .u64 ((b - d) % 18446744073709551616)], .bool (bor a (c + q) == 1)]) (by simp [results, Try.results18, go_sem]) rfl ⟨by rw [bor_eq], ?_⟩
  repeat (first | exact Below.refl _ _ | refine Below.drew ?_ | refine Below.alloc ?_ (by first | (simp; done) | (simp; omega)) _)

/-- How many of the 64 bits from the highest on are 0. -/
def bits_LeadingZeros64.f (a : Int) : Option Int := if Word a then some (64 - (Lib.bitLen a.toNat : Int)) else none

theorem bits_LeadingZeros64.calls (a r : Int) (w : World) (h : bits_LeadingZeros64.f a = some r) :
    Calls Try.prog 40 #[.int .u64 a] w fun e w' => e = .returned (.int .i64 r) ∧ Drawn0 w w' := by
  unfold bits_LeadingZeros64.f at h
  split at h
  case isFalse => cases h
  rename_i hr
  obtain rfl := Option.some.inj h
  unfold Word at hr
  refine (Try.bits_LeadingZeros64 a w hr.1 (by omega)).mono ?_
  rintro e w' ⟨rfl, rfl⟩
  exact ⟨rfl, 0, rfl⟩

/-- a * 2^n modulo 2^128. -/
def impl_ShiftLeft.f (hi lo n : Int) : Option (Int × Int) :=
  if Word hi ∧ Word lo then some (wide hi lo * 2 ^ clampn n / 18446744073709551616 % 18446744073709551616, wide hi lo * 2 ^ clampn n % 18446744073709551616) else none

theorem impl_ShiftLeft.calls2 (hi lo n : Int) (r1 r2 : Int) (w : World) (h : impl_ShiftLeft.f hi lo n = some (r1, r2)) :
    Calls Try.prog 15 #[.agg #[.int .u64 hi, .int .u64 lo], .int .i64 n] w fun e w' =>
      e = .returned (.agg #[.int .u64 r1, .int .u64 r2]) ∧ ∃ (o1 o2 : Obj) (n : Nat), w' = ((w.alloc o1).alloc o2).drewN n := by
  unfold impl_ShiftLeft.f at h
  split at h
  case isFalse => cases h
  rename_i hr
  obtain ⟨hh, hl⟩ := hr
  simp only [Option.some.injEq, Prod.mk.injEq] at h
  obtain ⟨rfl, rfl⟩ := h
  have hu := Try.underlying26
  by_cases hn : n < 0
  · have e1 := shl_low hh hl (m := 0) (by decide)
    have e2 := shl_lo (hi := hi) (lo := lo) 0
    rw [clampn_neg hn]
    rw [← e1, ← e2]
    simp only [Int.pow_zero, Int.mul_one, Nat.sub_zero, Int.reducePow]
    clear e1 e2
    go_enter Try.func15, Try.ntmps15
    go_wp2
    go_region
    go_wp2
    refine bodyPost_ret (v := .agg #[.int .u64 (bits BinOp.or IntKind.u64 (IntKind.u64.wrap hi) (lo / 18446744073709551616)), .int .u64 (IntKind.u64.wrap lo)]) (by simp [results, Try.results15, go_sem]) rfl ⟨rfl, ?_⟩
    exact ⟨_, _, 1, rfl⟩
  by_cases hb : 128 < n
  · obtain ⟨e1, e2⟩ := shl_high (hi := hi) (lo := lo) (m := 128) (by decide)
    rw [clampn_big hb, ← e1, e2, show (2 : Int) ^ (128 - 64) = 18446744073709551616 from by decide]
    clear e1 e2
    go_enter Try.func15, Try.ntmps15
    go_wp2
    refine bodyPost_ret (v := .agg #[.int .u64 (IntKind.u64.wrap (lo * 18446744073709551616)), .int .u64 0]) (by simp [results, Try.results15, go_sem]) rfl ⟨rfl, ?_⟩
    exact ⟨_, _, 0, rfl⟩
  rw [clampn_mid (by omega) (by omega)]
  by_cases hm : 64 ≤ n
  · obtain ⟨e1, e2⟩ := shl_high (hi := hi) (lo := lo) (m := n.toNat) (by omega)
    rw [← e1, e2, show n.toNat - 64 = (n - 64).toNat by omega]
    clear e1 e2
    have h2 : 0 ≤ n - 64 := by omega
    go_enter Try.func15, Try.ntmps15
    go_wp2
    refine bodyPost_ret (v := .agg #[.int .u64 (IntKind.u64.wrap (lo * 2 ^ (n - 64).toNat)), .int .u64 0]) (by simp [results, Try.results15, go_sem]) rfl ⟨rfl, ?_⟩
    exact ⟨_, _, 0, rfl⟩
  · have e1 := shl_low hh hl (m := n.toNat) (by omega)
    have e2 := shl_lo (hi := hi) (lo := lo) n.toNat
    rw [← e1, ← e2, show 64 - n.toNat = (64 - n).toNat by omega]
    clear e1 e2
    have h2 : 0 ≤ 64 - n := by omega
    go_enter Try.func15, Try.ntmps15
    go_wp2
    go_region
    go_wp2
    refine bodyPost_ret (v := .agg #[.int .u64 (bits BinOp.or IntKind.u64 (IntKind.u64.wrap (hi * 2 ^ n.toNat)) (lo / 2 ^ (64 - n).toNat)), .int .u64 (IntKind.u64.wrap (lo * 2 ^ n.toNat))]) (by simp [results, Try.results15, go_sem]) rfl ⟨rfl, ?_⟩
    exact ⟨_, _, 1, rfl⟩

theorem impl_ShiftLeft.calls (hi lo n : Int) (r1 r2 : Int) (w : World) (h : impl_ShiftLeft.f hi lo n = some (r1, r2)) :
    Calls Try.prog 15 #[.agg #[.int .u64 hi, .int .u64 lo], .int .i64 n] w fun e w' =>
      e = .returned (.agg #[.int .u64 r1, .int .u64 r2]) ∧ Below w.heap.size w w' := by
  refine (impl_ShiftLeft.calls2 hi lo n r1 r2 w h).mono ?_
  rintro e w' ⟨rfl, o1, o2, m, rfl⟩
  exact ⟨rfl, pw_below_drewN (((Below.refl _ _).alloc (Nat.le_refl _) _).alloc (by simp) _) _⟩

/-- a / 2^n rounded down, and whether something was lost. -/
def impl_ShiftRight.f (hi lo n : Int) : Option (Int × Int × Bool) :=
  if Word hi ∧ Word lo then some (wide hi lo / 2 ^ clampn n / 18446744073709551616, wide hi lo / 2 ^ clampn n % 18446744073709551616, decide (wide hi lo % 2 ^ clampn n ≠ 0)) else none

theorem eqW (d : Nat) (w : World) (x0 y0 : Int) (x1 y1 : Int) :
    (Op.equalIn (d + 2) 26 (.agg #[.int .u64 x0, .int .u64 x1]) (.agg #[.int .u64 y0, .int .u64 y1])).run Try.prog w = .ok (x0 == y0 && (x1 == y1)) w := by
  refine eqA_of Try.underlying26 (by kernel_rfl) ?_
  refine eqf_cons (by rfl) (by go_simp; rfl) (by go_simp; rfl) (by go_simp) ?_
  exact eqf_last (by rfl) (by go_simp; rfl) (by go_simp; rfl) (by go_simp)
attribute [local go_sem high] eqW

/-- Whether a pair is another. -/
def neq2 (a b c d : Int) : Bool := !(a == c) || !(b == d)

set_option maxHeartbeats 2000000 in
theorem sr_neg (hi lo n : Int) (X p q : Int) (hn : n < 0) (hX : bits BinOp.or IntKind.u64 lo (IntKind.u64.wrap (hi * 18446744073709551616)) = X) (hf : impl_ShiftLeft.f (hi) (X) 0 = some (p, q)) (w : World) :
    Calls Try.prog 24 #[.agg #[.int .u64 hi, .int .u64 lo], .int .i64 n] w fun e w' =>
      e = .returned (.tuple #[.agg #[.int .u64 (hi), .int .u64 (X)], .bool (neq2 p q hi lo)]) ∧ Below w.heap.size w w' := by
  have hu := Try.underlying26
  have hc := Lib.hid (impl_ShiftLeft.calls2 (hi) (X) 0 p q · hf)
  clear hf
  go_enter Try.func24, Try.ntmps24
  go_wp2
  go_region
  go_wp2
  go_region_held3 (fun w' => w'.cell? ⟨w.heap.size, 0, none⟩ = some (.int .u64 hi) ∧ w'.cell? ⟨w.heap.size, 1, none⟩ = some (.int .u64 lo) ∧ w'.cell? ⟨w.heap.size + 1 + 1, 0, none⟩ = some (.int .u64 (hi)) ∧ w'.cell? ⟨w.heap.size + 1 + 1, 1, none⟩ = some (.int .u64 (X)))
    (simp [go_sem, World.cell?_alloc_past])
    (first | (go_at_call 15; refine (hc.out _).mono ?_; rintro e w' ⟨rfl, o1, o2, m, rfl⟩))
  go_wp2
  refine bodyPost_ret (v := .tuple #[.agg #[.int .u64 (hi), .int .u64 (X)], .bool (neq2 p q hi lo)]) (by simp [results, Try.results24, go_sem, World.cell?_alloc_past, neq2]) rfl ⟨rfl, ?_⟩
  repeat (first | exact Below.refl _ _ | refine Below.setCell ?_ (by simp) _ | refine pw_below_drewN ?_ _ | refine Below.drew ?_ | refine Below.alloc ?_ (by first | (simp; done) | (simp; omega)) _)

set_option maxHeartbeats 2000000 in
theorem sr_big (hi lo n : Int) (X p q : Int) (hn : 128 < n) (hX : hi / 18446744073709551616 = X) (hf : impl_ShiftLeft.f (0) (X) 128 = some (p, q)) (w : World) :
    Calls Try.prog 24 #[.agg #[.int .u64 hi, .int .u64 lo], .int .i64 n] w fun e w' =>
      e = .returned (.tuple #[.agg #[.int .u64 (0), .int .u64 (X)], .bool (neq2 p q hi lo)]) ∧ Below w.heap.size w w' := by
  have hu := Try.underlying26
  have hc := Lib.hid (impl_ShiftLeft.calls2 (0) (X) 128 p q · hf)
  clear hf
  go_enter Try.func24, Try.ntmps24
  go_wp2
  go_region_held3 (fun w' => w'.cell? ⟨w.heap.size, 0, none⟩ = some (.int .u64 hi) ∧ w'.cell? ⟨w.heap.size, 1, none⟩ = some (.int .u64 lo) ∧ w'.cell? ⟨w.heap.size + 1 + 1, 0, none⟩ = some (.int .u64 (0)) ∧ w'.cell? ⟨w.heap.size + 1 + 1, 1, none⟩ = some (.int .u64 (X)))
    (simp [go_sem, World.cell?_alloc_past])
    (first | (go_at_call 15; refine (hc.out _).mono ?_; rintro e w' ⟨rfl, o1, o2, m, rfl⟩))
  go_wp2
  refine bodyPost_ret (v := .tuple #[.agg #[.int .u64 (0), .int .u64 (X)], .bool (neq2 p q hi lo)]) (by simp [results, Try.results24, go_sem, World.cell?_alloc_past, neq2]) rfl ⟨rfl, ?_⟩
  repeat (first | exact Below.refl _ _ | refine Below.setCell ?_ (by simp) _ | refine pw_below_drewN ?_ _ | refine Below.drew ?_ | refine Below.alloc ?_ (by first | (simp; done) | (simp; omega)) _)

set_option maxHeartbeats 2000000 in
theorem sr_high (hi lo n : Int) (X p q : Int) (h1 : 64 ≤ n) (h2 : n ≤ 128) (hX : hi / 2 ^ (n - 64).toNat = X) (hf : impl_ShiftLeft.f (0) (X) n = some (p, q)) (w : World) :
    Calls Try.prog 24 #[.agg #[.int .u64 hi, .int .u64 lo], .int .i64 n] w fun e w' =>
      e = .returned (.tuple #[.agg #[.int .u64 (0), .int .u64 (X)], .bool (neq2 p q hi lo)]) ∧ Below w.heap.size w w' := by
  have hu := Try.underlying26
  have hc := Lib.hid (impl_ShiftLeft.calls2 (0) (X) n p q · hf)
  clear hf
  have h3 : 0 ≤ n - 64 := by omega
  go_enter Try.func24, Try.ntmps24
  go_wp2
  go_region_held3 (fun w' => w'.cell? ⟨w.heap.size, 0, none⟩ = some (.int .u64 hi) ∧ w'.cell? ⟨w.heap.size, 1, none⟩ = some (.int .u64 lo) ∧ w'.cell? ⟨w.heap.size + 1 + 1, 0, none⟩ = some (.int .u64 (0)) ∧ w'.cell? ⟨w.heap.size + 1 + 1, 1, none⟩ = some (.int .u64 (X)))
    (simp [go_sem, World.cell?_alloc_past])
    (first | (go_at_call 15; refine (hc.out _).mono ?_; rintro e w' ⟨rfl, o1, o2, m, rfl⟩))
  go_wp2
  refine bodyPost_ret (v := .tuple #[.agg #[.int .u64 (0), .int .u64 (X)], .bool (neq2 p q hi lo)]) (by simp [results, Try.results24, go_sem, World.cell?_alloc_past, neq2]) rfl ⟨rfl, ?_⟩
  repeat (first | exact Below.refl _ _ | refine Below.setCell ?_ (by simp) _ | refine pw_below_drewN ?_ _ | refine Below.drew ?_ | refine Below.alloc ?_ (by first | (simp; done) | (simp; omega)) _)

set_option maxHeartbeats 2000000 in
theorem sr_low (hi lo n : Int) (X p q : Int) (Y : Int) (h1 : 0 ≤ n) (h2 : n < 64) (hY : hi / 2 ^ n.toNat = Y) (hX : bits BinOp.or IntKind.u64 (lo / 2 ^ n.toNat) (IntKind.u64.wrap (hi * 2 ^ (64 - n).toNat)) = X) (hf : impl_ShiftLeft.f (Y) (X) n = some (p, q)) (w : World) :
    Calls Try.prog 24 #[.agg #[.int .u64 hi, .int .u64 lo], .int .i64 n] w fun e w' =>
      e = .returned (.tuple #[.agg #[.int .u64 (Y), .int .u64 (X)], .bool (neq2 p q hi lo)]) ∧ Below w.heap.size w w' := by
  have hu := Try.underlying26
  have hc := Lib.hid (impl_ShiftLeft.calls2 (Y) (X) n p q · hf)
  clear hf
  have h3 : 0 ≤ 64 - n := by omega
  go_enter Try.func24, Try.ntmps24
  go_wp2
  go_region
  go_wp2
  go_region_held3 (fun w' => w'.cell? ⟨w.heap.size, 0, none⟩ = some (.int .u64 hi) ∧ w'.cell? ⟨w.heap.size, 1, none⟩ = some (.int .u64 lo) ∧ w'.cell? ⟨w.heap.size + 1 + 1, 0, none⟩ = some (.int .u64 (Y)) ∧ w'.cell? ⟨w.heap.size + 1 + 1, 1, none⟩ = some (.int .u64 (X)))
    (simp [go_sem, World.cell?_alloc_past])
    (first | (go_at_call 15; refine (hc.out _).mono ?_; rintro e w' ⟨rfl, o1, o2, m, rfl⟩))
  go_wp2
  refine bodyPost_ret (v := .tuple #[.agg #[.int .u64 (Y), .int .u64 (X)], .bool (neq2 p q hi lo)]) (by simp [results, Try.results24, go_sem, World.cell?_alloc_past, neq2]) rfl ⟨rfl, ?_⟩
  repeat (first | exact Below.refl _ _ | refine Below.setCell ?_ (by simp) _ | refine pw_below_drewN ?_ _ | refine Below.drew ?_ | refine Below.alloc ?_ (by first | (simp; done) | (simp; omega)) _)

theorem sr_fin {hi lo : Int} (hh : Word hi) (hl : Word lo) {m : Nat} {n : Int} (hm : clampn n = m) :
    impl_ShiftLeft.f (wide hi lo / 2 ^ m / 18446744073709551616) (wide hi lo / 2 ^ m % 18446744073709551616) n = some (wide hi lo / 2 ^ m * 2 ^ m / 18446744073709551616 % 18446744073709551616, wide hi lo / 2 ^ m * 2 ^ m % 18446744073709551616) ∧
    neq2 (wide hi lo / 2 ^ m * 2 ^ m / 18446744073709551616 % 18446744073709551616) (wide hi lo / 2 ^ m * 2 ^ m % 18446744073709551616) hi lo = decide (wide hi lo % 2 ^ m ≠ 0) := by
  obtain ⟨b0, b1⟩ := wide_bd hh hl
  have hp := pow_pos2 m
  have hq1 : wide hi lo / 2 ^ m ≤ wide hi lo := Int.ediv_le_self _ b0
  have hq0 : 0 ≤ wide hi lo / 2 ^ m := Int.ediv_nonneg b0 (by omega)
  refine ⟨?_, ?_⟩
  · unfold impl_ShiftLeft.f
    rw [if_pos ⟨by unfold Word; omega, word_mod _⟩, wide_div_mod, hm]
  · have := back_neq hh hl m
    unfold neq2
    rw [Bool.eq_iff_iff]
    simp only [Bool.or_eq_true, Bool.not_eq_true', beq_eq_false_iff_ne, decide_eq_true_eq, ne_eq]
    rw [← this]
    by_cases h : wide hi lo / 2 ^ m * 2 ^ m / 18446744073709551616 % 18446744073709551616 = hi <;> simp [h]

theorem impl_ShiftRight.calls (hi lo n : Int) (r1 r2 : Int) (r3 : Bool) (w : World) (h : impl_ShiftRight.f hi lo n = some (r1, r2, r3)) :
    Calls Try.prog 24 #[.agg #[.int .u64 hi, .int .u64 lo], .int .i64 n] w fun e w' =>
      e = .returned (.tuple #[.agg #[.int .u64 r1, .int .u64 r2], .bool r3]) ∧ Below w.heap.size w w' := by
  unfold impl_ShiftRight.f at h
  split at h
  case isFalse => cases h
  rename_i hr
  obtain ⟨hh, hl⟩ := hr
  simp only [Option.some.injEq, Prod.mk.injEq] at h
  obtain ⟨rfl, rfl, rfl⟩ := h
  by_cases hn : n < 0
  · obtain ⟨f1, f2⟩ := sr_fin hh hl (m := 0) (n := 0) (by decide)
    obtain ⟨e1, e2⟩ := shr_low hh hl (m := 0) (by decide)
    rw [clampn_neg hn, ← f2]
    rw [← e2, ← e1] at f1
    rw [← e2, ← e1]
    simp only [Int.pow_zero, Int.ediv_one, Nat.sub_zero, Int.reducePow] at f1 ⊢
    exact sr_neg hi lo n _ _ _ hn rfl f1 w
  by_cases hb : 128 < n
  · obtain ⟨f1, f2⟩ := sr_fin hh hl (m := 128) (n := 128) (by decide)
    obtain ⟨e1, e2⟩ := shr_high hh hl (m := 128) (by decide)
    rw [clampn_big hb, ← f2]
    rw [e2, ← e1] at f1
    rw [e2, ← e1]
    rw [show (2 : Int) ^ (128 - 64) = 18446744073709551616 from by decide] at f1 ⊢
    exact sr_big hi lo n _ _ _ hb rfl f1 w
  have hcl := clampn_mid (n := n) (by omega) (by omega)
  obtain ⟨f1, f2⟩ := sr_fin hh hl (m := n.toNat) (n := n) hcl
  rw [hcl, ← f2]
  by_cases hm : 64 ≤ n
  · obtain ⟨e1, e2⟩ := shr_high hh hl (m := n.toNat) (by omega)
    rw [e2, ← e1] at f1
    rw [e2, ← e1]
    rw [show n.toNat - 64 = (n - 64).toNat by omega] at f1 ⊢
    exact sr_high hi lo n _ _ _ hm (by omega) rfl f1 w
  · obtain ⟨e1, e2⟩ := shr_low hh hl (m := n.toNat) (by omega)
    rw [← e2, ← e1] at f1
    rw [← e2, ← e1]
    rw [show 64 - n.toNat = (64 - n).toNat by omega] at f1 ⊢
    exact sr_low hi lo n _ _ _ _ (by omega) (by omega) rfl rfl f1 w

end Go.Proofs.Ytbcjhnhkpbcmcaa.Given
