/- Walks of package value (layer 1), the rest: what each function hands back. -/
import Derived.Test.YtbhajjinlbadhaaVal
import Derived.Laws.Bits64
namespace Go.Proofs.Ytbhajjinlbadhaa
open Go.RowKit
set_option linter.unusedVariables false
set_option linter.unusedSimpArgs false
attribute [local go_sem high] eqVal
theorem bool_any (b : Bool) (w : World) :
    Calls Try.prog 45 #[.bool b] w fun e w' => e = .returned (.agg #[.int .i64 (vbool b).k, .int .i64 (vbool b).n, .string (vbool b).s]) ∧ Below w.heap.size w w' := by
  cases b
  · go_enter Try.func45, Try.ntmps45
    go_wp2
    exact bodyPost_ret (v := .agg #[.int .i64 2, .int .i64 0, .string ⟨#[]⟩]) (by simp [results, Try.results45, go_sem]) rfl ⟨rfl, (by (repeat (first | (with_reducible exact Below.refl _ _) | apply below_alloc _ (Nat.le_refl _) | refine below_set ?_ (by first | exact Nat.le_refl _ | omega) | apply below_drewN | refine below_step ?_ HB)))⟩
  · go_enter Try.func45, Try.ntmps45
    go_wp2
    exact bodyPost_ret (v := .agg #[.int .i64 2, .int .i64 1, .string ⟨#[]⟩]) (by simp [results, Try.results45, go_sem]) rfl ⟨rfl, (by (repeat (first | (with_reducible exact Below.refl _ _) | apply below_alloc _ (Nat.le_refl _) | refine below_set ?_ (by first | exact Nat.le_refl _ | omega) | apply below_drewN | refine below_step ?_ HB)))⟩
theorem absU_any (a : Int) (w : World) (ha : InR a) :
    Calls Try.prog 68 #[.int .i64 a] w fun e w' => e = .returned (.int .u64 (a.natAbs : Int)) ∧ w = w' := by
  obtain ⟨h1, h2⟩ := ha
  go_enter Try.func68, Try.ntmps68
  go_wp2
  all_goals
    go_ret
    exact ⟨ret_int (by first | omega | (simp only [IntKind.wrap_u64]; omega)), rfl⟩
set_option maxHeartbeats 1000000 in
theorem mul64_any (x y : Nat) (hx : x < 18446744073709551616) (hy : y < 18446744073709551616) (w : World) :
    Calls Try.prog 69 #[.int .u64 x, .int .u64 y] w fun e w' => e = .returned (.tuple #[.int .u64 ((x * y / 18446744073709551616 : Nat) : Int), .int .u64 ((x * y % 18446744073709551616 : Nat) : Int)]) ∧ w = w' := by
  obtain ⟨bd, bt, bw, hhi⟩ := Lib.mul64_hi x y hx hy
  have ba := Lib.half_mul_le (a := x / 4294967296) (b := y / 4294967296) (by omega) (by omega)
  have bb := Lib.half_mul_le (a := x / 4294967296) (b := y % 4294967296) (by omega) (by omega)
  have bc := Lib.half_mul_le (a := x % 4294967296) (b := y / 4294967296) (by omega) (by omega)
  have ba' : x / 4294967296 * (y / 4294967296) < 18446744073709551616 := by omega
  have bb' : x / 4294967296 * (y % 4294967296) < 18446744073709551616 := by omega
  have bc' : x % 4294967296 * (y / 4294967296) < 18446744073709551616 := by omega
  have bh1 : x / 4294967296 * (y / 4294967296) + (x / 4294967296 * (y % 4294967296) + x % 4294967296 * (y % 4294967296) / 4294967296) / 4294967296 < 18446744073709551616 := by omega
  have bh : x / 4294967296 * (y / 4294967296) + (x / 4294967296 * (y % 4294967296) + x % 4294967296 * (y % 4294967296) / 4294967296) / 4294967296 + ((x / 4294967296 * (y % 4294967296) + x % 4294967296 * (y % 4294967296) / 4294967296) % 4294967296 + x % 4294967296 * (y / 4294967296)) / 4294967296 < 18446744073709551616 := by omega
  go_enter Try.func69, Try.ntmps69
  go_wp2
  simp only [Mul64.maskN x hx, Mul64.maskN y hy, Mul64.divN, Mul64.mulN, Mul64.addN, Mul64.wrapN _ bd, Mul64.wrapN _ bb', Mul64.wrapN _ bt, Mul64.maskN _ bt, Mul64.wrapN _ bc', Mul64.wrapN _ bw, Mul64.wrapN _ ba', Mul64.wrapN _ bh1, Mul64.wrapN _ bh, Mul64.wrapM (x * y)]
  rw [hhi]
  go_ret2
  exact ⟨rfl, rfl⟩
theorem mul_same {a b : Int} (h : a < 0 ↔ b < 0) : a * b = (a.natAbs : Int) * b.natAbs := by
  by_cases ha : a < 0
  · have hb := h.1 ha
    rw [show (a.natAbs : Int) = -a by omega, show (b.natAbs : Int) = -b by omega, Int.neg_mul_neg]
  · have hb : ¬ b < 0 := fun k => ha (h.2 k)
    rw [show (a.natAbs : Int) = a by omega, show (b.natAbs : Int) = b by omega]
theorem mul_other {a b : Int} (h : ¬ (a < 0 ↔ b < 0)) : a * b = -((a.natAbs : Int) * b.natAbs) := by
  by_cases ha : a < 0
  · have hb : ¬ b < 0 := fun k => h ⟨fun _ => k, fun _ => ha⟩
    rw [show (a.natAbs : Int) = -a by omega, show (b.natAbs : Int) = b by omega, Int.neg_mul, Int.neg_neg]
  · have hb : b < 0 := Decidable.byContradiction fun k => h ⟨fun q => absurd q ha, fun q => absurd q k⟩
    rw [show (a.natAbs : Int) = a by omega, show (b.natAbs : Int) = -b by omega, Int.mul_neg, Int.neg_neg]
/-- What value.product tells: the product, where it is within 64 bits. -/
def Prod (a b : Int) (w : World) (e : Ending) (w' : World) : Prop := ∃ c : Int, e = .returned (.tuple #[.int .i64 c, .bool (decide (InR (a * b)))]) ∧ (InR (a * b) → c = a * b) ∧ w = w'
theorem prod_mk {a b : Int} {w w' : World} {e : Ending} (c : Int) (k : Bool) (he : e = .returned (.tuple #[.int .i64 c, .bool k])) (h1 : k = decide (InR (a * b))) (h2 : InR (a * b) → c = a * b) (hw : w = w') : Prod a b w e w' := ⟨c, by rw [he, h1], h2, hw⟩
theorem product_any (a b : Int) (w : World) (ha : InR a) (hb : InR b) :
    Calls Try.prog 61 #[.int .i64 a, .int .i64 b] w (Prod a b w) := by
  have n1 : a.natAbs < 18446744073709551616 := by have := ha.1; have := ha.2; omega
  have n2 : b.natAbs < 18446744073709551616 := by have := hb.1; have := hb.2; omega
  go_enter Try.func61, Try.ntmps61
  go_wp2_with fail
  refine (absU_any a _ ha).mono ?_; rintro e w' ⟨rfl, rfl⟩
  go_wp2_with fail
  refine (absU_any b _ hb).mono ?_; rintro e w' ⟨rfl, rfl⟩
  go_wp2_with fail
  refine (mul64_any _ _ n1 n2 _).mono ?_; rintro e w' ⟨rfl, rfl⟩
  go_wp2
  all_goals
    have hs : (a < 0 ↔ b < 0) → a * b = (a.natAbs : Int) * b.natAbs := mul_same
    have ho : ¬ (a < 0 ↔ b < 0) → a * b = -((a.natAbs : Int) * b.natAbs) := mul_other
    have hp0 : 0 ≤ (a.natAbs : Int) * b.natAbs := Int.mul_nonneg (Int.natCast_nonneg _) (Int.natCast_nonneg _)
    go_ret2
    refine prod_mk _ _ rfl ?_ ?_ rfl
    all_goals
      generalize (a.natAbs : Int) * b.natAbs = p at *
      generalize a * b = c at *
      simp only [InR, wrap64, IntKind.wrap_u64] at *
      by_cases h : (a < 0 ↔ b < 0)
      · have hc := hs h
        clear hs ho
        first | omega | (rw [Bool.eq_iff_iff]; simp only [decide_eq_true_eq, Bool.true_eq_false, Bool.false_eq_true]; omega) | (rw [Bool.eq_iff_iff]; simp only [decide_eq_true_eq]; constructor <;> intro _ <;> first | omega | trivial) | (simp_all; done) | (simp_all; omega) | (simp_all; rw [Bool.eq_iff_iff]; simp; omega)
      · have hc := ho h
        clear hs ho
        first | omega | (rw [Bool.eq_iff_iff]; simp only [decide_eq_true_eq, Bool.true_eq_false, Bool.false_eq_true]; omega) | (rw [Bool.eq_iff_iff]; simp only [decide_eq_true_eq]; constructor <;> intro _ <;> first | omega | trivial) | (simp_all; done) | (simp_all; omega) | (simp_all; rw [Bool.eq_iff_iff]; simp; omega)
set_option maxRecDepth 100000 in
theorem reckon_any (op a b : Int) (w : World) (ho : 4 ≤ op ∧ op ≤ 7) (ha : InR a) (hb : InR b) :
    Calls Try.prog 43 #[.int .i64 op, .int .i64 a, .int .i64 b] w fun e w' => e = .returned (.tuple #[.int .i64 (nreckon op a b).1, .int .i64 (nreckon op a b).2]) ∧ w = w' := by
  obtain rfl | rfl | rfl | rfl : op = 4 ∨ op = 5 ∨ op = 6 ∨ op = 7 := by omega
  · have hs := sum_test a b ha hb
    by_cases h : InR (a + b)
    · have h1 := hs.2 h
      have HW := Lib.hid (wrap64_in h)
      clear hs
      go_enter Try.func43, Try.ntmps43
      go_wp2
      go_ret2
      exact ⟨by simp [nreckon, h, HW.out], rfl⟩
    · have h1 : ¬ ((0 : Int) ≤ _) := fun k => h (hs.1 k)
      clear hs
      go_enter Try.func43, Try.ntmps43
      go_wp2
      go_ret2
      exact ⟨by simp [nreckon, h], rfl⟩
  · have hs := diff_test a b ha hb
    by_cases h : InR (a - b)
    · have h1 := hs.2 h
      have HW := Lib.hid (wrap64_in h)
      clear hs
      go_enter Try.func43, Try.ntmps43
      go_wp2
      go_ret2
      exact ⟨by simp [nreckon, h, HW.out], rfl⟩
    · have h1 : ¬ ((0 : Int) ≤ _) := fun k => h (hs.1 k)
      clear hs
      go_enter Try.func43, Try.ntmps43
      go_wp2
      go_ret2
      exact ⟨by simp [nreckon, h], rfl⟩
  · by_cases h : InR (a * b)
    · go_enter Try.func43, Try.ntmps43
      go_wp2_with (go_at_call 61; refine (product_any a b _ ha hb).mono ?_; rintro e w' ⟨c, rfl, hc, rfl⟩; have HC := Lib.hid (hc h); clear hc)
      go_ret2
      exact ⟨by simp [nreckon, h, HC.out], rfl⟩
    · go_enter Try.func43, Try.ntmps43
      go_wp2_with (go_at_call 61; refine (product_any a b _ ha hb).mono ?_; rintro e w' ⟨c, rfl, hc, rfl⟩; clear hc)
      go_ret2
      exact ⟨by simp [nreckon, h], rfl⟩
  · by_cases h0 : b = 0
    · subst h0
      go_enter Try.func43, Try.ntmps43
      go_wp2
      go_ret2
      exact ⟨by simp [nreckon], rfl⟩
    · obtain ⟨a1, a2⟩ := ha
      obtain ⟨b1, b2⟩ := hb
      go_enter Try.func43, Try.ntmps43
      go_wp2
      all_goals
        have hw : ¬ (a = -9223372036854775808 ∧ b = -1) → wrap64 (a.tdiv b) = a.tdiv b := fun h => wrap64_in (tdiv_in ⟨a1, a2⟩ h0 h)
        go_ret2
        refine ⟨?_, rfl⟩
        by_cases h : a = -9223372036854775808 ∧ b = -1
        · simp_all [nreckon]
        · have := hw h
          simp_all [nreckon]
end Go.Proofs.Ytbhajjinlbadhaa
