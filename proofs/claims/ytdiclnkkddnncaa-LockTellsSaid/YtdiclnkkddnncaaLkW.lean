/- Package lock: the small functions. -/
import Derived.Test.YtdiclnkkddnncaaLk
import Derived.Test.YtdiclnkkddnncaaCmp
import Derived.Test.YtdiclnkkddnncaaBox3
import Derived.Test.YtdiclnkkddnncaaLater
import Derived.Test.YtdiclnkkddnncaaTail
import Derived.Deep.QuietTactic
import Derived.BigQuiet
import Derived.Lib.Walk
import Derived.Lib.Hide
import Derived.Shelf.Abstract
namespace Go.Proofs.Ytdiclnkkddnncaa
open Go.RowKit
set_option linter.unusedVariables false
set_option linter.unusedSimpArgs false
@[go_sem] theorem string_geq (t : TypeId) (a b : ByteArray) : binOp .geq t (.string a) (.string b) = pure (.bool !(Op.bytesLess a.toList b.toList)) := by
  simp only [binOp, Op.stringOp]
set_option maxRecDepth 100000 in
theorem ends_any (a b : ByteArray) (w : World) : Calls Try.prog 43 #[.string a, .string b] w fun e w' => e = .returned (.int .i64 (endsR a b)) ∧ w = w' := by
  go_enter Try.func43, Try.ntmps43
  go_wp2_with (go_at_call 51; refine (cmpS_any _ _ _).mono ?_; rintro e w' ⟨rfl, rfl⟩)
  all_goals
    go_ret
    exact ⟨ret_int (by simp_all [endsR, nil?, eq?]), rfl⟩
set_option maxRecDepth 100000 in
theorem may_any (x : Lk) (w : World) : Calls Try.prog 26 #[.agg #[.int .i64 x.tx, .string x.lo, .string x.hi]] w fun e w' => e = .returned (.bool (mayL x)) ∧ Below w.heap.size w w' := by
  obtain ⟨tx, lo, hi⟩ := x
  dsimp only
  go_enter Try.func26, Try.ntmps26
  go_wp2
  all_goals
    go_ret
    exact ⟨ret_bool (by first | (simp_all [mayL, nil?, lt?]; done) | (simp_all [mayL, nil?, lt?]; intros; omega)), (by (repeat (first | (with_reducible exact Below.refl _ _) | apply below_alloc _ (Nat.le_refl _) | refine below_set ?_ (by first | exact Nat.le_refl _ | omega) | apply below_drewN | refine below_step ?_ HB)))⟩
set_option maxHeartbeats 2000000 in
set_option maxRecDepth 100000 in
theorem within_any (x y : Lk) (w : World) : Calls Try.prog 29 #[.agg #[.int .i64 x.tx, .string x.lo, .string x.hi], .agg #[.int .i64 y.tx, .string y.lo, .string y.hi]] w fun e w' => e = .returned (.bool (within x y)) ∧ Below w.heap.size w w' := by
  obtain ⟨tx, lo, hi⟩ := x
  obtain ⟨tx', lo', hi'⟩ := y
  dsimp only
  go_enter Try.func29, Try.ntmps29
  go_wp2_with (go_at_call 43; refine (ends_any _ _ _).mono ?_; rintro e w' ⟨rfl, rfl⟩)
  all_goals
    go_ret
    exact ⟨ret_bool (by first | (simp_all [within, lt?]; done) | (simp_all [within, lt?]; intros; omega)), (by (repeat (first | (with_reducible exact Below.refl _ _) | apply below_alloc _ (Nat.le_refl _) | refine below_set ?_ (by first | exact Nat.le_refl _ | omega) | apply below_drewN | refine below_step ?_ HB)))⟩
set_option maxHeartbeats 2000000 in
set_option maxRecDepth 100000 in
theorem touches_any (x y : Lk) (w : World) : Calls Try.prog 32 #[.agg #[.int .i64 x.tx, .string x.lo, .string x.hi], .agg #[.int .i64 y.tx, .string y.lo, .string y.hi]] w fun e w' => e = .returned (.bool (touches x y)) ∧ Below w.heap.size w w' := by
  obtain ⟨tx, lo, hi⟩ := x
  obtain ⟨tx', lo', hi'⟩ := y
  dsimp only
  go_enter Try.func32, Try.ntmps32
  go_wp2
  all_goals
    go_ret
    exact ⟨ret_bool (by first | (simp_all [touches, lt?, nil?]; done) | (simp_all [touches, lt?, nil?]; intros; omega)), (by (repeat (first | (with_reducible exact Below.refl _ _) | apply below_alloc _ (Nat.le_refl _) | refine below_set ?_ (by first | exact Nat.le_refl _ | omega) | apply below_drewN | refine below_step ?_ HB)))⟩
set_option maxHeartbeats 2000000 in
set_option maxRecDepth 100000 in
theorem or3_any (b : Nat) (x y z : Int) (w : World) (h0 : w.cell? ⟨b, 0, none⟩ = some (.int .i64 x)) (h1 : w.cell? ⟨b, 1, none⟩ = some (.int .i64 y)) (h2 : w.cell? ⟨b, 2, none⟩ = some (.int .i64 z)) :
    Calls Try.prog 49 #[.slice (some ⟨b, 0, none⟩) 3 3] w fun e w' => e = .returned (.int .i64 (if x ≠ 0 then x else if y ≠ 0 then y else z)) ∧ w = w' := by
  generalize hr : (if x ≠ 0 then x else if y ≠ 0 then y else z) = r
  have E1 : Hid (x ≠ 0 → r = x) := Lib.hid (fun h => by rw [← hr, if_pos h])
  have E2 : Hid (x = 0 → y ≠ 0 → r = y) := Lib.hid (fun h h' => by rw [← hr, if_neg (by simp [h]), if_pos h'])
  have E3 : Hid (x = 0 → y = 0 → r = z) := Lib.hid (fun h h' => by rw [← hr, if_neg (by simp [h]), if_neg (by simp [h'])])
  clear hr
  go_enter Try.func49, Try.ntmps49
  go_wp2_with fail
  go_loopw [8] (fun i wr => ∃ k : Nat, ((k = 0 ∧ i = .int .i64 0) ∨ (k = 1 ∧ i = .int .i64 1 ∧ Hid (x = 0)) ∨ (k = 2 ∧ i = .int .i64 2 ∧ Hid (x = 0 ∧ y = 0)) ∨ (k = 3 ∧ i = .int .i64 3 ∧ Hid (r = 0))) ∧ wr = w) (fun i _ => 3 - (Lib.intOf i).toNat)
  case atStart => exact ⟨0, .inl ⟨rfl, rfl⟩, rfl⟩
  case round =>
    obtain ⟨k, hk, rfl⟩ := hrel
    rcases hk with ⟨rfl, rfl⟩ | ⟨rfl, rfl, HX⟩ | ⟨rfl, rfl, HX⟩ | ⟨rfl, rfl, HX⟩
    · by_cases q : x = 0
      · subst q
        go_wp2
        go_roundw
        case rel => exact ⟨1, .inr (.inl ⟨rfl, rfl, Lib.hid (by trivial)⟩), by trivial⟩
        case measure => simp [Lib.intOf]
      · have q' : (x == 0) = false := by simpa using q
        have HR := Lib.hid (E1.out q)
        go_wp2
        go_ret
        exact ⟨ret_int HR.out.symm, rfl⟩
    · by_cases q : y = 0
      · subst q
        go_wp2
        go_roundw
        case rel => exact ⟨2, .inr (.inr (.inl ⟨rfl, rfl, Lib.hid ⟨HX.out, by trivial⟩⟩)), by trivial⟩
        case measure => simp [Lib.intOf]
      · have q' : (y == 0) = false := by simpa using q
        have HR := Lib.hid (E2.out HX.out q)
        go_wp2
        go_ret
        exact ⟨ret_int HR.out.symm, rfl⟩
    · have HR := Lib.hid (E3.out HX.out.1 HX.out.2)
      by_cases q : z = 0
      · subst q
        go_wp2
        go_roundw
        case rel => exact ⟨3, .inr (.inr (.inr ⟨rfl, rfl, HR⟩)), by trivial⟩
        case measure => simp [Lib.intOf]
      · have q' : (z == 0) = false := by simpa using q
        go_wp2
        go_ret
        exact ⟨ret_int HR.out.symm, rfl⟩
    · go_wp2
      go_ret
      exact ⟨ret_int HX.out.symm, rfl⟩
set_option maxHeartbeats 2000000 in
set_option maxRecDepth 100000 in
theorem lorder_any (x y : Lk) (w : World) : Calls Try.prog 35 #[.agg #[.int .i64 x.tx, .string x.lo, .string x.hi], .agg #[.int .i64 y.tx, .string y.lo, .string y.hi]] w fun e w' => e = .returned (.int .i64 (lorder x y)) ∧ Below w.heap.size w w' := by
  obtain ⟨tx, lo, hi⟩ := x
  obtain ⟨tx', lo', hi'⟩ := y
  dsimp only [lorder]
  have C1 := fun W => (cmpI_any tx tx' W).mono (R' := fun e w' => e = .returned (.int .i64 (cmpI tx tx')) ∧ w' = W) (fun _ _ h => ⟨h.1, h.2.symm⟩)
  have C2 := fun W => (cmpS_any lo lo' W).mono (R' := fun e w' => e = .returned (.int .i64 (cmpS lo lo')) ∧ w' = W) (fun _ _ h => ⟨h.1, h.2.symm⟩)
  have C3 := fun W => (ends_any hi hi' W).mono (R' := fun e w' => e = .returned (.int .i64 (endsR hi hi')) ∧ w' = W) (fun _ _ h => ⟨h.1, h.2.symm⟩)
  generalize cmpI tx tx' = a at *
  generalize cmpS lo lo' = b at *
  generalize endsR hi hi' = c at *
  have C4 := fun q W => or3_any q a b c W
  generalize (if a ≠ 0 then a else if b ≠ 0 then b else c) = r at *
  go_enter Try.func35, Try.ntmps35
  go_wp2_with fail
  refine still_tail 15 (by kernel_rfl) (by kernel_rfl) ?_
  simp only [List.take_succ_cons, List.take_zero, List.drop_succ_cons, List.drop_zero]
  iterate 4 still_step
  still_call (C1 _)
  iterate 4 still_step
  still_call (C2 _)
  iterate 4 still_step
  still_call (C3 _)
  refine wpStill_nil ?_
  go_wp2_with fail
  refine (C4 _ _ ?_ ?_ ?_).mono ?_
  · go_simp
  · go_simp
  · go_simp
  rintro e w' ⟨rfl, rfl⟩
  go_wp2
  go_ret
  exact ⟨rfl, (by (repeat (first | (with_reducible exact Below.refl _ _) | apply below_alloc _ (Nat.le_refl _) | refine below_set ?_ (by first | exact Nat.le_refl _ | omega) | apply below_drewN | refine below_step ?_ HB)))⟩
end Go.Proofs.Ytdiclnkkddnncaa
