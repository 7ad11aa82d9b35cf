/- Walks of the laws' helpers of layer 1: the page's examples. -/
import Derived.Test.YtekldpghidmeaaaVal4
import Derived.Test.YtekldpghidmeaaaLater
namespace Go.Proofs.Ytekldpghidmeaaa
open Go.RowKit
set_option linter.unusedVariables false
set_option linter.unusedSimpArgs false
attribute [local go_sem high] eqVal
theorem num_any (a : Int) (w : World) : Calls Try.prog 12 #[.int .i64 a] w fun e w' => e = .returned (.int .i64 a) ∧ w = w' := by
  go_enter Try.func12, Try.ntmps12
  go_wp2
  go_ret
  exact ⟨rfl, rfl⟩
theorem number_any (n : Int) (w : World) : Calls Try.prog 19 #[.int .i64 n] w fun e w' => e = .returned (.agg #[.int .i64 1, .int .i64 n, .string ⟨#[]⟩]) ∧ Below w.heap.size w w' := by
  go_enter Try.func19, Try.ntmps19
  go_wp2
  exact bodyPost_ret (v := .agg #[.int .i64 1, .int .i64 n, .string ⟨#[]⟩]) (by simp [results, Try.results19, go_sem]) rfl ⟨rfl, (by (repeat (first | (with_reducible exact Below.refl _ _) | apply below_alloc _ (Nat.le_refl _) | refine below_set ?_ (by first | exact Nat.le_refl _ | omega) | apply below_drewN | refine below_step ?_ HB)))⟩
theorem no_any (w : World) : Calls Try.prog 28 #[] w fun e w' => e = .returned (.agg #[.int .i64 2, .int .i64 0, .string ⟨#[]⟩]) ∧ Below w.heap.size w w' := by
  go_enter Try.func28, Try.ntmps28
  go_wp2
  exact bodyPost_ret (v := .agg #[.int .i64 2, .int .i64 0, .string ⟨#[]⟩]) (by simp [results, Try.results28, go_sem]) rfl ⟨rfl, (by (repeat (first | (with_reducible exact Below.refl _ _) | apply below_alloc _ (Nat.le_refl _) | refine below_set ?_ (by first | exact Nat.le_refl _ | omega) | apply below_drewN | refine below_step ?_ HB)))⟩
theorem ex1 : vreckon 4 ⟨1, 9223372036854775807, ⟨#[]⟩⟩ ⟨1, 1, ⟨#[]⟩⟩ = (.nul, 84) := by kernel_rfl
theorem ex2 : vand ⟨0, 0, ⟨#[]⟩⟩ ⟨2, 0, ⟨#[]⟩⟩ = (⟨2, 0, ⟨#[]⟩⟩, 0) := by kernel_rfl
theorem ex3 : vreckon 7 ⟨1, -7, ⟨#[]⟩⟩ ⟨1, 2, ⟨#[]⟩⟩ = (⟨1, -3, ⟨#[]⟩⟩, 0) := by kernel_rfl
set_option maxRecDepth 100000 in
set_option maxHeartbeats 4000000 in
theorem alive_any (w : World) : Calls Try.prog 17 #[] w fun e w' => e = .returned (.bool true) ∧ Below w.heap.size w w' := by
  have c1 := fun W => Reckon_any 4 1 9223372036854775807 ⟨#[]⟩ 1 1 ⟨#[]⟩ W ⟨by omega, by omega⟩ ⟨by omega, by omega⟩
  have c2 := fun W => and_any 0 0 ⟨#[]⟩ 2 0 ⟨#[]⟩ W
  have c3 := fun W => Reckon_any 7 1 (-7) ⟨#[]⟩ 1 2 ⟨#[]⟩ W ⟨by omega, by omega⟩ ⟨by omega, by omega⟩
  rw [ex1] at c1
  rw [ex2] at c2
  rw [ex3] at c3
  have C1 := Lib.hid c1
  have C2 := Lib.hid c2
  have C3 := Lib.hid c3
  clear c1 c2 c3
  go_enter Try.func17, Try.ntmps17
  go_wp2_with fail
  refine (number_any _ _).mono ?_; rintro e w1 ⟨rfl, H1⟩
  go_wp2_with fail
  refine (number_any _ _).mono ?_; rintro e w2 ⟨rfl, h⟩
  replace H1 := below_step H1 h
  clear h
  go_wp2_with fail
  refine (C1.out _).mono ?_; rintro e w3 ⟨rfl, h⟩
  replace H1 := below_step H1 h
  clear h C1
  go_wp2_with fail
  refine (no_any _).mono ?_; rintro e w4 ⟨rfl, h⟩
  replace H1 := below_step (by first | exact H1 | exact below_alloc H1 (Nat.le_refl _) _) h
  clear h
  go_wp2_with fail
  refine (C2.out _).mono ?_; rintro e w5 ⟨rfl, h⟩
  replace H1 := below_step H1 h
  clear h C2
  go_wp2_with fail
  refine (number_any _ _).mono ?_; rintro e w6 ⟨rfl, H6⟩
  replace H1 := below_step (by first | exact H1 | exact below_alloc H1 (Nat.le_refl _) _) H6
  go_wp2_with fail
  refine (number_any _ _).mono ?_; rintro e w7 ⟨rfl, h⟩
  replace H1 := below_step H1 h
  replace H6 := below_step H6 h
  clear h
  go_wp2_with fail
  refine (C3.out _).mono ?_; rintro e w8 ⟨rfl, h⟩
  replace H1 := below_step H1 h
  replace H6 := below_step H6 h
  clear h C3
  obtain ⟨hc, hf, hs⟩ := bcell H6
  have hz := hs w5.heap.size (by simp)
  go_wp2_with fail
  have k0 : (w8.alloc (Obj.cells #[Value.int IntKind.i64 1, Value.int IntKind.i64 (-3), Value.string ⟨#[]⟩] 23)).cell? ⟨w5.heap.size, 0, none⟩ = some (.int .i64 2) := by go_simp
  have k1 : (w8.alloc (Obj.cells #[Value.int IntKind.i64 1, Value.int IntKind.i64 (-3), Value.string ⟨#[]⟩] 23)).cell? ⟨w5.heap.size, 1, none⟩ = some (.int .i64 0) := by go_simp
  have k2 : (w8.alloc (Obj.cells #[Value.int IntKind.i64 1, Value.int IntKind.i64 (-3), Value.string ⟨#[]⟩] 23)).cell? ⟨w5.heap.size, 2, none⟩ = some (.string ⟨#[]⟩) := by go_simp
  have k3 : (w8.alloc (Obj.cells #[Value.int IntKind.i64 1, Value.int IntKind.i64 (-3), Value.string ⟨#[]⟩] 23)).cell? ⟨w8.heap.size, 0, none⟩ = some (.int .i64 1) := by go_simp
  have k4 : (w8.alloc (Obj.cells #[Value.int IntKind.i64 1, Value.int IntKind.i64 (-3), Value.string ⟨#[]⟩] 23)).cell? ⟨w8.heap.size, 1, none⟩ = some (.int .i64 (-3)) := by go_simp
  have k5 : (w8.alloc (Obj.cells #[Value.int IntKind.i64 1, Value.int IntKind.i64 (-3), Value.string ⟨#[]⟩] 23)).cell? ⟨w8.heap.size, 2, none⟩ = some (.string ⟨#[]⟩) := by go_simp
  have b5 : w5.heap.size < (w8.alloc (Obj.cells #[Value.int IntKind.i64 1, Value.int IntKind.i64 (-3), Value.string ⟨#[]⟩] 23)).heap.size := by simp; omega
  have b8 : w8.heap.size < (w8.alloc (Obj.cells #[Value.int IntKind.i64 1, Value.int IntKind.i64 (-3), Value.string ⟨#[]⟩] 23)).heap.size := by simp
  have HF : Below w.heap.size w (w8.alloc (Obj.cells #[Value.int IntKind.i64 1, Value.int IntKind.i64 (-3), Value.string ⟨#[]⟩] 23)) := below_alloc (below_step (below_step (Below.refl _ _) (Below.refl _ _)) H1) (Nat.le_refl _) _
  clear hc hf hs hz H1 H6
  generalize w8.alloc (Obj.cells #[Value.int IntKind.i64 1, Value.int IntKind.i64 (-3), Value.string ⟨#[]⟩] 23) = w9 at *
  have q0 := later_cell (b5) k0
  have q1 := later_cell (b5) k1
  have q2 := later_cell (b5) k2
  have q3 := later_cell (b8) k3
  have q4 := later_cell (b8) k4
  have q5 := later_cell (b8) k5
  clear k0 k1 k2 k3 k4 k5
  have e1 : sameB 2 0 ⟨#[]⟩ 2 0 ⟨#[]⟩ = true := by simp [sameB]
  have e2 : sameB 1 (-3) ⟨#[]⟩ 1 (-3) ⟨#[]⟩ = true := by simp [sameB]
  (refine wp_region_later (by kernel_rfl) (by kernel_rfl) ?_
   repeat (first | go_big_quiet_step ((first | (go_at_call 12; exact later_same (num_any _ _)) | (go_at_call 28; exact later_of (no_any _)) | (go_at_call 19; exact later_of (number_any _ _)))) | quiet_step ((first | (go_at_call 12; exact later_same (num_any _ _)) | (go_at_call 28; exact later_of (no_any _)) | (go_at_call 19; exact later_of (number_any _ _)))))
   refine wpQuiet_nil ?_
   intro _ hw'
   obtain ⟨qL, hw''⟩ := hw'
   subst hw''
   obtain ⟨wL, h⟩ := qL)
  go_wp2
  go_ret
  exact ⟨by rfl, below_step HF h⟩
end Go.Proofs.Ytekldpghidmeaaa
