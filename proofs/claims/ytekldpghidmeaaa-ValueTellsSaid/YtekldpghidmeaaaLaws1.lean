/- Walks of the laws of layer 1. -/
import Derived.Test.YtekldpghidmeaaaAlive
import Derived.Test.YtekldpghidmeaaaRef1c
namespace Go.Proofs.Ytekldpghidmeaaa
open Go.RowKit
set_option linter.unusedVariables false
set_option linter.unusedSimpArgs false
attribute [local go_sem high] eqVal
set_option maxRecDepth 100000 in
set_option maxHeartbeats 4000000 in
theorem tells_any (k n : Int) (s : ByteArray) (k' n' : Int) (s' : ByteArray) (w : World) (hn : InR n) (hn' : InR n') :
    Calls Try.prog 3 #[.agg #[.int .i64 k, .int .i64 n, .string s], .agg #[.int .i64 k', .int .i64 n', .string s']] w fun e w' => e = .returned (.bool true) ∧ Below w.heap.size w w' := by
  go_enter Try.func3, Try.ntmps3
  go_wp2_with fail
  refine (compare_any _ _ _ _ _ _ _).mono ?_
  rintro e w' ⟨rfl, HB⟩
  (try clear hc hf hs hz); (try clear hs0); (try clear hs1); (try clear hs2); (try clear hs3); (try clear hs4); (try clear hs5); (try clear hs6); (try clear hs7); obtain ⟨hc, hf, hs⟩ := bcell HB; have hz := HB.size; (try simp at hz); (try (rcases Nat.lt_or_ge (w.heap.size) w'.heap.size with hs0 | hs0; rotate_left; (exfalso; omega))); (try (rcases Nat.lt_or_ge (w.heap.size + 1) w'.heap.size with hs1 | hs1; rotate_left; (exfalso; omega))); (try (rcases Nat.lt_or_ge (w.heap.size + 2) w'.heap.size with hs2 | hs2; rotate_left; (exfalso; omega))); (try (rcases Nat.lt_or_ge (w.heap.size + 3) w'.heap.size with hs3 | hs3; rotate_left; (exfalso; omega))); (try (rcases Nat.lt_or_ge (w.heap.size + 4) w'.heap.size with hs4 | hs4; rotate_left; (exfalso; omega))); (try (rcases Nat.lt_or_ge (w.heap.size + 5) w'.heap.size with hs5 | hs5; rotate_left; (exfalso; omega))); (try (rcases Nat.lt_or_ge (w.heap.size + 6) w'.heap.size with hs6 | hs6; rotate_left; (exfalso; omega))); (try (rcases Nat.lt_or_ge (w.heap.size + 7) w'.heap.size with hs7 | hs7; rotate_left; (exfalso; omega)))
  go_wp2_with fail
  refine (rcompare_any _ _ _ _ _ _ _ hn hn').mono ?_
  rintro e w2 ⟨rfl, h⟩
  replace HB := below_step HB h
  clear h
  (try clear hc hf hs hz); (try clear hs0); (try clear hs1); (try clear hs2); (try clear hs3); (try clear hs4); (try clear hs5); (try clear hs6); (try clear hs7); obtain ⟨hc, hf, hs⟩ := bcell HB; have hz := HB.size; (try simp at hz); (try (rcases Nat.lt_or_ge (w.heap.size) w2.heap.size with hs0 | hs0; rotate_left; (exfalso; omega))); (try (rcases Nat.lt_or_ge (w.heap.size + 1) w2.heap.size with hs1 | hs1; rotate_left; (exfalso; omega))); (try (rcases Nat.lt_or_ge (w.heap.size + 2) w2.heap.size with hs2 | hs2; rotate_left; (exfalso; omega))); (try (rcases Nat.lt_or_ge (w.heap.size + 3) w2.heap.size with hs3 | hs3; rotate_left; (exfalso; omega))); (try (rcases Nat.lt_or_ge (w.heap.size + 4) w2.heap.size with hs4 | hs4; rotate_left; (exfalso; omega))); (try (rcases Nat.lt_or_ge (w.heap.size + 5) w2.heap.size with hs5 | hs5; rotate_left; (exfalso; omega))); (try (rcases Nat.lt_or_ge (w.heap.size + 6) w2.heap.size with hs6 | hs6; rotate_left; (exfalso; omega))); (try (rcases Nat.lt_or_ge (w.heap.size + 7) w2.heap.size with hs7 | hs7; rotate_left; (exfalso; omega)))
  go_wp2_with fail
  have qa0 := later_cell (w := w2) (a := ⟨w.heap.size, 0, none⟩) (v := .int .i64 k) (hs0) (by go_simp)
  have qa1 := later_cell (w := w2) (a := ⟨w.heap.size, 1, none⟩) (v := .int .i64 n) (hs0) (by go_simp)
  have qa2 := later_cell (w := w2) (a := ⟨w.heap.size, 2, none⟩) (v := .string s) (hs0) (by go_simp)
  have qb0 := later_cell (w := w2) (a := ⟨w.heap.size + 1, 0, none⟩) (v := .int .i64 k') (hs1) (by go_simp)
  have qb1 := later_cell (w := w2) (a := ⟨w.heap.size + 1, 1, none⟩) (v := .int .i64 n') (hs1) (by go_simp)
  have qb2 := later_cell (w := w2) (a := ⟨w.heap.size + 1, 2, none⟩) (v := .string s') (hs1) (by go_simp)
  have HF : Below w.heap.size w w2 := (by (repeat (first | (with_reducible exact Below.refl _ _) | apply below_alloc _ (Nat.le_refl _) | refine below_set ?_ (by first | exact Nat.le_refl _ | omega) | apply below_drewN | refine below_step ?_ HB)))
  clear hc hf hs hz HB hs0 hs1
  (refine wp_region_later (by kernel_rfl) (by kernel_rfl) ?_
   repeat (first | go_big_quiet_step ((first | (go_at_call 12; exact later_same (num_any _ _)) | (go_at_call 13; exact later_of (check_any _ _ _ _)) | (go_at_call 14; exact later_of (rcheck_any _ _ _ _ (by assumption))) | (go_at_call 15; exact later_of (order_any _ _ _ _ _ _ _)) | (go_at_call 16; exact later_of (rorder_any _ _ _ _ _ _ _)) | (go_at_call 17; exact later_of (alive_any _)))) | quiet_step ((first | (go_at_call 12; exact later_same (num_any _ _)) | (go_at_call 13; exact later_of (check_any _ _ _ _)) | (go_at_call 14; exact later_of (rcheck_any _ _ _ _ (by assumption))) | (go_at_call 15; exact later_of (order_any _ _ _ _ _ _ _)) | (go_at_call 16; exact later_of (rorder_any _ _ _ _ _ _ _)) | (go_at_call 17; exact later_of (alive_any _)))))
   refine wpQuiet_nil ?_
   intro _ hw'
   obtain ⟨qL, hw''⟩ := hw'
   subst hw''
   obtain ⟨wL, h⟩ := qL)
  go_wp2
  go_ret
  exact ⟨by rfl, below_step HF h⟩
end Go.Proofs.Ytekldpghidmeaaa
