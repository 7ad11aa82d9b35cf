/- Walks of the document's answer for layer 1 (switchbackref01), the ops: the same plain functions. -/
import Derived.Test.YtekldpghidmeaaaRef1
namespace Go.Proofs.Ytekldpghidmeaaa
open Go.RowKit
set_option linter.unusedVariables false
set_option linter.unusedSimpArgs false
attribute [local go_sem high] eqVal
theorem vfit_two (kind : Int) (a b : V) : vfit kind false [a, b] = if rfits kind a = true ∧ rfits kind b = true then (a.k == 0 || b.k == 0, 0) else (false, 81) := by
  unfold vfit vfit vfit rfits
  by_cases h1 : vcheck a = 0 <;> by_cases h2 : a.k = 0 <;> by_cases h3 : a.k = kind <;> by_cases h4 : vcheck b = 0 <;> by_cases h5 : b.k = 0 <;> by_cases h6 : b.k = kind <;> simp_all
theorem vfit_one (kind : Int) (a : V) : vfit kind false [a] = if rfits kind a = true then (a.k == 0, 0) else (false, 81) := by
  unfold vfit vfit rfits
  by_cases h1 : vcheck a = 0 <;> by_cases h2 : a.k = 0 <;> by_cases h3 : a.k = kind <;> simp_all
set_option maxRecDepth 100000 in
set_option maxHeartbeats 4000000 in
theorem rReckon_num (op k n : Int) (s : ByteArray) (k' n' : Int) (s' : ByteArray) (w : World) (hn : InR n) (hn' : InR n') (g1 : 4 ≤ op) (g2 : op ≤ 7) :
    Calls Try.prog 20 #[.int .i64 op, .agg #[.int .i64 k, .int .i64 n, .string s], .agg #[.int .i64 k', .int .i64 n', .string s']] w fun e w' => e = .returned (.tuple #[.agg #[.int .i64 (vreckon op ⟨k, n, s⟩ ⟨k', n', s'⟩).1.k, .int .i64 (vreckon op ⟨k, n, s⟩ ⟨k', n', s'⟩).1.n, .string (vreckon op ⟨k, n, s⟩ ⟨k', n', s'⟩).1.s], .int .i64 (vreckon op ⟨k, n, s⟩ ⟨k', n', s'⟩).2]) ∧ Below w.heap.size w w' := by
  generalize hR : vreckon op ⟨k, n, s⟩ ⟨k', n', s'⟩ = R
  have HV : Hid (R = _) := Lib.hid (by rw [← hR, vreckon, if_neg (by omega), if_pos g2, vfit_two])
  clear hR
  have h2 : op ≤ 13 := by omega
  generalize hA : rfits 1 ⟨k, n, s⟩ = A at *
  generalize hB : rfits 1 ⟨k', n', s'⟩ = B at *
  have fA : ∀ W, Calls Try.prog 32 #[.agg #[.int .i64 k, .int .i64 n, .string s], .int .i64 1] W fun e w' => e = .returned (.bool A) ∧ Below W.heap.size W w' := fun W => by rw [← hA]; exact rfits_any _ _ _ _ _ hn
  have fB : ∀ W, Calls Try.prog 32 #[.agg #[.int .i64 k', .int .i64 n', .string s'], .int .i64 1] W fun e w' => e = .returned (.bool B) ∧ Below W.heap.size W w' := fun W => by rw [← hB]; exact rfits_any _ _ _ _ _ hn'
  clear hA hB
  go_enter Try.func20, Try.ntmps20
  go_wp2_with fail
  refine (fA _).mono ?_
  rintro e w' ⟨rfl, HB⟩
  (try clear hc hf hs hz); (try clear hs0); (try clear hs1); (try clear hs2); (try clear hs3); (try clear hs4); (try clear hs5); (try clear hs6); (try clear hs7); obtain ⟨hc, hf, hs⟩ := bcell HB; have hz := HB.size; (try simp at hz); (try (rcases Nat.lt_or_ge (w.heap.size) w'.heap.size with hs0 | hs0; rotate_left; (exfalso; omega))); (try (rcases Nat.lt_or_ge (w.heap.size + 1) w'.heap.size with hs1 | hs1; rotate_left; (exfalso; omega))); (try (rcases Nat.lt_or_ge (w.heap.size + 2) w'.heap.size with hs2 | hs2; rotate_left; (exfalso; omega))); (try (rcases Nat.lt_or_ge (w.heap.size + 3) w'.heap.size with hs3 | hs3; rotate_left; (exfalso; omega))); (try (rcases Nat.lt_or_ge (w.heap.size + 4) w'.heap.size with hs4 | hs4; rotate_left; (exfalso; omega))); (try (rcases Nat.lt_or_ge (w.heap.size + 5) w'.heap.size with hs5 | hs5; rotate_left; (exfalso; omega))); (try (rcases Nat.lt_or_ge (w.heap.size + 6) w'.heap.size with hs6 | hs6; rotate_left; (exfalso; omega))); (try (rcases Nat.lt_or_ge (w.heap.size + 7) w'.heap.size with hs7 | hs7; rotate_left; (exfalso; omega)))
  cases A
  · go_wp2_with fail
    refine bodyPost_ret (v := .tuple #[.agg #[.int .i64 R.1.k, .int .i64 R.1.n, .string R.1.s], .int .i64 R.2]) ?_ rfl ⟨rfl, (by (repeat (first | (with_reducible exact Below.refl _ _) | apply below_alloc _ (Nat.le_refl _) | refine below_set ?_ (by first | exact Nat.le_refl _ | omega) | apply below_drewN | refine below_step ?_ HB)))⟩
    rw [HV.out]
    simp [results, Try.results20, go_sem, hc, hf, V.nul]
  · go_wp2_with fail
    refine (fB _).mono ?_
    rintro e w2 ⟨rfl, hb⟩
    replace HB := below_step HB hb
    clear hb
    (try clear hc hf hs hz); (try clear hs0); (try clear hs1); (try clear hs2); (try clear hs3); (try clear hs4); (try clear hs5); (try clear hs6); (try clear hs7); obtain ⟨hc, hf, hs⟩ := bcell HB; have hz := HB.size; (try simp at hz); (try (rcases Nat.lt_or_ge (w.heap.size) w2.heap.size with hs0 | hs0; rotate_left; (exfalso; omega))); (try (rcases Nat.lt_or_ge (w.heap.size + 1) w2.heap.size with hs1 | hs1; rotate_left; (exfalso; omega))); (try (rcases Nat.lt_or_ge (w.heap.size + 2) w2.heap.size with hs2 | hs2; rotate_left; (exfalso; omega))); (try (rcases Nat.lt_or_ge (w.heap.size + 3) w2.heap.size with hs3 | hs3; rotate_left; (exfalso; omega))); (try (rcases Nat.lt_or_ge (w.heap.size + 4) w2.heap.size with hs4 | hs4; rotate_left; (exfalso; omega))); (try (rcases Nat.lt_or_ge (w.heap.size + 5) w2.heap.size with hs5 | hs5; rotate_left; (exfalso; omega))); (try (rcases Nat.lt_or_ge (w.heap.size + 6) w2.heap.size with hs6 | hs6; rotate_left; (exfalso; omega))); (try (rcases Nat.lt_or_ge (w.heap.size + 7) w2.heap.size with hs7 | hs7; rotate_left; (exfalso; omega)))
    cases B
    · go_wp2_with fail
      refine bodyPost_ret (v := .tuple #[.agg #[.int .i64 R.1.k, .int .i64 R.1.n, .string R.1.s], .int .i64 R.2]) ?_ rfl ⟨rfl, (by (repeat (first | (with_reducible exact Below.refl _ _) | apply below_alloc _ (Nat.le_refl _) | refine below_set ?_ (by first | exact Nat.le_refl _ | omega) | apply below_drewN | refine below_step ?_ HB)))⟩
      rw [HV.out]
      simp [results, Try.results20, go_sem, hc, hf, V.nul]
    · by_cases q : k = 0 ∨ k' = 0
      · have HV2 : Hid (R = (.nul, 0)) := Lib.hid (by rw [HV.out]; rcases q with q | q <;> simp [q])
        clear HV
        rcases q with q | q
        · have q1 : (k == 0) = true := by simpa using q
          clear q
          go_wp2_with fail
          refine bodyPost_ret (v := .tuple #[.agg #[.int .i64 R.1.k, .int .i64 R.1.n, .string R.1.s], .int .i64 R.2]) ?_ rfl ⟨rfl, (by (repeat (first | (with_reducible exact Below.refl _ _) | apply below_alloc _ (Nat.le_refl _) | refine below_set ?_ (by first | exact Nat.le_refl _ | omega) | apply below_drewN | refine below_step ?_ HB)))⟩
          rw [HV2.out]
          simp [results, Try.results20, go_sem, hc, hf, V.nul]
        · have q1 : (k' == 0) = true := by simpa using q
          clear q
          go_wp2_with fail
          all_goals
            refine bodyPost_ret (v := .tuple #[.agg #[.int .i64 R.1.k, .int .i64 R.1.n, .string R.1.s], .int .i64 R.2]) ?_ rfl ⟨rfl, (by (repeat (first | (with_reducible exact Below.refl _ _) | apply below_alloc _ (Nat.le_refl _) | refine below_set ?_ (by first | exact Nat.le_refl _ | omega) | apply below_drewN | refine below_step ?_ HB)))⟩
            rw [HV2.out]
            simp [results, Try.results20, go_sem, hc, hf, V.nul]
      · have HV2 : Hid (R = if (nreckon op n n').2 ≠ 0 then (.nul, (nreckon op n n').2) else (.num (nreckon op n n').1, 0)) := Lib.hid (by rw [HV.out]; have p1 : k ≠ 0 := fun e => q (.inl e); have p2 : k' ≠ 0 := fun e => q (.inr e); simp [p1, p2])
        clear HV
        have q1 : (k == 0) = false := by simp; intro e; exact q (.inl e)
        have q2 : (k' == 0) = false := by simp; intro e; exact q (.inr e)
        clear q
        by_cases z : op = 7 ∧ n' = 0
        · obtain ⟨rfl, rfl⟩ := z
          go_wp2_with fail
          refine bodyPost_ret (v := .tuple #[.agg #[.int .i64 R.1.k, .int .i64 R.1.n, .string R.1.s], .int .i64 R.2]) ?_ rfl ⟨rfl, (by (repeat (first | (with_reducible exact Below.refl _ _) | apply below_alloc _ (Nat.le_refl _) | refine below_set ?_ (by first | exact Nat.le_refl _ | omega) | apply below_drewN | refine below_step ?_ HB)))⟩
          rw [HV2.out]
          simp [results, Try.results20, go_sem, hc, hf, V.nul, nreckon]
        · by_cases e : op = 7
          · have z3 : n' ≠ 0 := fun k => z ⟨e, k⟩
            have z4 : (n' == 0) = false := by simpa using z3
            clear z
            subst e
            have cN := fun W => rnumber_any 7 n n' W ⟨by omega, by omega⟩ hn hn' (fun _ => by first | exact z3 | omega)
            go_wp2_with (go_at_call 33; refine (cN _).mono ?_; rintro e w3 ⟨c, ok, rfl, hM, hb⟩; replace HB := below_step HB hb; clear hb; (try clear hc hf hs hz); (try clear hs0); (try clear hs1); (try clear hs2); (try clear hs3); (try clear hs4); (try clear hs5); (try clear hs6); (try clear hs7); obtain ⟨hc, hf, hs⟩ := bcell HB; have hz := HB.size; (try simp at hz); (try (rcases Nat.lt_or_ge (w.heap.size) w3.heap.size with hs0 | hs0; rotate_left; (exfalso; omega))); (try (rcases Nat.lt_or_ge (w.heap.size + 1) w3.heap.size with hs1 | hs1; rotate_left; (exfalso; omega))); (try (rcases Nat.lt_or_ge (w.heap.size + 2) w3.heap.size with hs2 | hs2; rotate_left; (exfalso; omega))); (try (rcases Nat.lt_or_ge (w.heap.size + 3) w3.heap.size with hs3 | hs3; rotate_left; (exfalso; omega))); (try (rcases Nat.lt_or_ge (w.heap.size + 4) w3.heap.size with hs4 | hs4; rotate_left; (exfalso; omega))); (try (rcases Nat.lt_or_ge (w.heap.size + 5) w3.heap.size with hs5 | hs5; rotate_left; (exfalso; omega))); (try (rcases Nat.lt_or_ge (w.heap.size + 6) w3.heap.size with hs6 | hs6; rotate_left; (exfalso; omega))); (try (rcases Nat.lt_or_ge (w.heap.size + 7) w3.heap.size with hs7 | hs7; rotate_left; (exfalso; omega))); have HM := Lib.hid hM; clear hM; cases ok)
            all_goals
              refine bodyPost_ret (v := .tuple #[.agg #[.int .i64 R.1.k, .int .i64 R.1.n, .string R.1.s], .int .i64 R.2]) ?_ rfl ⟨rfl, (by (repeat (first | (with_reducible exact Below.refl _ _) | apply below_alloc _ (Nat.le_refl _) | refine below_set ?_ (by first | exact Nat.le_refl _ | omega) | apply below_drewN | refine below_step ?_ HB)))⟩
              rw [HV2.out]
              rw [HM.out]
              simp [results, Try.results20, go_sem, hc, hf, V.nul, V.num]
          · have z1 : (op == 7) = false := by simpa using e
            have z3 : True := trivial
            clear z
            have cN := fun W => rnumber_any op n n' W ⟨by omega, by omega⟩ hn hn' (fun k => absurd k e)
            go_wp2_with (go_at_call 33; refine (cN _).mono ?_; rintro e w3 ⟨c, ok, rfl, hM, hb⟩; replace HB := below_step HB hb; clear hb; (try clear hc hf hs hz); (try clear hs0); (try clear hs1); (try clear hs2); (try clear hs3); (try clear hs4); (try clear hs5); (try clear hs6); (try clear hs7); obtain ⟨hc, hf, hs⟩ := bcell HB; have hz := HB.size; (try simp at hz); (try (rcases Nat.lt_or_ge (w.heap.size) w3.heap.size with hs0 | hs0; rotate_left; (exfalso; omega))); (try (rcases Nat.lt_or_ge (w.heap.size + 1) w3.heap.size with hs1 | hs1; rotate_left; (exfalso; omega))); (try (rcases Nat.lt_or_ge (w.heap.size + 2) w3.heap.size with hs2 | hs2; rotate_left; (exfalso; omega))); (try (rcases Nat.lt_or_ge (w.heap.size + 3) w3.heap.size with hs3 | hs3; rotate_left; (exfalso; omega))); (try (rcases Nat.lt_or_ge (w.heap.size + 4) w3.heap.size with hs4 | hs4; rotate_left; (exfalso; omega))); (try (rcases Nat.lt_or_ge (w.heap.size + 5) w3.heap.size with hs5 | hs5; rotate_left; (exfalso; omega))); (try (rcases Nat.lt_or_ge (w.heap.size + 6) w3.heap.size with hs6 | hs6; rotate_left; (exfalso; omega))); (try (rcases Nat.lt_or_ge (w.heap.size + 7) w3.heap.size with hs7 | hs7; rotate_left; (exfalso; omega))); have HM := Lib.hid hM; clear hM; cases ok)
            all_goals
              refine bodyPost_ret (v := .tuple #[.agg #[.int .i64 R.1.k, .int .i64 R.1.n, .string R.1.s], .int .i64 R.2]) ?_ rfl ⟨rfl, (by (repeat (first | (with_reducible exact Below.refl _ _) | apply below_alloc _ (Nat.le_refl _) | refine below_set ?_ (by first | exact Nat.le_refl _ | omega) | apply below_drewN | refine below_step ?_ HB)))⟩
              rw [HV2.out]
              rw [HM.out]
              simp [results, Try.results20, go_sem, hc, hf, V.nul, V.num]
end Go.Proofs.Ytekldpghidmeaaa
