/- Walks of package value (layer 1): Neg, Not, And, Or. -/
import Derived.Test.YtekldpghidmeaaaVal3
namespace Go.Proofs.Ytekldpghidmeaaa
open Go.RowKit
set_option linter.unusedVariables false
set_option linter.unusedSimpArgs false
attribute [local go_sem high] eqVal
set_option maxRecDepth 100000 in
set_option maxHeartbeats 4000000 in
theorem not_any (k n : Int) (s : ByteArray) (w : World) :
    Calls Try.prog 25 #[.agg #[.int .i64 k, .int .i64 n, .string s]] w fun e w' => e = .returned (.tuple #[.agg #[.int .i64 (vnot ⟨k, n, s⟩).1.k, .int .i64 (vnot ⟨k, n, s⟩).1.n, .string (vnot ⟨k, n, s⟩).1.s], .int .i64 (vnot ⟨k, n, s⟩).2]) ∧ Below w.heap.size w w' := by
  generalize hR : vnot ⟨k, n, s⟩ = R
  have HV : Hid (R = _) := Lib.hid (by rw [← hR, vnot])
  clear hR
  go_enter Try.func25, Try.ntmps25
  go_wp2_with fail
  refine (fit_any 2 [⟨k, n, s⟩] _ _ _ (by simp) (by simp) (hasVals_new1 (by simp))).mono ?_
  rintro e w' ⟨rfl, HB⟩
  (try clear hc hf hs hz); (try clear hs0); (try clear hs1); (try clear hs2); (try clear hs3); (try clear hs4); (try clear hs5); (try clear hs6); (try clear hs7); obtain ⟨hc, hf, hs⟩ := bcell HB; have hz := HB.size; (try simp at hz); (try (rcases Nat.lt_or_ge (w.heap.size) w'.heap.size with hs0 | hs0; rotate_left; (exfalso; omega))); (try (rcases Nat.lt_or_ge (w.heap.size + 1) w'.heap.size with hs1 | hs1; rotate_left; (exfalso; omega))); (try (rcases Nat.lt_or_ge (w.heap.size + 2) w'.heap.size with hs2 | hs2; rotate_left; (exfalso; omega))); (try (rcases Nat.lt_or_ge (w.heap.size + 3) w'.heap.size with hs3 | hs3; rotate_left; (exfalso; omega))); (try (rcases Nat.lt_or_ge (w.heap.size + 4) w'.heap.size with hs4 | hs4; rotate_left; (exfalso; omega))); (try (rcases Nat.lt_or_ge (w.heap.size + 5) w'.heap.size with hs5 | hs5; rotate_left; (exfalso; omega))); (try (rcases Nat.lt_or_ge (w.heap.size + 6) w'.heap.size with hs6 | hs6; rotate_left; (exfalso; omega))); (try (rcases Nat.lt_or_ge (w.heap.size + 7) w'.heap.size with hs7 | hs7; rotate_left; (exfalso; omega)))
  generalize vfit 2 false [⟨k, n, s⟩] = F at *
  go_wp2_with (go_at_call 31; refine (bool_any _ _).mono ?_; rintro e w2 ⟨rfl, hb⟩; replace HB := below_step HB hb; clear hb; (try clear hc hf hs hz); (try clear hs0); (try clear hs1); (try clear hs2); (try clear hs3); (try clear hs4); (try clear hs5); (try clear hs6); (try clear hs7); obtain ⟨hc, hf, hs⟩ := bcell HB; have hz := HB.size; (try simp at hz); (try (rcases Nat.lt_or_ge (w.heap.size) w'.heap.size with hs0 | hs0; rotate_left; (exfalso; omega))); (try (rcases Nat.lt_or_ge (w.heap.size + 1) w'.heap.size with hs1 | hs1; rotate_left; (exfalso; omega))); (try (rcases Nat.lt_or_ge (w.heap.size + 2) w'.heap.size with hs2 | hs2; rotate_left; (exfalso; omega))); (try (rcases Nat.lt_or_ge (w.heap.size + 3) w'.heap.size with hs3 | hs3; rotate_left; (exfalso; omega))); (try (rcases Nat.lt_or_ge (w.heap.size + 4) w'.heap.size with hs4 | hs4; rotate_left; (exfalso; omega))); (try (rcases Nat.lt_or_ge (w.heap.size + 5) w'.heap.size with hs5 | hs5; rotate_left; (exfalso; omega))); (try (rcases Nat.lt_or_ge (w.heap.size + 6) w'.heap.size with hs6 | hs6; rotate_left; (exfalso; omega))); (try (rcases Nat.lt_or_ge (w.heap.size + 7) w'.heap.size with hs7 | hs7; rotate_left; (exfalso; omega))))
  all_goals
    refine bodyPost_ret (v := .tuple #[.agg #[.int .i64 R.1.k, .int .i64 R.1.n, .string R.1.s], .int .i64 R.2]) ?_ rfl ⟨rfl, (by (repeat (first | (with_reducible exact Below.refl _ _) | apply below_alloc _ (Nat.le_refl _) | refine below_set ?_ (by first | exact Nat.le_refl _ | omega) | apply below_drewN | refine below_step ?_ HB)))⟩
    rw [HV.out]
    simp_all [results, Try.results25, go_sem, V.nul]
set_option maxRecDepth 100000 in
set_option maxHeartbeats 4000000 in
theorem and_any (k n : Int) (s : ByteArray) (k' n' : Int) (s' : ByteArray) (w : World) :
    Calls Try.prog 23 #[.agg #[.int .i64 k, .int .i64 n, .string s], .agg #[.int .i64 k', .int .i64 n', .string s']] w fun e w' => e = .returned (.tuple #[.agg #[.int .i64 (vand ⟨k, n, s⟩ ⟨k', n', s'⟩).1.k, .int .i64 (vand ⟨k, n, s⟩ ⟨k', n', s'⟩).1.n, .string (vand ⟨k, n, s⟩ ⟨k', n', s'⟩).1.s], .int .i64 (vand ⟨k, n, s⟩ ⟨k', n', s'⟩).2]) ∧ Below w.heap.size w w' := by
  generalize hR : vand ⟨k, n, s⟩ ⟨k', n', s'⟩ = R
  have HV : Hid (R = _) := Lib.hid (by rw [← hR, vand])
  clear hR
  go_enter Try.func23, Try.ntmps23
  go_wp2_with fail
  refine (fit_any 2 [⟨k, n, s⟩, ⟨k', n', s'⟩] _ _ _ (by simp) (by simp) (hasVals_new2 (by simp))).mono ?_
  rintro e w' ⟨rfl, HB⟩
  (try clear hc hf hs hz); (try clear hs0); (try clear hs1); (try clear hs2); (try clear hs3); (try clear hs4); (try clear hs5); (try clear hs6); (try clear hs7); obtain ⟨hc, hf, hs⟩ := bcell HB; have hz := HB.size; (try simp at hz); (try (rcases Nat.lt_or_ge (w.heap.size) w'.heap.size with hs0 | hs0; rotate_left; (exfalso; omega))); (try (rcases Nat.lt_or_ge (w.heap.size + 1) w'.heap.size with hs1 | hs1; rotate_left; (exfalso; omega))); (try (rcases Nat.lt_or_ge (w.heap.size + 2) w'.heap.size with hs2 | hs2; rotate_left; (exfalso; omega))); (try (rcases Nat.lt_or_ge (w.heap.size + 3) w'.heap.size with hs3 | hs3; rotate_left; (exfalso; omega))); (try (rcases Nat.lt_or_ge (w.heap.size + 4) w'.heap.size with hs4 | hs4; rotate_left; (exfalso; omega))); (try (rcases Nat.lt_or_ge (w.heap.size + 5) w'.heap.size with hs5 | hs5; rotate_left; (exfalso; omega))); (try (rcases Nat.lt_or_ge (w.heap.size + 6) w'.heap.size with hs6 | hs6; rotate_left; (exfalso; omega))); (try (rcases Nat.lt_or_ge (w.heap.size + 7) w'.heap.size with hs7 | hs7; rotate_left; (exfalso; omega)))
  generalize vfit 2 false [⟨k, n, s⟩, ⟨k', n', s'⟩] = F at *
  go_wp2_with (go_at_call 31; refine (bool_any _ _).mono ?_; rintro e w' ⟨rfl, hb⟩; replace HB := below_step (below_alloc HB (Nat.le_refl _) _) hb; clear hb; (try clear hc hf hs hz); (try clear hs0); (try clear hs1); (try clear hs2); (try clear hs3); (try clear hs4); (try clear hs5); (try clear hs6); (try clear hs7); obtain ⟨hc, hf, hs⟩ := bcell HB; have hz := HB.size; (try simp at hz); (try (rcases Nat.lt_or_ge (w.heap.size) w'.heap.size with hs0 | hs0; rotate_left; (exfalso; omega))); (try (rcases Nat.lt_or_ge (w.heap.size + 1) w'.heap.size with hs1 | hs1; rotate_left; (exfalso; omega))); (try (rcases Nat.lt_or_ge (w.heap.size + 2) w'.heap.size with hs2 | hs2; rotate_left; (exfalso; omega))); (try (rcases Nat.lt_or_ge (w.heap.size + 3) w'.heap.size with hs3 | hs3; rotate_left; (exfalso; omega))); (try (rcases Nat.lt_or_ge (w.heap.size + 4) w'.heap.size with hs4 | hs4; rotate_left; (exfalso; omega))); (try (rcases Nat.lt_or_ge (w.heap.size + 5) w'.heap.size with hs5 | hs5; rotate_left; (exfalso; omega))); (try (rcases Nat.lt_or_ge (w.heap.size + 6) w'.heap.size with hs6 | hs6; rotate_left; (exfalso; omega))); (try (rcases Nat.lt_or_ge (w.heap.size + 7) w'.heap.size with hs7 | hs7; rotate_left; (exfalso; omega))))
  all_goals
    refine bodyPost_ret (v := .tuple #[.agg #[.int .i64 R.1.k, .int .i64 R.1.n, .string R.1.s], .int .i64 R.2]) ?_ rfl ⟨rfl, (by (repeat (first | (with_reducible exact Below.refl _ _) | apply below_alloc _ (Nat.le_refl _) | refine below_set ?_ (by first | exact Nat.le_refl _ | omega) | apply below_drewN | refine below_step ?_ HB)))⟩
    rw [HV.out]
    clear HV HB hs
    simp_all [results, Try.results23, go_sem, V.nul, V.same, vbool]
set_option maxRecDepth 100000 in
set_option maxHeartbeats 4000000 in
theorem or_any (k n : Int) (s : ByteArray) (k' n' : Int) (s' : ByteArray) (w : World) :
    Calls Try.prog 24 #[.agg #[.int .i64 k, .int .i64 n, .string s], .agg #[.int .i64 k', .int .i64 n', .string s']] w fun e w' => e = .returned (.tuple #[.agg #[.int .i64 (vor ⟨k, n, s⟩ ⟨k', n', s'⟩).1.k, .int .i64 (vor ⟨k, n, s⟩ ⟨k', n', s'⟩).1.n, .string (vor ⟨k, n, s⟩ ⟨k', n', s'⟩).1.s], .int .i64 (vor ⟨k, n, s⟩ ⟨k', n', s'⟩).2]) ∧ Below w.heap.size w w' := by
  generalize hR : vor ⟨k, n, s⟩ ⟨k', n', s'⟩ = R
  have HV : Hid (R = _) := Lib.hid (by rw [← hR, vor])
  clear hR
  go_enter Try.func24, Try.ntmps24
  go_wp2_with fail
  refine (fit_any 2 [⟨k, n, s⟩, ⟨k', n', s'⟩] _ _ _ (by simp) (by simp) (hasVals_new2 (by simp))).mono ?_
  rintro e w' ⟨rfl, HB⟩
  (try clear hc hf hs hz); (try clear hs0); (try clear hs1); (try clear hs2); (try clear hs3); (try clear hs4); (try clear hs5); (try clear hs6); (try clear hs7); obtain ⟨hc, hf, hs⟩ := bcell HB; have hz := HB.size; (try simp at hz); (try (rcases Nat.lt_or_ge (w.heap.size) w'.heap.size with hs0 | hs0; rotate_left; (exfalso; omega))); (try (rcases Nat.lt_or_ge (w.heap.size + 1) w'.heap.size with hs1 | hs1; rotate_left; (exfalso; omega))); (try (rcases Nat.lt_or_ge (w.heap.size + 2) w'.heap.size with hs2 | hs2; rotate_left; (exfalso; omega))); (try (rcases Nat.lt_or_ge (w.heap.size + 3) w'.heap.size with hs3 | hs3; rotate_left; (exfalso; omega))); (try (rcases Nat.lt_or_ge (w.heap.size + 4) w'.heap.size with hs4 | hs4; rotate_left; (exfalso; omega))); (try (rcases Nat.lt_or_ge (w.heap.size + 5) w'.heap.size with hs5 | hs5; rotate_left; (exfalso; omega))); (try (rcases Nat.lt_or_ge (w.heap.size + 6) w'.heap.size with hs6 | hs6; rotate_left; (exfalso; omega))); (try (rcases Nat.lt_or_ge (w.heap.size + 7) w'.heap.size with hs7 | hs7; rotate_left; (exfalso; omega)))
  generalize vfit 2 false [⟨k, n, s⟩, ⟨k', n', s'⟩] = F at *
  go_wp2_with fail
  · refine bodyPost_ret (v := .tuple #[.agg #[.int .i64 R.1.k, .int .i64 R.1.n, .string R.1.s], .int .i64 R.2]) ?_ rfl ⟨rfl, (by (repeat (first | (with_reducible exact Below.refl _ _) | apply below_alloc _ (Nat.le_refl _) | refine below_set ?_ (by first | exact Nat.le_refl _ | omega) | apply below_drewN | refine below_step ?_ HB)))⟩
    rw [HV.out]
    clear HV HB hs
    simp_all [results, Try.results24, go_sem, V.nul]
  · refine (not_any k n s _).mono ?_
    rintro e w' ⟨rfl, hb⟩
    replace HB := below_step HB hb
    clear hb
    (try clear hc hf hs hz); (try clear hs0); (try clear hs1); (try clear hs2); (try clear hs3); (try clear hs4); (try clear hs5); (try clear hs6); (try clear hs7); obtain ⟨hc, hf, hs⟩ := bcell HB; have hz := HB.size; (try simp at hz); (try (rcases Nat.lt_or_ge (w.heap.size) w'.heap.size with hs0 | hs0; rotate_left; (exfalso; omega))); (try (rcases Nat.lt_or_ge (w.heap.size + 1) w'.heap.size with hs1 | hs1; rotate_left; (exfalso; omega))); (try (rcases Nat.lt_or_ge (w.heap.size + 2) w'.heap.size with hs2 | hs2; rotate_left; (exfalso; omega))); (try (rcases Nat.lt_or_ge (w.heap.size + 3) w'.heap.size with hs3 | hs3; rotate_left; (exfalso; omega))); (try (rcases Nat.lt_or_ge (w.heap.size + 4) w'.heap.size with hs4 | hs4; rotate_left; (exfalso; omega))); (try (rcases Nat.lt_or_ge (w.heap.size + 5) w'.heap.size with hs5 | hs5; rotate_left; (exfalso; omega))); (try (rcases Nat.lt_or_ge (w.heap.size + 6) w'.heap.size with hs6 | hs6; rotate_left; (exfalso; omega))); (try (rcases Nat.lt_or_ge (w.heap.size + 7) w'.heap.size with hs7 | hs7; rotate_left; (exfalso; omega)))
    generalize hx : (vnot ⟨k, n, s⟩).1 = x at *
    have HX := Lib.hid hx
    clear hx
    generalize (vnot ⟨k, n, s⟩).2 = xe at *
    go_wp2_with fail
    refine (not_any k' n' s' _).mono ?_
    rintro e w2 ⟨rfl, H2⟩
    replace HB := below_step (below_alloc HB (Nat.le_refl _) _) H2
    (try clear hc hf hs hz); (try clear hs0); (try clear hs1); (try clear hs2); (try clear hs3); (try clear hs4); (try clear hs5); (try clear hs6); (try clear hs7); obtain ⟨hc, hf, hs⟩ := bcell HB; have hz := HB.size; (try simp at hz); (try (rcases Nat.lt_or_ge (w.heap.size) w2.heap.size with hs0 | hs0; rotate_left; (exfalso; omega))); (try (rcases Nat.lt_or_ge (w.heap.size + 1) w2.heap.size with hs1 | hs1; rotate_left; (exfalso; omega))); (try (rcases Nat.lt_or_ge (w.heap.size + 2) w2.heap.size with hs2 | hs2; rotate_left; (exfalso; omega))); (try (rcases Nat.lt_or_ge (w.heap.size + 3) w2.heap.size with hs3 | hs3; rotate_left; (exfalso; omega))); (try (rcases Nat.lt_or_ge (w.heap.size + 4) w2.heap.size with hs4 | hs4; rotate_left; (exfalso; omega))); (try (rcases Nat.lt_or_ge (w.heap.size + 5) w2.heap.size with hs5 | hs5; rotate_left; (exfalso; omega))); (try (rcases Nat.lt_or_ge (w.heap.size + 6) w2.heap.size with hs6 | hs6; rotate_left; (exfalso; omega))); (try (rcases Nat.lt_or_ge (w.heap.size + 7) w2.heap.size with hs7 | hs7; rotate_left; (exfalso; omega)))
    (try clear hc_H2 hf_H2 hs_H2 hz_H2); (try clear hs0_H2); obtain ⟨hc_H2, hf_H2, hs_H2⟩ := bcell H2; have hz_H2 := H2.size; (try simp at hz_H2); (try (rcases Nat.lt_or_ge (w'.heap.size) w2.heap.size with hs0_H2 | hs0_H2; rotate_left; (exfalso; omega)))
    generalize hy : (vnot ⟨k', n', s'⟩).1 = y at *
    have HY := Lib.hid hy
    clear hy
    generalize (vnot ⟨k', n', s'⟩).2 = ye at *
    go_wp2_with fail
    refine (and_any x.k x.n x.s y.k y.n y.s _).mono ?_
    rintro e w3 ⟨rfl, H3⟩
    replace HB := below_step (below_alloc HB (Nat.le_refl _) _) H3
    clear hc_H2 hf_H2 hs_H2 H2 hs0_H2
    (try clear hc hf hs hz); (try clear hs0); (try clear hs1); (try clear hs2); (try clear hs3); (try clear hs4); (try clear hs5); (try clear hs6); (try clear hs7); obtain ⟨hc, hf, hs⟩ := bcell HB; have hz := HB.size; (try simp at hz); (try (rcases Nat.lt_or_ge (w.heap.size) w3.heap.size with hs0 | hs0; rotate_left; (exfalso; omega))); (try (rcases Nat.lt_or_ge (w.heap.size + 1) w3.heap.size with hs1 | hs1; rotate_left; (exfalso; omega))); (try (rcases Nat.lt_or_ge (w.heap.size + 2) w3.heap.size with hs2 | hs2; rotate_left; (exfalso; omega))); (try (rcases Nat.lt_or_ge (w.heap.size + 3) w3.heap.size with hs3 | hs3; rotate_left; (exfalso; omega))); (try (rcases Nat.lt_or_ge (w.heap.size + 4) w3.heap.size with hs4 | hs4; rotate_left; (exfalso; omega))); (try (rcases Nat.lt_or_ge (w.heap.size + 5) w3.heap.size with hs5 | hs5; rotate_left; (exfalso; omega))); (try (rcases Nat.lt_or_ge (w.heap.size + 6) w3.heap.size with hs6 | hs6; rotate_left; (exfalso; omega))); (try (rcases Nat.lt_or_ge (w.heap.size + 7) w3.heap.size with hs7 | hs7; rotate_left; (exfalso; omega)))
    generalize hz' : (vand ⟨x.k, x.n, x.s⟩ ⟨y.k, y.n, y.s⟩).1 = z at *
    have HZ := Lib.hid hz'
    clear hz'
    generalize (vand ⟨x.k, x.n, x.s⟩ ⟨y.k, y.n, y.s⟩).2 = ze at *
    go_wp2_with fail
    refine (not_any z.k z.n z.s _).mono ?_
    rintro e w4 ⟨rfl, H4⟩
    replace HB := below_step (below_alloc HB (Nat.le_refl _) _) H4
    (try clear hc hf hs hz); (try clear hs0); (try clear hs1); (try clear hs2); (try clear hs3); (try clear hs4); (try clear hs5); (try clear hs6); (try clear hs7); obtain ⟨hc, hf, hs⟩ := bcell HB; have hz := HB.size; (try simp at hz); (try (rcases Nat.lt_or_ge (w.heap.size) w4.heap.size with hs0 | hs0; rotate_left; (exfalso; omega))); (try (rcases Nat.lt_or_ge (w.heap.size + 1) w4.heap.size with hs1 | hs1; rotate_left; (exfalso; omega))); (try (rcases Nat.lt_or_ge (w.heap.size + 2) w4.heap.size with hs2 | hs2; rotate_left; (exfalso; omega))); (try (rcases Nat.lt_or_ge (w.heap.size + 3) w4.heap.size with hs3 | hs3; rotate_left; (exfalso; omega))); (try (rcases Nat.lt_or_ge (w.heap.size + 4) w4.heap.size with hs4 | hs4; rotate_left; (exfalso; omega))); (try (rcases Nat.lt_or_ge (w.heap.size + 5) w4.heap.size with hs5 | hs5; rotate_left; (exfalso; omega))); (try (rcases Nat.lt_or_ge (w.heap.size + 6) w4.heap.size with hs6 | hs6; rotate_left; (exfalso; omega))); (try (rcases Nat.lt_or_ge (w.heap.size + 7) w4.heap.size with hs7 | hs7; rotate_left; (exfalso; omega)))
    go_wp2_with fail
    refine bodyPost_ret (v := .tuple #[.agg #[.int .i64 R.1.k, .int .i64 R.1.n, .string R.1.s], .int .i64 R.2]) ?_ rfl ⟨rfl, (by (repeat (first | (with_reducible exact Below.refl _ _) | apply below_alloc _ (Nat.le_refl _) | refine below_set ?_ (by first | exact Nat.le_refl _ | omega) | apply below_drewN | refine below_step ?_ HB)))⟩
    have e0 : F.2 = 0 := by simp_all
    rw [HV.out, if_neg (by simp [e0]), show vnot z = vnot ⟨z.k, z.n, z.s⟩ from rfl]
    simp [results, Try.results24, go_sem, hc, hf]
set_option maxRecDepth 100000 in
set_option maxHeartbeats 4000000 in
theorem neg_any (k n : Int) (s : ByteArray) (w : World) (hn : InR n) :
    Calls Try.prog 21 #[.agg #[.int .i64 k, .int .i64 n, .string s]] w fun e w' => e = .returned (.tuple #[.agg #[.int .i64 (vneg ⟨k, n, s⟩).1.k, .int .i64 (vneg ⟨k, n, s⟩).1.n, .string (vneg ⟨k, n, s⟩).1.s], .int .i64 (vneg ⟨k, n, s⟩).2]) ∧ Below w.heap.size w w' := by
  generalize hR : vneg ⟨k, n, s⟩ = R
  have HV : Hid (R = _) := Lib.hid (by rw [← hR, vneg])
  clear hR
  go_enter Try.func21, Try.ntmps21
  go_wp2_with fail
  refine (fit_any 1 [⟨k, n, s⟩] _ _ _ (by simp) (by simp) (hasVals_new1 (by simp))).mono ?_
  rintro e w' ⟨rfl, HB⟩
  (try clear hc hf hs hz); (try clear hs0); (try clear hs1); (try clear hs2); (try clear hs3); (try clear hs4); (try clear hs5); (try clear hs6); (try clear hs7); obtain ⟨hc, hf, hs⟩ := bcell HB; have hz := HB.size; (try simp at hz); (try (rcases Nat.lt_or_ge (w.heap.size) w'.heap.size with hs0 | hs0; rotate_left; (exfalso; omega))); (try (rcases Nat.lt_or_ge (w.heap.size + 1) w'.heap.size with hs1 | hs1; rotate_left; (exfalso; omega))); (try (rcases Nat.lt_or_ge (w.heap.size + 2) w'.heap.size with hs2 | hs2; rotate_left; (exfalso; omega))); (try (rcases Nat.lt_or_ge (w.heap.size + 3) w'.heap.size with hs3 | hs3; rotate_left; (exfalso; omega))); (try (rcases Nat.lt_or_ge (w.heap.size + 4) w'.heap.size with hs4 | hs4; rotate_left; (exfalso; omega))); (try (rcases Nat.lt_or_ge (w.heap.size + 5) w'.heap.size with hs5 | hs5; rotate_left; (exfalso; omega))); (try (rcases Nat.lt_or_ge (w.heap.size + 6) w'.heap.size with hs6 | hs6; rotate_left; (exfalso; omega))); (try (rcases Nat.lt_or_ge (w.heap.size + 7) w'.heap.size with hs7 | hs7; rotate_left; (exfalso; omega)))
  generalize vfit 1 false [⟨k, n, s⟩] = F at *
  go_wp2_with (go_at_call 18; refine (Reckon_any 5 1 0 ⟨#[]⟩ k n s _ ⟨by omega, by omega⟩ hn).mono ?_; rintro e w' ⟨rfl, hb⟩; replace HB := below_step HB hb; clear hb; (try clear hc hf hs hz); (try clear hs0); (try clear hs1); (try clear hs2); (try clear hs3); (try clear hs4); (try clear hs5); (try clear hs6); (try clear hs7); obtain ⟨hc, hf, hs⟩ := bcell HB; have hz := HB.size; (try simp at hz); (try (rcases Nat.lt_or_ge (w.heap.size) w'.heap.size with hs0 | hs0; rotate_left; (exfalso; omega))); (try (rcases Nat.lt_or_ge (w.heap.size + 1) w'.heap.size with hs1 | hs1; rotate_left; (exfalso; omega))); (try (rcases Nat.lt_or_ge (w.heap.size + 2) w'.heap.size with hs2 | hs2; rotate_left; (exfalso; omega))); (try (rcases Nat.lt_or_ge (w.heap.size + 3) w'.heap.size with hs3 | hs3; rotate_left; (exfalso; omega))); (try (rcases Nat.lt_or_ge (w.heap.size + 4) w'.heap.size with hs4 | hs4; rotate_left; (exfalso; omega))); (try (rcases Nat.lt_or_ge (w.heap.size + 5) w'.heap.size with hs5 | hs5; rotate_left; (exfalso; omega))); (try (rcases Nat.lt_or_ge (w.heap.size + 6) w'.heap.size with hs6 | hs6; rotate_left; (exfalso; omega))); (try (rcases Nat.lt_or_ge (w.heap.size + 7) w'.heap.size with hs7 | hs7; rotate_left; (exfalso; omega))))
  all_goals
    refine bodyPost_ret (v := .tuple #[.agg #[.int .i64 R.1.k, .int .i64 R.1.n, .string R.1.s], .int .i64 R.2]) ?_ rfl ⟨rfl, (by (repeat (first | (with_reducible exact Below.refl _ _) | apply below_alloc _ (Nat.le_refl _) | refine below_set ?_ (by first | exact Nat.le_refl _ | omega) | apply below_drewN | refine below_step ?_ HB)))⟩
    rw [HV.out]
    clear HV HB hs
    simp_all [results, Try.results21, go_sem, V.nul, V.num]
end Go.Proofs.Ytekldpghidmeaaa
