/- Walks of the document's answer for layer 1 (switchbackref01), the ops, the rest. -/
import Derived.Test.YtekldpghidmeaaaRef1b
import Derived.Test.YtekldpghidmeaaaVal3
namespace Go.Proofs.Ytekldpghidmeaaa
open Go.RowKit
set_option linter.unusedVariables false
set_option linter.unusedSimpArgs false
attribute [local go_sem high] eqVal
set_option maxRecDepth 100000 in
set_option maxHeartbeats 4000000 in
theorem rReckon_out (op k n : Int) (s : ByteArray) (k' n' : Int) (s' : ByteArray) (w : World) (hn : InR n) (hn' : InR n') (h1 : op < 4 ∨ 13 < op) :
    Calls Try.prog 20 #[.int .i64 op, .agg #[.int .i64 k, .int .i64 n, .string s], .agg #[.int .i64 k', .int .i64 n', .string s']] w fun e w' => e = .returned (.tuple #[.agg #[.int .i64 (vreckon op ⟨k, n, s⟩ ⟨k', n', s'⟩).1.k, .int .i64 (vreckon op ⟨k, n, s⟩ ⟨k', n', s'⟩).1.n, .string (vreckon op ⟨k, n, s⟩ ⟨k', n', s'⟩).1.s], .int .i64 (vreckon op ⟨k, n, s⟩ ⟨k', n', s'⟩).2]) ∧ Below w.heap.size w w' := by
  generalize hR : vreckon op ⟨k, n, s⟩ ⟨k', n', s'⟩ = R
  have HR := Lib.hid hR
  clear hR
  have h2 : ¬ (4 ≤ op ∧ op ≤ 13) := by omega
  go_enter Try.func20, Try.ntmps20
  go_wp2
  all_goals
    refine bodyPost_ret (v := .tuple #[.agg #[.int .i64 R.1.k, .int .i64 R.1.n, .string R.1.s], .int .i64 R.2]) ?_ rfl ⟨rfl, (by (repeat (first | (with_reducible exact Below.refl _ _) | apply below_alloc _ (Nat.le_refl _) | refine below_set ?_ (by first | exact Nat.le_refl _ | omega) | apply below_drewN | refine below_step ?_ HB)))⟩
    rw [← HR.out, vreckon, if_pos h1]
    simp [results, Try.results20, go_sem, V.nul]
set_option maxRecDepth 100000 in
set_option maxHeartbeats 4000000 in
theorem rReckon_none (op k n : Int) (s : ByteArray) (k' n' : Int) (s' : ByteArray) (w : World) (hn : InR n) (hn' : InR n') (g1 : 8 ≤ op) (g2 : op ≤ 13) (hk : (vcompare ⟨k, n, s⟩ ⟨k', n', s'⟩).2.1 = false) :
    Calls Try.prog 20 #[.int .i64 op, .agg #[.int .i64 k, .int .i64 n, .string s], .agg #[.int .i64 k', .int .i64 n', .string s']] w fun e w' => e = .returned (.tuple #[.agg #[.int .i64 (vreckon op ⟨k, n, s⟩ ⟨k', n', s'⟩).1.k, .int .i64 (vreckon op ⟨k, n, s⟩ ⟨k', n', s'⟩).1.n, .string (vreckon op ⟨k, n, s⟩ ⟨k', n', s'⟩).1.s], .int .i64 (vreckon op ⟨k, n, s⟩ ⟨k', n', s'⟩).2]) ∧ Below w.heap.size w w' := by
  generalize hR : vreckon op ⟨k, n, s⟩ ⟨k', n', s'⟩ = R
  have HR := Lib.hid hR
  clear hR
  have HV : Hid (R = _) := Lib.hid (by rw [← HR.out, vreckon, if_neg (by omega), if_neg (by omega), if_pos hk])
  clear HR
  have hcmp := fun W => rcompare_any k n s k' n' s' W hn hn'
  generalize vcompare ⟨k, n, s⟩ ⟨k', n', s'⟩ = C at *
  obtain ⟨c, kn, e0⟩ := C
  dsimp only at hk
  subst hk
  have h4 : ¬ op < 4 := by omega
  have h5 : ¬ op ≤ 7 := by omega
  go_enter Try.func20, Try.ntmps20
  go_wp2_with (go_at_call 11; refine (hcmp _).mono ?_; rintro e w' ⟨rfl, HB⟩; (try clear hc hf hs hz); (try clear hs0); (try clear hs1); (try clear hs2); (try clear hs3); (try clear hs4); (try clear hs5); (try clear hs6); (try clear hs7); obtain ⟨hc, hf, hs⟩ := bcell HB; have hz := HB.size; (try simp at hz); (try (rcases Nat.lt_or_ge (w.heap.size) w'.heap.size with hs0 | hs0; rotate_left; (exfalso; omega))); (try (rcases Nat.lt_or_ge (w.heap.size + 1) w'.heap.size with hs1 | hs1; rotate_left; (exfalso; omega))); (try (rcases Nat.lt_or_ge (w.heap.size + 2) w'.heap.size with hs2 | hs2; rotate_left; (exfalso; omega))); (try (rcases Nat.lt_or_ge (w.heap.size + 3) w'.heap.size with hs3 | hs3; rotate_left; (exfalso; omega))); (try (rcases Nat.lt_or_ge (w.heap.size + 4) w'.heap.size with hs4 | hs4; rotate_left; (exfalso; omega))); (try (rcases Nat.lt_or_ge (w.heap.size + 5) w'.heap.size with hs5 | hs5; rotate_left; (exfalso; omega))); (try (rcases Nat.lt_or_ge (w.heap.size + 6) w'.heap.size with hs6 | hs6; rotate_left; (exfalso; omega))); (try (rcases Nat.lt_or_ge (w.heap.size + 7) w'.heap.size with hs7 | hs7; rotate_left; (exfalso; omega))); clear hcmp)
  all_goals
    refine bodyPost_ret (v := .tuple #[.agg #[.int .i64 R.1.k, .int .i64 R.1.n, .string R.1.s], .int .i64 R.2]) ?_ rfl ⟨rfl, (by (repeat (first | (with_reducible exact Below.refl _ _) | apply below_alloc _ (Nat.le_refl _) | refine below_set ?_ (by first | exact Nat.le_refl _ | omega) | apply below_drewN | refine below_step ?_ HB)))⟩
    rw [HV.out]
    simp_all [results, Try.results20, go_sem, V.nul, V.num]
set_option maxRecDepth 100000 in
set_option maxHeartbeats 4000000 in
theorem rReckon_told (op k n : Int) (s : ByteArray) (k' n' : Int) (s' : ByteArray) (w : World) (hn : InR n) (hn' : InR n') (g1 : 8 ≤ op) (g2 : op ≤ 13) (hk : (vcompare ⟨k, n, s⟩ ⟨k', n', s'⟩).2.1 = true) :
    Calls Try.prog 20 #[.int .i64 op, .agg #[.int .i64 k, .int .i64 n, .string s], .agg #[.int .i64 k', .int .i64 n', .string s']] w fun e w' => e = .returned (.tuple #[.agg #[.int .i64 (vreckon op ⟨k, n, s⟩ ⟨k', n', s'⟩).1.k, .int .i64 (vreckon op ⟨k, n, s⟩ ⟨k', n', s'⟩).1.n, .string (vreckon op ⟨k, n, s⟩ ⟨k', n', s'⟩).1.s], .int .i64 (vreckon op ⟨k, n, s⟩ ⟨k', n', s'⟩).2]) ∧ Below w.heap.size w w' := by
  generalize hR : vreckon op ⟨k, n, s⟩ ⟨k', n', s'⟩ = R
  have HR := Lib.hid hR
  clear hR
  have HV : Hid (R = _) := Lib.hid (by rw [← HR.out, vreckon, if_neg (by omega), if_neg (by omega), if_neg (by simp [hk])])
  clear HR
  have hK := vcompare_known ⟨k, n, s⟩ ⟨k', n', s'⟩ hk
  have hcmp := fun W => rcompare_any k n s k' n' s' W hn hn'
  have he : (vcompare ⟨k, n, s⟩ ⟨k', n', s'⟩).2.2 = 0 := by
    revert hk; unfold vcompare; (repeat' split) <;> simp
  generalize vcompare ⟨k, n, s⟩ ⟨k', n', s'⟩ = C at *
  obtain ⟨c, kn, e0⟩ := C
  dsimp only at hk hK he
  subst hk
  subst he
  have h4 : ¬ op < 4 := by omega
  have h5 : ¬ op ≤ 7 := by omega
  obtain rfl | rfl | rfl | rfl | rfl | rfl : op = 8 ∨ op = 9 ∨ op = 10 ∨ op = 11 ∨ op = 12 ∨ op = 13 := by omega
  all_goals
    clear g1 g2 h4 h5
    go_enter Try.func20, Try.ntmps20
    go_wp2_with fail
    refine (hcmp _).mono ?_
    rintro e w' ⟨rfl, HB⟩
    (try clear hc hf hs hz); (try clear hs0); (try clear hs1); (try clear hs2); (try clear hs3); (try clear hs4); (try clear hs5); (try clear hs6); (try clear hs7); obtain ⟨hc, hf, hs⟩ := bcell HB; have hz := HB.size; (try simp at hz); (try (rcases Nat.lt_or_ge (w.heap.size) w'.heap.size with hs0 | hs0; rotate_left; (exfalso; omega))); (try (rcases Nat.lt_or_ge (w.heap.size + 1) w'.heap.size with hs1 | hs1; rotate_left; (exfalso; omega))); (try (rcases Nat.lt_or_ge (w.heap.size + 2) w'.heap.size with hs2 | hs2; rotate_left; (exfalso; omega))); (try (rcases Nat.lt_or_ge (w.heap.size + 3) w'.heap.size with hs3 | hs3; rotate_left; (exfalso; omega))); (try (rcases Nat.lt_or_ge (w.heap.size + 4) w'.heap.size with hs4 | hs4; rotate_left; (exfalso; omega))); (try (rcases Nat.lt_or_ge (w.heap.size + 5) w'.heap.size with hs5 | hs5; rotate_left; (exfalso; omega))); (try (rcases Nat.lt_or_ge (w.heap.size + 6) w'.heap.size with hs6 | hs6; rotate_left; (exfalso; omega))); (try (rcases Nat.lt_or_ge (w.heap.size + 7) w'.heap.size with hs7 | hs7; rotate_left; (exfalso; omega)))
    clear hcmp
    rcases hK with rfl | rfl | rfl
  all_goals
    go_wp2_with (go_at_call 34; refine (rbool_any _ _).mono ?_; rintro e w2 ⟨rfl, hb⟩; replace HB := below_step HB hb; clear hb; (try clear hc hf hs hz); (try clear hs0); (try clear hs1); (try clear hs2); (try clear hs3); (try clear hs4); (try clear hs5); (try clear hs6); (try clear hs7); obtain ⟨hc, hf, hs⟩ := bcell HB; have hz := HB.size; (try simp at hz); (try (rcases Nat.lt_or_ge (w.heap.size) w2.heap.size with hs0 | hs0; rotate_left; (exfalso; omega))); (try (rcases Nat.lt_or_ge (w.heap.size + 1) w2.heap.size with hs1 | hs1; rotate_left; (exfalso; omega))); (try (rcases Nat.lt_or_ge (w.heap.size + 2) w2.heap.size with hs2 | hs2; rotate_left; (exfalso; omega))); (try (rcases Nat.lt_or_ge (w.heap.size + 3) w2.heap.size with hs3 | hs3; rotate_left; (exfalso; omega))); (try (rcases Nat.lt_or_ge (w.heap.size + 4) w2.heap.size with hs4 | hs4; rotate_left; (exfalso; omega))); (try (rcases Nat.lt_or_ge (w.heap.size + 5) w2.heap.size with hs5 | hs5; rotate_left; (exfalso; omega))); (try (rcases Nat.lt_or_ge (w.heap.size + 6) w2.heap.size with hs6 | hs6; rotate_left; (exfalso; omega))); (try (rcases Nat.lt_or_ge (w.heap.size + 7) w2.heap.size with hs7 | hs7; rotate_left; (exfalso; omega))))
  all_goals
    refine bodyPost_ret (v := .tuple #[.agg #[.int .i64 R.1.k, .int .i64 R.1.n, .string R.1.s], .int .i64 R.2]) ?_ rfl ⟨rfl, (by (repeat (first | (with_reducible exact Below.refl _ _) | apply below_alloc _ (Nat.le_refl _) | refine below_set ?_ (by first | exact Nat.le_refl _ | omega) | apply below_drewN | refine below_step ?_ HB)))⟩
    rw [HV.out]
    simp [results, Try.results20, go_sem, told, vbool, hc, hf]
theorem rReckon_any (op k n : Int) (s : ByteArray) (k' n' : Int) (s' : ByteArray) (w : World) (hn : InR n) (hn' : InR n') :
    Calls Try.prog 20 #[.int .i64 op, .agg #[.int .i64 k, .int .i64 n, .string s], .agg #[.int .i64 k', .int .i64 n', .string s']] w fun e w' => e = .returned (.tuple #[.agg #[.int .i64 (vreckon op ⟨k, n, s⟩ ⟨k', n', s'⟩).1.k, .int .i64 (vreckon op ⟨k, n, s⟩ ⟨k', n', s'⟩).1.n, .string (vreckon op ⟨k, n, s⟩ ⟨k', n', s'⟩).1.s], .int .i64 (vreckon op ⟨k, n, s⟩ ⟨k', n', s'⟩).2]) ∧ Below w.heap.size w w' := by
  by_cases h1 : op < 4 ∨ 13 < op
  · exact rReckon_out op k n s k' n' s' w hn hn' h1
  · by_cases h2 : op ≤ 7
    · exact rReckon_num op k n s k' n' s' w hn hn' (by omega) h2
    · cases hk : (vcompare ⟨k, n, s⟩ ⟨k', n', s'⟩).2.1 with
      | false => exact rReckon_none op k n s k' n' s' w hn hn' (by omega) (by omega) hk
      | true => exact rReckon_told op k n s k' n' s' w hn hn' (by omega) (by omega) hk
set_option maxRecDepth 100000 in
set_option maxHeartbeats 4000000 in
theorem rneg_any (k n : Int) (s : ByteArray) (w : World) (hn : InR n) :
    Calls Try.prog 22 #[.agg #[.int .i64 k, .int .i64 n, .string s]] w fun e w' => e = .returned (.tuple #[.agg #[.int .i64 (vneg ⟨k, n, s⟩).1.k, .int .i64 (vneg ⟨k, n, s⟩).1.n, .string (vneg ⟨k, n, s⟩).1.s], .int .i64 (vneg ⟨k, n, s⟩).2]) ∧ Below w.heap.size w w' := by
  have hR1 : vneg ⟨k, n, s⟩ = if rfits 1 ⟨k, n, s⟩ = true then (if k = 0 then (.nul, 0) else if n = -9223372036854775808 then (.nul, 84) else (.num (-n), 0)) else (.nul, 81) := by
    rw [vneg, vfit_one]
    by_cases h : rfits 1 ⟨k, n, s⟩ = true
    · rw [if_pos h, if_pos h]
      by_cases hk : k = 0
      · simp [hk]
      · have hk1 : k = 1 := by simp [rfits, hk] at h; exact h.2
        subst hk1
        have hv : vfit 1 false [V.num 0, ⟨1, n, s⟩] = (false, 0) := by
          rw [vfit_two, if_pos ⟨by simp [rfits, V.num, vcheck], h⟩]; simp [V.num]
        have h1 := hn.1; have h2 := hn.2
        simp only [vreckon, hv]
        by_cases hm : n = -9223372036854775808
        · simp [nreckon, V.num, hm, InR]
        · have : InR (0 - n) := ⟨by omega, by omega⟩
          simp [nreckon, V.num, hm, this]
          simp at this
          simp [this]
    · simp [h]
  generalize hR : vneg ⟨k, n, s⟩ = R at *
  have HV := Lib.hid hR1
  clear hR hR1
  generalize hA : rfits 1 ⟨k, n, s⟩ = A at *
  have fA : ∀ W, Calls Try.prog 32 #[.agg #[.int .i64 k, .int .i64 n, .string s], .int .i64 1] W fun e w' => e = .returned (.bool A) ∧ Below W.heap.size W w' := fun W => by rw [← hA]; exact rfits_any _ _ _ _ _ hn
  clear hA
  obtain ⟨n1, n2⟩ := hn
  go_enter Try.func22, Try.ntmps22
  go_wp2_with fail
  refine (fA _).mono ?_
  rintro e w' ⟨rfl, HB⟩
  (try clear hc hf hs hz); (try clear hs0); (try clear hs1); (try clear hs2); (try clear hs3); (try clear hs4); (try clear hs5); (try clear hs6); (try clear hs7); obtain ⟨hc, hf, hs⟩ := bcell HB; have hz := HB.size; (try simp at hz); (try (rcases Nat.lt_or_ge (w.heap.size) w'.heap.size with hs0 | hs0; rotate_left; (exfalso; omega))); (try (rcases Nat.lt_or_ge (w.heap.size + 1) w'.heap.size with hs1 | hs1; rotate_left; (exfalso; omega))); (try (rcases Nat.lt_or_ge (w.heap.size + 2) w'.heap.size with hs2 | hs2; rotate_left; (exfalso; omega))); (try (rcases Nat.lt_or_ge (w.heap.size + 3) w'.heap.size with hs3 | hs3; rotate_left; (exfalso; omega))); (try (rcases Nat.lt_or_ge (w.heap.size + 4) w'.heap.size with hs4 | hs4; rotate_left; (exfalso; omega))); (try (rcases Nat.lt_or_ge (w.heap.size + 5) w'.heap.size with hs5 | hs5; rotate_left; (exfalso; omega))); (try (rcases Nat.lt_or_ge (w.heap.size + 6) w'.heap.size with hs6 | hs6; rotate_left; (exfalso; omega))); (try (rcases Nat.lt_or_ge (w.heap.size + 7) w'.heap.size with hs7 | hs7; rotate_left; (exfalso; omega)))
  clear fA
  cases A
  all_goals
    go_wp2_with fail
  all_goals
    refine bodyPost_ret (v := .tuple #[.agg #[.int .i64 R.1.k, .int .i64 R.1.n, .string R.1.s], .int .i64 R.2]) ?_ rfl ⟨rfl, (by (repeat (first | (with_reducible exact Below.refl _ _) | apply below_alloc _ (Nat.le_refl _) | refine below_set ?_ (by first | exact Nat.le_refl _ | omega) | apply below_drewN | refine below_step ?_ HB)))⟩
    rw [HV.out]
    have hw : n ≠ -9223372036854775808 → wrap64 (-n) = -n := fun h => wrap64_in ⟨by omega, by omega⟩
    simp_all [results, Try.results22, go_sem, V.nul, V.num]
end Go.Proofs.Ytekldpghidmeaaa
