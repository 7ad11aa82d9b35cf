/- Walks of the document's answer for layer 1 (switchbackref01): the same plain functions. -/
import Derived.Test.YtekldpghidmeaaaVal2
namespace Go.Proofs.Ytekldpghidmeaaa
open Go.RowKit
set_option linter.unusedVariables false
set_option linter.unusedSimpArgs false
attribute [local go_sem high] eqVal
set_option maxRecDepth 100000 in
theorem rcheck_any (k n : Int) (s : ByteArray) (w : World) (hn : InR n) :
    Calls Try.prog 14 #[.agg #[.int .i64 k, .int .i64 n, .string s]] w fun e w' => e = .returned (.int .i64 (vcheck ⟨k, n, s⟩)) ∧ Below w.heap.size w w' := by
  generalize hR : vcheck ⟨k, n, s⟩ = R
  have HR := Lib.hid hR
  clear hR
  go_enter Try.func14, Try.ntmps14
  go_wp2
  all_goals
    go_ret
    refine ⟨ret_int ?_, (by (repeat (first | (with_reducible exact Below.refl _ _) | apply below_alloc _ (Nat.le_refl _) | refine below_set ?_ (by first | exact Nat.le_refl _ | omega) | apply below_drewN | refine below_step ?_ HB)))⟩
    rw [← HR.out]
    have hu : IntKind.u64.wrap n ≤ 1 ↔ n = 0 ∨ n = 1 := by rw [IntKind.wrap_u64]; have := hn.1; have := hn.2; omega
    first | (simp_all [vcheck]; done) | (simp_all [vcheck]; grind)
theorem cmpS_eq (a b : ByteArray) : cmpS a b = if Op.bytesLess a.toList b.toList = true then -1 else if (a.toList == b.toList) = true then 0 else 1 := by
  have h := less_total a.toList b.toList
  unfold cmpS
  rw [← h]
  by_cases h1 : Op.bytesLess a.toList b.toList = true <;> by_cases h2 : (a.toList == b.toList) = true <;> simp_all
set_option maxRecDepth 100000 in
theorem rorder_any (k n : Int) (s : ByteArray) (k' n' : Int) (s' : ByteArray) (w : World) :
    Calls Try.prog 16 #[.agg #[.int .i64 k, .int .i64 n, .string s], .agg #[.int .i64 k', .int .i64 n', .string s']] w fun e w' => e = .returned (.int .i64 (vorder ⟨k, n, s⟩ ⟨k', n', s'⟩)) ∧ Below w.heap.size w w' := by
  generalize hR : vorder ⟨k, n, s⟩ ⟨k', n', s'⟩ = R
  have HR := Lib.hid hR
  clear hR
  go_enter Try.func16, Try.ntmps16
  go_wp2
  go_quiet (fail)
  go_wp2
  all_goals (try (go_quiet (fail); go_wp2))
  all_goals
    go_ret
    refine ⟨ret_int ?_, (by (repeat (first | (with_reducible exact Below.refl _ _) | apply below_alloc _ (Nat.le_refl _) | refine below_set ?_ (by first | exact Nat.le_refl _ | omega) | apply below_drewN | refine below_step ?_ HB)))⟩
    rw [← HR.out]
    first | (simp_all [vorder, cmpI, cmpS]; done) | (simp_all [vorder, cmpI, cmpS]; omega) | (simp_all [vorder, cmpI, cmpS]; grind) | (have hS := cmpS_eq s s'; clear HR; grind [vorder, cmpI])
set_option maxRecDepth 100000 in
theorem rcompare_any (k n : Int) (s : ByteArray) (k' n' : Int) (s' : ByteArray) (w : World) (hn : InR n) (hn' : InR n') :
    Calls Try.prog 11 #[.agg #[.int .i64 k, .int .i64 n, .string s], .agg #[.int .i64 k', .int .i64 n', .string s']] w fun e w' => e = .returned (.tuple #[.int .i64 (vcompare ⟨k, n, s⟩ ⟨k', n', s'⟩).1, .bool (vcompare ⟨k, n, s⟩ ⟨k', n', s'⟩).2.1, .int .i64 (vcompare ⟨k, n, s⟩ ⟨k', n', s'⟩).2.2]) ∧ Below w.heap.size w w' := by
  generalize hR : vcompare ⟨k, n, s⟩ ⟨k', n', s'⟩ = R
  have HR : Hid (R = _) := Lib.hid (by rw [← hR, vcompare])
  clear hR
  go_enter Try.func11, Try.ntmps11
  go_wp2_with (first | (go_at_call 14; refine (rcheck_any _ _ _ _ (by assumption)).mono ?_; rintro e w' ⟨rfl, hb⟩; (first | (replace HB := below_step HB hb) | (have HB := hb)); clear hb; (try clear hc hf hs hz); (try clear hs0); (try clear hs1); (try clear hs2); (try clear hs3); (try clear hs4); (try clear hs5); (try clear hs6); (try clear hs7); obtain ⟨hc, hf, hs⟩ := bcell HB; have hz := HB.size; (try simp at hz); (try (rcases Nat.lt_or_ge (w.heap.size) w'.heap.size with hs0 | hs0; rotate_left; (exfalso; omega))); (try (rcases Nat.lt_or_ge (w.heap.size + 1) w'.heap.size with hs1 | hs1; rotate_left; (exfalso; omega))); (try (rcases Nat.lt_or_ge (w.heap.size + 2) w'.heap.size with hs2 | hs2; rotate_left; (exfalso; omega))); (try (rcases Nat.lt_or_ge (w.heap.size + 3) w'.heap.size with hs3 | hs3; rotate_left; (exfalso; omega))); (try (rcases Nat.lt_or_ge (w.heap.size + 4) w'.heap.size with hs4 | hs4; rotate_left; (exfalso; omega))); (try (rcases Nat.lt_or_ge (w.heap.size + 5) w'.heap.size with hs5 | hs5; rotate_left; (exfalso; omega))); (try (rcases Nat.lt_or_ge (w.heap.size + 6) w'.heap.size with hs6 | hs6; rotate_left; (exfalso; omega))); (try (rcases Nat.lt_or_ge (w.heap.size + 7) w'.heap.size with hs7 | hs7; rotate_left; (exfalso; omega)))) | (go_at_call 16; refine (rorder_any _ _ _ _ _ _ _).mono ?_; rintro e w' ⟨rfl, hb⟩; (first | (replace HB := below_step HB hb) | (have HB := hb)); clear hb; (try clear hc hf hs hz); (try clear hs0); (try clear hs1); (try clear hs2); (try clear hs3); (try clear hs4); (try clear hs5); (try clear hs6); (try clear hs7); obtain ⟨hc, hf, hs⟩ := bcell HB; have hz := HB.size; (try simp at hz); (try (rcases Nat.lt_or_ge (w.heap.size) w'.heap.size with hs0 | hs0; rotate_left; (exfalso; omega))); (try (rcases Nat.lt_or_ge (w.heap.size + 1) w'.heap.size with hs1 | hs1; rotate_left; (exfalso; omega))); (try (rcases Nat.lt_or_ge (w.heap.size + 2) w'.heap.size with hs2 | hs2; rotate_left; (exfalso; omega))); (try (rcases Nat.lt_or_ge (w.heap.size + 3) w'.heap.size with hs3 | hs3; rotate_left; (exfalso; omega))); (try (rcases Nat.lt_or_ge (w.heap.size + 4) w'.heap.size with hs4 | hs4; rotate_left; (exfalso; omega))); (try (rcases Nat.lt_or_ge (w.heap.size + 5) w'.heap.size with hs5 | hs5; rotate_left; (exfalso; omega))); (try (rcases Nat.lt_or_ge (w.heap.size + 6) w'.heap.size with hs6 | hs6; rotate_left; (exfalso; omega))); (try (rcases Nat.lt_or_ge (w.heap.size + 7) w'.heap.size with hs7 | hs7; rotate_left; (exfalso; omega)))))
  all_goals
    go_ret3
    exact ⟨by rw [HR.out]; clear HR; simp_all, (by (repeat (first | (with_reducible exact Below.refl _ _) | apply below_alloc _ (Nat.le_refl _) | refine below_set ?_ (by first | exact Nat.le_refl _ | omega) | apply below_drewN | refine below_step ?_ HB)))⟩
theorem rbool_any (b : Bool) (w : World) :
    Calls Try.prog 34 #[.bool b] w fun e w' => e = .returned (.agg #[.int .i64 (vbool b).k, .int .i64 (vbool b).n, .string (vbool b).s]) ∧ Below w.heap.size w w' := by
  cases b
  · go_enter Try.func34, Try.ntmps34
    go_wp2
    exact bodyPost_ret (v := .agg #[.int .i64 2, .int .i64 0, .string ⟨#[]⟩]) (by simp [results, Try.results34, go_sem]) rfl ⟨rfl, (by (repeat (first | (with_reducible exact Below.refl _ _) | apply below_alloc _ (Nat.le_refl _) | refine below_set ?_ (by first | exact Nat.le_refl _ | omega) | apply below_drewN | refine below_step ?_ HB)))⟩
  · go_enter Try.func34, Try.ntmps34
    go_wp2
    exact bodyPost_ret (v := .agg #[.int .i64 2, .int .i64 1, .string ⟨#[]⟩]) (by simp [results, Try.results34, go_sem]) rfl ⟨rfl, (by (repeat (first | (with_reducible exact Below.refl _ _) | apply below_alloc _ (Nat.le_refl _) | refine below_set ?_ (by first | exact Nat.le_refl _ | omega) | apply below_drewN | refine below_step ?_ HB)))⟩
/-- Is a value NULL, or of a kind? -/
def rfits (kind : Int) (v : V) : Bool := vcheck v == 0 && (v.k == 0 || v.k == kind)
set_option maxRecDepth 100000 in
theorem rfits_any (k n : Int) (s : ByteArray) (kind : Int) (w : World) (hn : InR n) :
    Calls Try.prog 32 #[.agg #[.int .i64 k, .int .i64 n, .string s], .int .i64 kind] w fun e w' => e = .returned (.bool (rfits kind ⟨k, n, s⟩)) ∧ Below w.heap.size w w' := by
  generalize hR : rfits kind ⟨k, n, s⟩ = R
  have HR : Hid (R = _) := Lib.hid (by rw [← hR, rfits])
  clear hR
  go_enter Try.func32, Try.ntmps32
  go_wp2_with (go_at_call 14; refine (rcheck_any _ _ _ _ (by assumption)).mono ?_; rintro e w' ⟨rfl, hb⟩; (first | (replace HB := below_step HB hb) | (have HB := hb)); clear hb; (try clear hc hf hs hz); (try clear hs0); (try clear hs1); (try clear hs2); (try clear hs3); (try clear hs4); (try clear hs5); (try clear hs6); (try clear hs7); obtain ⟨hc, hf, hs⟩ := bcell HB; have hz := HB.size; (try simp at hz); (try (rcases Nat.lt_or_ge (w.heap.size) w'.heap.size with hs0 | hs0; rotate_left; (exfalso; omega))); (try (rcases Nat.lt_or_ge (w.heap.size + 1) w'.heap.size with hs1 | hs1; rotate_left; (exfalso; omega))); (try (rcases Nat.lt_or_ge (w.heap.size + 2) w'.heap.size with hs2 | hs2; rotate_left; (exfalso; omega))); (try (rcases Nat.lt_or_ge (w.heap.size + 3) w'.heap.size with hs3 | hs3; rotate_left; (exfalso; omega))); (try (rcases Nat.lt_or_ge (w.heap.size + 4) w'.heap.size with hs4 | hs4; rotate_left; (exfalso; omega))); (try (rcases Nat.lt_or_ge (w.heap.size + 5) w'.heap.size with hs5 | hs5; rotate_left; (exfalso; omega))); (try (rcases Nat.lt_or_ge (w.heap.size + 6) w'.heap.size with hs6 | hs6; rotate_left; (exfalso; omega))); (try (rcases Nat.lt_or_ge (w.heap.size + 7) w'.heap.size with hs7 | hs7; rotate_left; (exfalso; omega))))
  all_goals
    go_ret
    exact ⟨ret_bool (by rw [HR.out]; clear HR; simp_all), (by (repeat (first | (with_reducible exact Below.refl _ _) | apply below_alloc _ (Nat.le_refl _) | refine below_set ?_ (by first | exact Nat.le_refl _ | omega) | apply below_drewN | refine below_step ?_ HB)))⟩
/-- What number tells: as value.reckon. -/
def RNum (op a b : Int) (w : World) (e : Ending) (w' : World) : Prop :=
  ∃ (c : Int) (ok : Bool), e = .returned (.tuple #[.int .i64 c, .bool ok]) ∧ nreckon op a b = (if ok = true then (c, 0) else (0, 84)) ∧ Below w.heap.size w w'
theorem rnum_mk {op a b : Int} {w w' : World} {e : Ending} (v c : Int) (ok : Bool) (he : e = .returned (.tuple #[.int .i64 c, .bool ok])) (hn : nreckon op a b = if InR v then (v, 0) else (0, 84)) (h1 : ok = true ↔ InR v) (h2 : InR v → c = v) (hw : Below w.heap.size w w') : RNum op a b w e w' := by
  refine ⟨c, ok, he, ?_, hw⟩
  rw [hn]
  by_cases h : InR v
  · rw [if_pos h, if_pos (h1.2 h), h2 h]
  · rw [if_neg h, if_neg (fun k => h (h1.1 k))]
theorem div_mk {a b : Int} {w w' : World} {e : Ending} (c : Int) (ok : Bool) (he : e = .returned (.tuple #[.int .i64 c, .bool ok])) (h0 : b ≠ 0) (h1 : ok = true ↔ ¬ (a = -9223372036854775808 ∧ b = -1)) (h2 : ¬ (a = -9223372036854775808 ∧ b = -1) → c = a.tdiv b) (hw : Below w.heap.size w w') : RNum 7 a b w e w' := by
  refine ⟨c, ok, he, ?_, hw⟩
  simp only [nreckon, if_neg (show ¬ (7 : Int) = 4 by decide), if_neg (show ¬ (7 : Int) = 5 by decide), if_neg (show ¬ (7 : Int) = 6 by decide), if_neg h0]
  by_cases h : a = -9223372036854775808 ∧ b = -1
  · rw [if_pos h, if_neg (fun k => h1.1 k h)]
  · rw [if_neg h, if_pos (h1.2 h), h2 h]
theorem mul_test {a b : Int} (ha : InR a) (hb : InR b) (h0 : a ≠ 0) (h1 : ¬ (a = -1 ∧ b = -9223372036854775808)) (h2 : ¬ (b = -1 ∧ a = -9223372036854775808)) : wrap64 ((wrap64 (a * b)).tdiv a) = b ↔ InR (a * b) := by
  rw [wrap64_in (tdiv_in (inR_wrap _) h0 (by
    rintro ⟨k1, rfl⟩
    rw [wrap64_in (by have := hb.1; have := hb.2; exact ⟨by omega, by omega⟩)] at k1
    have := hb.2
    omega))]
  have q1 := ha.1; have q2 := ha.2; have q3 := hb.1; have q4 := hb.2
  constructor
  · intro h
    have e := Int.mul_tdiv_add_tmod (wrap64 (a * b)) a
    rw [h] at e
    have hm : ((wrap64 (a * b)).tmod a).natAbs < a.natAbs := by
      rw [Int.natAbs_tmod]; exact Nat.mod_lt _ (by omega)
    have hw : wrap64 (a * b) = (a * b + 9223372036854775808) % 18446744073709551616 - 9223372036854775808 := by unfold wrap64; rfl
    have hr := inR_wrap (a * b)
    generalize a * b = p at *
    generalize (wrap64 p).tmod a = r at *
    have : wrap64 p = p := by omega
    rw [← this]; exact hr
  · intro h
    rw [wrap64_in h, Int.mul_tdiv_cancel_left _ h0]
set_option maxRecDepth 100000 in
theorem rnumber_any (op a b : Int) (w : World) (ho : 4 ≤ op ∧ op ≤ 7) (ha : InR a) (hb : InR b) (h0 : op = 7 → b ≠ 0) :
    Calls Try.prog 33 #[.int .i64 op, .int .i64 a, .int .i64 b] w (RNum op a b w) := by
  obtain ⟨a1, a2⟩ := ha
  obtain ⟨b1, b2⟩ := hb
  obtain rfl | rfl | rfl | rfl : op = 4 ∨ op = 5 ∨ op = 6 ∨ op = 7 := by omega
  · go_enter Try.func33, Try.ntmps33
    go_wp2
    all_goals
      go_ret2
      refine rnum_mk (a + b) _ _ rfl rfl ?_ (fun h => wrap64_in h) (by (repeat (first | (with_reducible exact Below.refl _ _) | apply below_alloc _ (Nat.le_refl _) | refine below_set ?_ (by first | exact Nat.le_refl _ | omega) | apply below_drewN | refine below_step ?_ HB)))
      simp only [InR]
      first | omega | (simp; omega)
  · go_enter Try.func33, Try.ntmps33
    go_wp2
    all_goals
      go_ret2
      refine rnum_mk (a - b) _ _ rfl rfl ?_ (fun h => wrap64_in h) (by (repeat (first | (with_reducible exact Below.refl _ _) | apply below_alloc _ (Nat.le_refl _) | refine below_set ?_ (by first | exact Nat.le_refl _ | omega) | apply below_drewN | refine below_step ?_ HB)))
      simp only [InR]
      first | omega | (simp; omega)
  · by_cases z : a = 0
    · subst z
      go_enter Try.func33, Try.ntmps33
      go_wp2
      go_quiet (fail)
      go_wp2
      go_ret2
      exact rnum_mk (0 * b) _ _ rfl rfl (by simp [InR]) (fun h => by simp [wrap64]) (by (repeat (first | (with_reducible exact Below.refl _ _) | apply below_alloc _ (Nat.le_refl _) | refine below_set ?_ (by first | exact Nat.le_refl _ | omega) | apply below_drewN | refine below_step ?_ HB)))
    · have z1 : (a == 0) = false := by simpa using z
      by_cases c1 : a = -1 ∧ b = -9223372036854775808
      · obtain ⟨rfl, rfl⟩ := c1
        go_enter Try.func33, Try.ntmps33
        go_wp2
        go_quiet (fail)
        go_wp2
        go_ret2
        exact rnum_mk (-1 * -9223372036854775808) _ _ rfl rfl (by simp [InR]) (fun h => by simp [InR] at h) (by (repeat (first | (with_reducible exact Below.refl _ _) | apply below_alloc _ (Nat.le_refl _) | refine below_set ?_ (by first | exact Nat.le_refl _ | omega) | apply below_drewN | refine below_step ?_ HB)))
      · by_cases c2 : b = -1 ∧ a = -9223372036854775808
        · obtain ⟨rfl, rfl⟩ := c2
          go_enter Try.func33, Try.ntmps33
          go_wp2
          go_quiet (fail)
          go_wp2
          go_ret2
          exact rnum_mk (-9223372036854775808 * -1) _ _ rfl rfl (by simp [InR]) (fun h => by simp [InR] at h) (by (repeat (first | (with_reducible exact Below.refl _ _) | apply below_alloc _ (Nat.le_refl _) | refine below_set ?_ (by first | exact Nat.le_refl _ | omega) | apply below_drewN | refine below_step ?_ HB)))
        · have HT := Lib.hid (mul_test ⟨a1, a2⟩ ⟨b1, b2⟩ z c1 c2)
          have HM : Hid (InR (a * b) → wrap64 (a * b) = a * b) := Lib.hid (fun h => wrap64_in h)
          by_cases e1 : a = -1
          · have e1' : (a == -1) = true := by simpa using e1
            have e2' : (b == -9223372036854775808) = false := by simp; intro k; exact c1 ⟨e1, k⟩
            have e4' : (a == -9223372036854775808) = false := by simp; omega
            clear c1 c2 e1
            by_cases e2 : b = -1
            · have e3' : (b == -1) = true := by simpa using e2
              clear e2
              go_enter Try.func33, Try.ntmps33
              go_wp2
              go_quiet (fail)
              go_wp2
              go_ret2
              exact rnum_mk (a * b) _ _ rfl rfl (by rw [← HT.out]; simp) HM.out (by (repeat (first | (with_reducible exact Below.refl _ _) | apply below_alloc _ (Nat.le_refl _) | refine below_set ?_ (by first | exact Nat.le_refl _ | omega) | apply below_drewN | refine below_step ?_ HB)))
            · have e3' : (b == -1) = false := by simpa using e2
              clear e2
              go_enter Try.func33, Try.ntmps33
              go_wp2
              go_quiet (fail)
              go_wp2
              go_ret2
              exact rnum_mk (a * b) _ _ rfl rfl (by rw [← HT.out]; simp) HM.out (by (repeat (first | (with_reducible exact Below.refl _ _) | apply below_alloc _ (Nat.le_refl _) | refine below_set ?_ (by first | exact Nat.le_refl _ | omega) | apply below_drewN | refine below_step ?_ HB)))
          · have e1' : (a == -1) = false := by simpa using e1
            by_cases e2 : b = -1
            · have e3' : (b == -1) = true := by simpa using e2
              have e4' : (a == -9223372036854775808) = false := by simp; intro k; exact c2 ⟨e2, k⟩
              clear c1 c2 e1 e2
              go_enter Try.func33, Try.ntmps33
              go_wp2
              go_quiet (fail)
              go_wp2
              go_ret2
              exact rnum_mk (a * b) _ _ rfl rfl (by rw [← HT.out]; simp) HM.out (by (repeat (first | (with_reducible exact Below.refl _ _) | apply below_alloc _ (Nat.le_refl _) | refine below_set ?_ (by first | exact Nat.le_refl _ | omega) | apply below_drewN | refine below_step ?_ HB)))
            · have e3' : (b == -1) = false := by simpa using e2
              clear c1 c2 e1 e2
              go_enter Try.func33, Try.ntmps33
              go_wp2
              go_quiet (fail)
              go_wp2
              go_ret2
              exact rnum_mk (a * b) _ _ rfl rfl (by rw [← HT.out]; simp) HM.out (by (repeat (first | (with_reducible exact Below.refl _ _) | apply below_alloc _ (Nat.le_refl _) | refine below_set ?_ (by first | exact Nat.le_refl _ | omega) | apply below_drewN | refine below_step ?_ HB)))
  · have h0' : b ≠ 0 := h0 rfl
    clear h0
    have HW : Hid (¬ (a = -9223372036854775808 ∧ b = -1) → wrap64 (a.tdiv b) = a.tdiv b) := Lib.hid (fun h => wrap64_in (tdiv_in ⟨a1, a2⟩ h0' h))
    by_cases z : a = -9223372036854775808
    · subst z
      go_enter Try.func33, Try.ntmps33
      go_wp2
      go_ret2
      exact div_mk _ _ rfl h0' (by simp) (fun h => by rw [← Int.neg_tdiv]; exact HW.out (by simpa using h)) (by (repeat (first | (with_reducible exact Below.refl _ _) | apply below_alloc _ (Nat.le_refl _) | refine below_set ?_ (by first | exact Nat.le_refl _ | omega) | apply below_drewN | refine below_step ?_ HB)))
    · have z1 : (a == -9223372036854775808) = false := by simpa using z
      go_enter Try.func33, Try.ntmps33
      go_wp2
      go_ret2
      exact div_mk _ _ rfl h0' (by simp [z]) HW.out (by (repeat (first | (with_reducible exact Below.refl _ _) | apply below_alloc _ (Nat.le_refl _) | refine below_set ?_ (by first | exact Nat.le_refl _ | omega) | apply below_drewN | refine below_step ?_ HB)))
end Go.Proofs.Ytekldpghidmeaaa
