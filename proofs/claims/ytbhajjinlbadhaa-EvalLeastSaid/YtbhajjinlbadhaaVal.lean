/- Walks of package value (layer 1): what each function hands back. -/
import Derived.Test.YtbhajjinlbadhaaProg
import Derived.Test.YtbhajjinlbadhaaBase
import Derived.Test.YtbhajjinlbadhaaSpec
import Derived.Shelf.Bits.Mul64
namespace Go.Proofs.Ytbhajjinlbadhaa
open Go.RowKit
set_option linter.unusedVariables false
set_option linter.unusedSimpArgs false
theorem eqVal (d : Nat) (w : World) (x0 y0 x1 y1 : Int) (x2 y2 : ByteArray) :
    (Op.equalIn (d + 2) 23 (.agg #[.int .i64 x0, .int .i64 x1, .string x2]) (.agg #[.int .i64 y0, .int .i64 y1, .string y2])).run Try.prog w = .ok (sameB x0 x1 x2 y0 y1 y2) w := by
  refine eqA_of Try.underlying23 (by kernel_rfl) ?_
  refine eqf_cons (by rfl) (by go_simp; rfl) (by go_simp; rfl) (by go_simp) ?_
  refine eqf_cons (by rfl) (by go_simp; rfl) (by go_simp; rfl) (by go_simp) ?_
  exact eqf_last (by rfl) (by go_simp; rfl) (by go_simp; rfl) (by go_simp)
attribute [local go_sem high] eqVal
set_option maxRecDepth 100000 in
theorem check_any (k n : Int) (s : ByteArray) (w : World) :
    Calls Try.prog 60 #[.agg #[.int .i64 k, .int .i64 n, .string s]] w fun e w' => e = .returned (.int .i64 (vcheck ⟨k, n, s⟩)) ∧ Below w.heap.size w w' := by
  go_enter Try.func60, Try.ntmps60
  go_wp2
  all_goals
    go_ret
    exact ⟨ret_int (by first | (simp_all [vcheck, sameB]; done) | (simp_all [vcheck, sameB]; grind)), (by (repeat (first | (with_reducible exact Below.refl _ _) | apply below_alloc _ (Nat.le_refl _) | refine below_set ?_ (by first | exact Nat.le_refl _ | omega) | apply below_drewN | refine below_step ?_ HB)))⟩
theorem nanI_any (a : Int) (w : World) : Calls Try.prog 46 #[.int .i64 a] w fun e w' => e = .returned (.bool false) ∧ w = w' := by
  go_enter Try.func46, Try.ntmps46
  go_wp2
  go_ret
  exact ⟨by simp, rfl⟩
theorem nanS_any (a : ByteArray) (w : World) : Calls Try.prog 47 #[.string a] w fun e w' => e = .returned (.bool false) ∧ w = w' := by
  go_enter Try.func47, Try.ntmps47
  go_wp2
  go_ret
  exact ⟨by simp, rfl⟩
theorem cmpI_any (a b : Int) (w : World) : Calls Try.prog 26 #[.int .i64 a, .int .i64 b] w fun e w' => e = .returned (.int .i64 (cmpI a b)) ∧ w = w' := by
  go_enter Try.func26, Try.ntmps26
  go_wp2_with (go_at_call 46; refine (nanI_any _ _).mono ?_; rintro e w' ⟨rfl, rfl⟩)
  all_goals
    go_ret
    exact ⟨ret_int (by unfold cmpI; (repeat split) <;> omega), rfl⟩
theorem cmpS_any (a b : ByteArray) (w : World) : Calls Try.prog 27 #[.string a, .string b] w fun e w' => e = .returned (.int .i64 (cmpS a b)) ∧ w = w' := by
  go_enter Try.func27, Try.ntmps27
  go_wp2_with (go_at_call 47; refine (nanS_any _ _).mono ?_; rintro e w' ⟨rfl, rfl⟩)
  all_goals
    go_ret
    exact ⟨ret_int (by simp_all [cmpS]), rfl⟩
set_option maxRecDepth 100000 in
theorem order_any (k n : Int) (s : ByteArray) (k' n' : Int) (s' : ByteArray) (w : World) :
    Calls Try.prog 10 #[.agg #[.int .i64 k, .int .i64 n, .string s], .agg #[.int .i64 k', .int .i64 n', .string s']] w fun e w' => e = .returned (.int .i64 (vorder ⟨k, n, s⟩ ⟨k', n', s'⟩)) ∧ Below w.heap.size w w' := by
  go_enter Try.func10, Try.ntmps10
  go_wp2_with (first | (go_at_call 26; refine (cmpI_any _ _ _).mono ?_; rintro e w' ⟨rfl, rfl⟩) | (go_at_call 27; refine (cmpS_any _ _ _).mono ?_; rintro e w' ⟨rfl, rfl⟩))
  all_goals
    go_ret
    exact ⟨ret_int (by simp_all [vorder]), (by (repeat (first | (with_reducible exact Below.refl _ _) | apply below_alloc _ (Nat.le_refl _) | refine below_set ?_ (by first | exact Nat.le_refl _ | omega) | apply below_drewN | refine below_step ?_ HB)))⟩
set_option maxRecDepth 100000 in
theorem compare_any (k n : Int) (s : ByteArray) (k' n' : Int) (s' : ByteArray) (w : World) :
    Calls Try.prog 44 #[.agg #[.int .i64 k, .int .i64 n, .string s], .agg #[.int .i64 k', .int .i64 n', .string s']] w fun e w' => e = .returned (.tuple #[.int .i64 (vcompare ⟨k, n, s⟩ ⟨k', n', s'⟩).1, .bool (vcompare ⟨k, n, s⟩ ⟨k', n', s'⟩).2.1, .int .i64 (vcompare ⟨k, n, s⟩ ⟨k', n', s'⟩).2.2]) ∧ Below w.heap.size w w' := by
  go_enter Try.func44, Try.ntmps44
  go_wp2_with (first | (go_at_call 60; refine (check_any _ _ _ _).mono ?_; rintro e w' ⟨rfl, hb⟩; (first | (replace HB := below_step HB hb) | (have HB := hb)); clear hb; (try clear hc hf hs hz); (try clear hs0); (try clear hs1); (try clear hs2); (try clear hs3); (try clear hs4); (try clear hs5); (try clear hs6); (try clear hs7); obtain ⟨hc, hf, hs⟩ := bcell HB; have hz := HB.size; (try simp at hz); (try (rcases Nat.lt_or_ge (w.heap.size) w'.heap.size with hs0 | hs0; rotate_left; (exfalso; omega))); (try (rcases Nat.lt_or_ge (w.heap.size + 1) w'.heap.size with hs1 | hs1; rotate_left; (exfalso; omega))); (try (rcases Nat.lt_or_ge (w.heap.size + 2) w'.heap.size with hs2 | hs2; rotate_left; (exfalso; omega))); (try (rcases Nat.lt_or_ge (w.heap.size + 3) w'.heap.size with hs3 | hs3; rotate_left; (exfalso; omega))); (try (rcases Nat.lt_or_ge (w.heap.size + 4) w'.heap.size with hs4 | hs4; rotate_left; (exfalso; omega))); (try (rcases Nat.lt_or_ge (w.heap.size + 5) w'.heap.size with hs5 | hs5; rotate_left; (exfalso; omega))); (try (rcases Nat.lt_or_ge (w.heap.size + 6) w'.heap.size with hs6 | hs6; rotate_left; (exfalso; omega))); (try (rcases Nat.lt_or_ge (w.heap.size + 7) w'.heap.size with hs7 | hs7; rotate_left; (exfalso; omega)))) | (go_at_call 10; refine (order_any _ _ _ _ _ _ _).mono ?_; rintro e w' ⟨rfl, hb⟩; (first | (replace HB := below_step HB hb) | (have HB := hb)); clear hb; (try clear hc hf hs hz); (try clear hs0); (try clear hs1); (try clear hs2); (try clear hs3); (try clear hs4); (try clear hs5); (try clear hs6); (try clear hs7); obtain ⟨hc, hf, hs⟩ := bcell HB; have hz := HB.size; (try simp at hz); (try (rcases Nat.lt_or_ge (w.heap.size) w'.heap.size with hs0 | hs0; rotate_left; (exfalso; omega))); (try (rcases Nat.lt_or_ge (w.heap.size + 1) w'.heap.size with hs1 | hs1; rotate_left; (exfalso; omega))); (try (rcases Nat.lt_or_ge (w.heap.size + 2) w'.heap.size with hs2 | hs2; rotate_left; (exfalso; omega))); (try (rcases Nat.lt_or_ge (w.heap.size + 3) w'.heap.size with hs3 | hs3; rotate_left; (exfalso; omega))); (try (rcases Nat.lt_or_ge (w.heap.size + 4) w'.heap.size with hs4 | hs4; rotate_left; (exfalso; omega))); (try (rcases Nat.lt_or_ge (w.heap.size + 5) w'.heap.size with hs5 | hs5; rotate_left; (exfalso; omega))); (try (rcases Nat.lt_or_ge (w.heap.size + 6) w'.heap.size with hs6 | hs6; rotate_left; (exfalso; omega))); (try (rcases Nat.lt_or_ge (w.heap.size + 7) w'.heap.size with hs7 | hs7; rotate_left; (exfalso; omega)))))
  all_goals
    go_ret3
    exact ⟨by simp_all [vcompare], (by (repeat (first | (with_reducible exact Below.refl _ _) | apply below_alloc _ (Nat.le_refl _) | refine below_set ?_ (by first | exact Nat.le_refl _ | omega) | apply below_drewN | refine below_step ?_ HB)))⟩
/-- A row of values, from the head of block b on. -/
def HasVals (w : World) (b : Nat) (l : List V) : Prop :=
  ∀ i, i < l.length → w.cell? ⟨b, i * 3, none⟩ = some (.int .i64 (l.getD i .nul).k) ∧ w.cell? ⟨b, i * 3 + 1, none⟩ = some (.int .i64 (l.getD i .nul).n) ∧ w.cell? ⟨b, i * 3 + 2, none⟩ = some (.string (l.getD i .nul).s)
set_option maxRecDepth 100000 in
theorem fit_any (kind : Int) (l : List V) (b c : Nat) (w : World) (hl : l.length ≤ 1000) (hb : b < w.heap.size) (hv : HasVals w b l) :
    Calls Try.prog 42 #[.int .i64 kind, .slice (some ⟨b, 0, none⟩) l.length c] w fun e w' => e = .returned (.tuple #[.bool (vfit kind false l).1, .int .i64 (vfit kind false l).2]) ∧ Below w.heap.size w w' := by
  have HV := Lib.hid hv
  clear hv
  go_enter Try.func42, Try.ntmps42
  go_wp2
  go_loopw [4, 10] (fun s i wr => ∃ k : Nat, k ≤ l.length ∧ i = .int .i64 k ∧ ∃ sm : Bool, s = .bool sm ∧ Hid (vfit kind false l = vfit kind sm (l.drop k)) ∧ Below w.heap.size w wr) (fun _ i _ => l.length - (intOf i).toNat)
  case atStart => exact ⟨0, Nat.zero_le _, rfl, false, rfl, Lib.hid (by simp), Below.refl _ _⟩
  case round =>
    obtain ⟨k, hk, rfl, sm, rfl, HE, HB0⟩ := hrel
    by_cases hlt : k < l.length
    · obtain ⟨h0, h1, h2⟩ := HV.out k hlt
      have g0 := (HB0.cell (p := ⟨b, k * 3, none⟩) hb).trans h0
      have g1 := (HB0.cell (p := ⟨b, k * 3 + 1, none⟩) hb).trans h1
      have g2 := (HB0.cell (p := ⟨b, k * 3 + 2, none⟩) hb).trans h2
      clear h0 h1 h2
      have HD : Hid (l.drop k = l.getD k .nul :: l.drop (k + 1)) := Lib.hid (by rw [List.drop_eq_getElem_cons hlt, List.getD_eq_getElem?_getD, List.getElem?_eq_getElem hlt]; rfl)
      generalize l.getD k .nul = v at g0 g1 g2 HD
      obtain ⟨vk, vn, vs⟩ := v
      dsimp only at g0 g1 g2
      go_wp2_with (go_at_call 60; refine (check_any _ _ _ _).mono ?_; rintro e w' ⟨rfl, hb⟩; (first | (replace HB := below_step HB hb) | (have HB := hb)); clear hb; (try clear hc hf hs hz); (try clear hs0); (try clear hs1); (try clear hs2); (try clear hs3); (try clear hs4); (try clear hs5); (try clear hs6); (try clear hs7); obtain ⟨hc, hf, hs⟩ := bcell HB; have hz := HB.size; (try simp at hz); (try (rcases Nat.lt_or_ge (w.heap.size) w'.heap.size with hs0 | hs0; rotate_left; (exfalso; omega))); (try (rcases Nat.lt_or_ge (w.heap.size + 1) w'.heap.size with hs1 | hs1; rotate_left; (exfalso; omega))); (try (rcases Nat.lt_or_ge (w.heap.size + 2) w'.heap.size with hs2 | hs2; rotate_left; (exfalso; omega))); (try (rcases Nat.lt_or_ge (w.heap.size + 3) w'.heap.size with hs3 | hs3; rotate_left; (exfalso; omega))); (try (rcases Nat.lt_or_ge (w.heap.size + 4) w'.heap.size with hs4 | hs4; rotate_left; (exfalso; omega))); (try (rcases Nat.lt_or_ge (w.heap.size + 5) w'.heap.size with hs5 | hs5; rotate_left; (exfalso; omega))); (try (rcases Nat.lt_or_ge (w.heap.size + 6) w'.heap.size with hs6 | hs6; rotate_left; (exfalso; omega))); (try (rcases Nat.lt_or_ge (w.heap.size + 7) w'.heap.size with hs7 | hs7; rotate_left; (exfalso; omega))))
      all_goals first
        | (go_roundw
           case rel => exact ⟨k + 1, by omega, by go_num, _, rfl, Lib.hid (by rw [HE.out, HD.out]; clear HE HD HV; simp_all [vfit]), below_step (below_alloc HB0 (Nat.le_refl _) _) HB⟩
           case measure => simp [intOf]; omega)
        | (go_ret2
           exact ⟨by rw [HE.out, HD.out]; clear HE HD HV; simp_all [vfit], below_step (below_alloc HB0 (Nat.le_refl _) _) HB⟩)
    · go_wp2
      go_ret2
      exact ⟨by rw [HE.out, List.drop_eq_nil_of_le (by omega)]; rfl, HB0⟩
end Go.Proofs.Ytbhajjinlbadhaa
