/- Walks of package value (layer 1), the ops of values: what each function hands back. -/
import Derived.Test.YtbhajjinlbadhaaVal2
namespace Go.Proofs.Ytbhajjinlbadhaa
open Go.RowKit
set_option linter.unusedVariables false
set_option linter.unusedSimpArgs false
attribute [local go_sem high] eqVal
theorem hasVals_new2 {W0 : World} {t b : Nat} {k n k' n' : Int} {s s' : ByteArray} (hb : b = W0.heap.size) :
    HasVals (W0.alloc (.cells #[.int .i64 k, .int .i64 n, .string s, .int .i64 k', .int .i64 n', .string s'] t)) b [⟨k, n, s⟩, ⟨k', n', s'⟩] := by
  subst hb
  intro i hi
  match i, hi with
  | 0, _ => exact ⟨by simp, by simp, by simp⟩
  | 1, _ => exact ⟨by simp, by simp, by simp⟩
theorem hasVals_new1 {W0 : World} {t b : Nat} {k n : Int} {s : ByteArray} (hb : b = W0.heap.size) :
    HasVals (W0.alloc (.cells #[.int .i64 k, .int .i64 n, .string s] t)) b [⟨k, n, s⟩] := by
  subst hb
  intro i hi
  match i, hi with
  | 0, _ => exact ⟨by simp, by simp, by simp⟩
set_option maxRecDepth 100000 in
set_option maxHeartbeats 4000000 in
theorem Reckon_out (op k n : Int) (s : ByteArray) (k' n' : Int) (s' : ByteArray) (w : World) (h1 : op < 4 ∨ 13 < op) :
    Calls Try.prog 25 #[.int .i64 op, .agg #[.int .i64 k, .int .i64 n, .string s], .agg #[.int .i64 k', .int .i64 n', .string s']] w fun e w' => e = .returned (.tuple #[.agg #[.int .i64 (vreckon op ⟨k, n, s⟩ ⟨k', n', s'⟩).1.k, .int .i64 (vreckon op ⟨k, n, s⟩ ⟨k', n', s'⟩).1.n, .string (vreckon op ⟨k, n, s⟩ ⟨k', n', s'⟩).1.s], .int .i64 (vreckon op ⟨k, n, s⟩ ⟨k', n', s'⟩).2]) ∧ Below w.heap.size w w' := by
  generalize hR : vreckon op ⟨k, n, s⟩ ⟨k', n', s'⟩ = R
  have HR := Lib.hid hR
  clear hR
  have h2 : ¬ (4 ≤ op ∧ op ≤ 13) := by omega
  go_enter Try.func25, Try.ntmps25
  go_wp2
  all_goals
    refine bodyPost_ret (v := .tuple #[.agg #[.int .i64 R.1.k, .int .i64 R.1.n, .string R.1.s], .int .i64 R.2]) ?_ rfl ⟨rfl, (by (repeat (first | (with_reducible exact Below.refl _ _) | apply below_alloc _ (Nat.le_refl _) | refine below_set ?_ (by first | exact Nat.le_refl _ | omega) | apply below_drewN | refine below_step ?_ HB)))⟩
    rw [← HR.out, vreckon, if_pos h1]
    simp [results, Try.results25, go_sem, V.nul]
set_option maxRecDepth 100000 in
set_option maxHeartbeats 4000000 in
theorem Reckon_num (op k n : Int) (s : ByteArray) (k' n' : Int) (s' : ByteArray) (w : World) (hn : InR n) (hn' : InR n') (g1 : 4 ≤ op) (h2 : op ≤ 7) :
    Calls Try.prog 25 #[.int .i64 op, .agg #[.int .i64 k, .int .i64 n, .string s], .agg #[.int .i64 k', .int .i64 n', .string s']] w fun e w' => e = .returned (.tuple #[.agg #[.int .i64 (vreckon op ⟨k, n, s⟩ ⟨k', n', s'⟩).1.k, .int .i64 (vreckon op ⟨k, n, s⟩ ⟨k', n', s'⟩).1.n, .string (vreckon op ⟨k, n, s⟩ ⟨k', n', s'⟩).1.s], .int .i64 (vreckon op ⟨k, n, s⟩ ⟨k', n', s'⟩).2]) ∧ Below w.heap.size w w' := by
  generalize hR : vreckon op ⟨k, n, s⟩ ⟨k', n', s'⟩ = R
  have HR := Lib.hid hR
  clear hR
  have g2 : op ≤ 13 := by omega
  have HV : Hid (R = _) := Lib.hid (by rw [← HR.out, vreckon, if_neg (by omega), if_pos h2])
  clear HR
  go_enter Try.func25, Try.ntmps25
  go_wp2_with fail
  refine (fit_any 1 [⟨k, n, s⟩, ⟨k', n', s'⟩] _ _ _ (by simp) (by simp) (hasVals_new2 (by simp))).mono ?_
  rintro e w' ⟨rfl, HB⟩
  obtain ⟨hc, hf, hs⟩ := bcell HB
  generalize vfit 1 false [⟨k, n, s⟩, ⟨k', n', s'⟩] = F at *
  have hr := fun W => reckon_any op n n' W ⟨g1, h2⟩ hn hn'
  generalize nreckon op n n' = M at *
  go_wp2_with (go_at_call 43; refine (hr _).mono ?_; rintro e w' ⟨rfl, rfl⟩)
  all_goals
    refine bodyPost_ret (v := .tuple #[.agg #[.int .i64 R.1.k, .int .i64 R.1.n, .string R.1.s], .int .i64 R.2]) ?_ rfl ⟨rfl, (by (repeat (first | (with_reducible exact Below.refl _ _) | apply below_alloc _ (Nat.le_refl _) | refine below_set ?_ (by first | exact Nat.le_refl _ | omega) | apply below_drewN | refine below_step ?_ HB)))⟩
    rw [HV.out]
    clear hr
    simp_all [results, Try.results25, go_sem, V.nul, V.num]
set_option maxRecDepth 100000 in
set_option maxHeartbeats 4000000 in
theorem Reckon_none (op k n : Int) (s : ByteArray) (k' n' : Int) (s' : ByteArray) (w : World) (g1 : 8 ≤ op) (g2 : op ≤ 13) (hk : (vcompare ⟨k, n, s⟩ ⟨k', n', s'⟩).2.1 = false) :
    Calls Try.prog 25 #[.int .i64 op, .agg #[.int .i64 k, .int .i64 n, .string s], .agg #[.int .i64 k', .int .i64 n', .string s']] w fun e w' => e = .returned (.tuple #[.agg #[.int .i64 (vreckon op ⟨k, n, s⟩ ⟨k', n', s'⟩).1.k, .int .i64 (vreckon op ⟨k, n, s⟩ ⟨k', n', s'⟩).1.n, .string (vreckon op ⟨k, n, s⟩ ⟨k', n', s'⟩).1.s], .int .i64 (vreckon op ⟨k, n, s⟩ ⟨k', n', s'⟩).2]) ∧ Below w.heap.size w w' := by
  generalize hR : vreckon op ⟨k, n, s⟩ ⟨k', n', s'⟩ = R
  have HR := Lib.hid hR
  clear hR
  have HV : Hid (R = _) := Lib.hid (by rw [← HR.out, vreckon, if_neg (by omega), if_neg (by omega), if_pos hk])
  clear HR
  have hcmp := fun W => compare_any k n s k' n' s' W
  generalize vcompare ⟨k, n, s⟩ ⟨k', n', s'⟩ = C at *
  obtain ⟨c, kn, e0⟩ := C
  dsimp only at hk
  subst hk
  have h4 : ¬ op < 4 := by omega
  have h5 : ¬ op ≤ 7 := by omega
  go_enter Try.func25, Try.ntmps25
  go_wp2_with (go_at_call 44; refine (hcmp _).mono ?_; rintro e w' ⟨rfl, HB⟩; obtain ⟨hc, hf, hs⟩ := bcell HB; clear hcmp)
  all_goals
    refine bodyPost_ret (v := .tuple #[.agg #[.int .i64 R.1.k, .int .i64 R.1.n, .string R.1.s], .int .i64 R.2]) ?_ rfl ⟨rfl, (by (repeat (first | (with_reducible exact Below.refl _ _) | apply below_alloc _ (Nat.le_refl _) | refine below_set ?_ (by first | exact Nat.le_refl _ | omega) | apply below_drewN | refine below_step ?_ HB)))⟩
    rw [HV.out]
    simp_all [results, Try.results25, go_sem, V.nul, V.num]
set_option maxRecDepth 100000 in
set_option maxHeartbeats 4000000 in
theorem Reckon_told (op k n : Int) (s : ByteArray) (k' n' : Int) (s' : ByteArray) (w : World) (g1 : 8 ≤ op) (g2 : op ≤ 13) (hk : (vcompare ⟨k, n, s⟩ ⟨k', n', s'⟩).2.1 = true) :
    Calls Try.prog 25 #[.int .i64 op, .agg #[.int .i64 k, .int .i64 n, .string s], .agg #[.int .i64 k', .int .i64 n', .string s']] w fun e w' => e = .returned (.tuple #[.agg #[.int .i64 (vreckon op ⟨k, n, s⟩ ⟨k', n', s'⟩).1.k, .int .i64 (vreckon op ⟨k, n, s⟩ ⟨k', n', s'⟩).1.n, .string (vreckon op ⟨k, n, s⟩ ⟨k', n', s'⟩).1.s], .int .i64 (vreckon op ⟨k, n, s⟩ ⟨k', n', s'⟩).2]) ∧ Below w.heap.size w w' := by
  generalize hR : vreckon op ⟨k, n, s⟩ ⟨k', n', s'⟩ = R
  have HR := Lib.hid hR
  clear hR
  have HV : Hid (R = _) := Lib.hid (by rw [← HR.out, vreckon, if_neg (by omega), if_neg (by omega), if_neg (by simp [hk])])
  clear HR
  have hK := vcompare_known ⟨k, n, s⟩ ⟨k', n', s'⟩ hk
  have hcmp := fun W => compare_any k n s k' n' s' W
  generalize vcompare ⟨k, n, s⟩ ⟨k', n', s'⟩ = C at *
  obtain ⟨c, kn, e0⟩ := C
  dsimp only at hk hK
  subst hk
  have h4 : ¬ op < 4 := by omega
  have h5 : ¬ op ≤ 7 := by omega
  go_enter Try.func25, Try.ntmps25
  go_wp2_with fail
  refine (hcmp _).mono ?_
  rintro e w' ⟨rfl, HB⟩
  obtain ⟨hc, hf, hs⟩ := bcell HB
  clear hcmp
  obtain rfl | rfl | rfl | rfl | rfl | rfl : op = 8 ∨ op = 9 ∨ op = 10 ∨ op = 11 ∨ op = 12 ∨ op = 13 := by omega
  all_goals rcases hK with rfl | rfl | rfl
  all_goals
    clear g1 g2 h4 h5
    go_wp2_with (go_at_call 45; refine (bool_any _ _).mono ?_; rintro e w2 ⟨rfl, hb⟩; replace HB := below_step HB (below_step (below_alloc (Below.refl _ _) (Nat.le_refl _) _) hb); clear hb hc hf hs; obtain ⟨hc, hf, hs⟩ := bcell HB)
  all_goals
    refine bodyPost_ret (v := .tuple #[.agg #[.int .i64 R.1.k, .int .i64 R.1.n, .string R.1.s], .int .i64 R.2]) ?_ rfl ⟨rfl, (by (repeat (first | (with_reducible exact Below.refl _ _) | apply below_alloc _ (Nat.le_refl _) | refine below_set ?_ (by first | exact Nat.le_refl _ | omega) | apply below_drewN | refine below_step ?_ HB)))⟩
    rw [HV.out]
    simp [results, Try.results25, go_sem, told, vbool, hc, hf]
theorem Reckon_any (op k n : Int) (s : ByteArray) (k' n' : Int) (s' : ByteArray) (w : World) (hn : InR n) (hn' : InR n') :
    Calls Try.prog 25 #[.int .i64 op, .agg #[.int .i64 k, .int .i64 n, .string s], .agg #[.int .i64 k', .int .i64 n', .string s']] w fun e w' => e = .returned (.tuple #[.agg #[.int .i64 (vreckon op ⟨k, n, s⟩ ⟨k', n', s'⟩).1.k, .int .i64 (vreckon op ⟨k, n, s⟩ ⟨k', n', s'⟩).1.n, .string (vreckon op ⟨k, n, s⟩ ⟨k', n', s'⟩).1.s], .int .i64 (vreckon op ⟨k, n, s⟩ ⟨k', n', s'⟩).2]) ∧ Below w.heap.size w w' := by
  by_cases h1 : op < 4 ∨ 13 < op
  · exact Reckon_out op k n s k' n' s' w h1
  · by_cases h2 : op ≤ 7
    · exact Reckon_num op k n s k' n' s' w hn hn' (by omega) h2
    · cases hk : (vcompare ⟨k, n, s⟩ ⟨k', n', s'⟩).2.1 with
      | false => exact Reckon_none op k n s k' n' s' w (by omega) (by omega) hk
      | true => exact Reckon_told op k n s k' n' s' w (by omega) (by omega) hk
end Go.Proofs.Ytbhajjinlbadhaa
