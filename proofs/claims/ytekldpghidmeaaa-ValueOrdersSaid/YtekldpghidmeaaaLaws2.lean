/- Walks of the laws of layer 1: the order. -/
import Derived.Test.YtekldpghidmeaaaAlive
import Derived.Test.YtekldpghidmeaaaRef1c
namespace Go.Proofs.Ytekldpghidmeaaa
open Go.RowKit
set_option linter.unusedVariables false
set_option linter.unusedSimpArgs false
attribute [local go_sem high] eqVal
theorem cmpI_swap (a b : Int) : cmpI a b = -cmpI b a := by unfold cmpI; (repeat' split) <;> omega
theorem less_asym (a b : List UInt8) (h : Op.bytesLess a b = true) : Op.bytesLess b a = false := by rw [← less_total a b]; simp [h]
theorem cmpS_swap (a b : ByteArray) : cmpS a b = -cmpS b a := by
  unfold cmpS
  by_cases h1 : Op.bytesLess a.toList b.toList = true
  · simp [h1, less_asym _ _ h1]
  · by_cases h2 : Op.bytesLess b.toList a.toList = true <;> simp [h1, h2]
theorem vorder_swap (a b : V) : vorder a b = -vorder b a := by
  have h1 := cmpI_swap a.k b.k
  have h2 := cmpI_swap a.n b.n
  have h3 := cmpS_swap a.s b.s
  have h4 : cmpI a.k b.k = 0 → a.k = b.k := by unfold cmpI; (repeat' split) <;> omega
  unfold vorder
  by_cases e : cmpI a.k b.k = 0
  · have e' : cmpI b.k a.k = 0 := by omega
    have ek := h4 e
    rw [ek] at e e' ⊢
    by_cases q1 : b.k = 1 ∨ b.k = 2
    · simp only [e, ne_eq, not_true, if_false, q1, if_true]; exact h2
    · by_cases q2 : b.k = 3
      · simp only [e, ne_eq, not_true, if_false, q1, q2, if_true]; exact h3
      · simp only [e, ne_eq, not_true, if_false, q1, q2]; rfl
  · rw [if_pos e, if_pos (by omega)]; exact h1
theorem less_trans : ∀ a b c : List UInt8, Op.bytesLess a b = true → Op.bytesLess b c = true → Op.bytesLess a c = true
  | [], [], _, h, _ => by simp [Op.bytesLess] at h
  | [], _ :: _, [], _, h => by simp [Op.bytesLess] at h
  | [], _ :: _, _ :: _, _, _ => by simp [Op.bytesLess]
  | _ :: _, [], _, h, _ => by simp [Op.bytesLess] at h
  | _ :: _, _ :: _, [], _, h => by simp [Op.bytesLess] at h
  | a :: l, b :: m, c :: n, h, g => by
    have ih := less_trans l m n
    simp only [Op.bytesLess, Bool.or_eq_true, decide_eq_true_eq, Bool.and_eq_true, beq_iff_eq] at *
    rcases h with h | ⟨rfl, h⟩
    · rcases g with g | ⟨rfl, g⟩
      · exact .inl (by rw [UInt8.lt_iff_toNat_lt] at *; omega)
      · exact .inl h
    · rcases g with g | ⟨rfl, g⟩
      · exact .inl g
      · exact .inr ⟨rfl, ih h g⟩
theorem cmpS_zero (a b : ByteArray) : cmpS a b = 0 ↔ a.toList = b.toList := by
  have h := less_total a.toList b.toList
  unfold cmpS
  by_cases h1 : Op.bytesLess a.toList b.toList = true
  · simp [h1]; intro e; rw [e, less_irrefl] at h1; cases h1
  · by_cases h2 : a.toList = b.toList
    · simp [h2, less_irrefl]
    · have h3 : Op.bytesLess b.toList a.toList = true := by rw [← h]; simp [h1, h2]
      simp [h1, h2, h3]
theorem cmpS_trans (a b c : ByteArray) (h : cmpS a b ≤ 0) (g : cmpS b c ≤ 0) : cmpS a c ≤ 0 ∧ (cmpS a c = 0 → cmpS a b = 0 ∧ cmpS b c = 0) ∧ (cmpS a b = 0 → cmpS b c = 0 → cmpS a c = 0) := by
  have t1 := cmpS_three a b
  have t2 := cmpS_three b c
  have neg : ∀ x y : ByteArray, cmpS x y = -1 ↔ Op.bytesLess x.toList y.toList = true := fun x y => by
    unfold cmpS; by_cases h1 : Op.bytesLess x.toList y.toList = true <;> by_cases h2 : Op.bytesLess y.toList x.toList = true <;> simp [h1, h2]
  have key : cmpS a b = -1 ∨ cmpS b c = -1 → cmpS a c = -1 := by
    intro hk
    rcases t1 with t1 | t1 | t1
    · rcases t2 with t2 | t2 | t2
      · exact (neg _ _).2 (less_trans _ _ _ ((neg _ _).1 t1) ((neg _ _).1 t2))
      · rw [neg, ← (cmpS_zero b c).1 t2]; exact (neg _ _).1 t1
      · omega
    · rw [neg, (cmpS_zero a b).1 t1]; exact (neg _ _).1 (by omega)
    · omega
  have eq0 : cmpS a b = 0 → cmpS b c = 0 → cmpS a c = 0 := fun e1 e2 => (cmpS_zero a c).2 (((cmpS_zero a b).1 e1).trans ((cmpS_zero b c).1 e2))
  have t3 := cmpS_three a c
  refine ⟨?_, ?_, eq0⟩
  · by_cases q : cmpS a b = -1 ∨ cmpS b c = -1
    · have := key q; omega
    · have := eq0 (by omega) (by omega); omega
  · intro e
    refine ⟨?_, ?_⟩
    · rcases t1 with t1 | t1 | t1
      · have := key (.inl t1); omega
      · exact t1
      · omega
    · rcases t2 with t2 | t2 | t2
      · have := key (.inr t2); omega
      · exact t2
      · omega
theorem vorder_trans (a b c : V) (h : vorder a b ≤ 0) (g : vorder b c ≤ 0) : vorder a c ≤ 0 ∧ (vorder a b = 0 → vorder b c = 0 → vorder a c = 0) := by
  have hs := cmpS_trans a.s b.s c.s
  unfold vorder at *
  unfold cmpI at *
  by_cases e1 : a.k = b.k <;> by_cases e2 : b.k = c.k <;> grind
theorem vorder_zero (a b : V) (ha : vcheck a = 0) (hb : vcheck b = 0) : vorder a b = 0 ↔ a.same b = true := by
  have hs := cmpS_zero a.s b.s
  unfold vorder cmpI V.same sameB at *
  unfold vcheck at ha hb
  by_cases e1 : a.k = b.k
  · simp only [e1, Int.lt_irrefl, if_false] at *
    have e0 : ∀ x y : Int, (if x < y then (-1 : Int) else if y < x then 1 else 0) = 0 ↔ x = y := fun x y => by (repeat' split) <;> omega
    simp only [ne_eq, not_true, if_false, beq_self_eq_true, Bool.true_and, Bool.and_eq_true, beq_iff_eq]
    split
    · rw [e0]; rename_i q; rcases q with q | q <;> simp [q] at ha hb <;> simp_all
    · split
      · rw [hs]; simp_all
      · by_cases q : b.k = 0 <;> simp_all
  · have : (if a.k < b.k then (-1 : Int) else if b.k < a.k then 1 else 0) ≠ 0 := by (repeat' split) <;> omega
    simp [this, e1]
set_option maxRecDepth 100000 in
set_option maxHeartbeats 4000000 in
theorem orders_any (k n : Int) (s : ByteArray) (k' n' : Int) (s' : ByteArray) (k2 n2 : Int) (s2 : ByteArray) (w : World) (hn : InR n) (hn' : InR n') (hn2 : InR n2) :
    Calls Try.prog 4 #[.agg #[.int .i64 k, .int .i64 n, .string s], .agg #[.int .i64 k', .int .i64 n', .string s'], .agg #[.int .i64 k2, .int .i64 n2, .string s2]] w fun e w' => e = .returned (.bool true) ∧ Below w.heap.size w w' := by
  have HF := Below.refl w.heap.size w
  go_enter Try.func4, Try.ntmps4
  go_wp2_with fail
  refine (alive_any _).mono ?_; rintro e w1 ⟨rfl, h⟩
  have qa0 : w1.cell? ⟨w.heap.size, 0, none⟩ = some (.int .i64 k) := (h.cell (by simp <;> omega)).trans (by go_simp)
  have qa1 : w1.cell? ⟨w.heap.size, 1, none⟩ = some (.int .i64 n) := (h.cell (by simp <;> omega)).trans (by go_simp)
  have qa2 : w1.cell? ⟨w.heap.size, 2, none⟩ = some (.string s) := (h.cell (by simp <;> omega)).trans (by go_simp)
  have la : w.heap.size < w1.heap.size := Nat.lt_of_lt_of_le (by simp <;> omega) h.size
  have qb0 : w1.cell? ⟨w.heap.size + 1, 0, none⟩ = some (.int .i64 k') := (h.cell (by simp <;> omega)).trans (by go_simp)
  have qb1 : w1.cell? ⟨w.heap.size + 1, 1, none⟩ = some (.int .i64 n') := (h.cell (by simp <;> omega)).trans (by go_simp)
  have qb2 : w1.cell? ⟨w.heap.size + 1, 2, none⟩ = some (.string s') := (h.cell (by simp <;> omega)).trans (by go_simp)
  have lb : w.heap.size + 1 < w1.heap.size := Nat.lt_of_lt_of_le (by simp <;> omega) h.size
  have qc0 : w1.cell? ⟨w.heap.size + 2, 0, none⟩ = some (.int .i64 k2) := (h.cell (by simp <;> omega)).trans (by go_simp)
  have qc1 : w1.cell? ⟨w.heap.size + 2, 1, none⟩ = some (.int .i64 n2) := (h.cell (by simp <;> omega)).trans (by go_simp)
  have qc2 : w1.cell? ⟨w.heap.size + 2, 2, none⟩ = some (.string s2) := (h.cell (by simp <;> omega)).trans (by go_simp)
  have lc : w.heap.size + 2 < w1.heap.size := Nat.lt_of_lt_of_le (by simp <;> omega) h.size
  have hh : Below w.heap.size w w1 := below_step (by repeat (first | (with_reducible exact Below.refl _ _) | apply below_alloc _ (Nat.le_refl _))) h
  replace HF := below_step HF hh
  clear h hh
  go_wp2_with fail
  refine (rcheck_any _ _ _ _ hn).mono ?_; rintro e w2 ⟨rfl, h⟩
  have hh : Below w1.heap.size w1 w2 := below_step (by repeat (first | (with_reducible exact Below.refl _ _) | apply below_alloc _ (Nat.le_refl _))) h
  replace qa0 := (hh.cell (World.block_lt_of_cell? _ _ qa0)).trans qa0
  replace qa1 := (hh.cell (World.block_lt_of_cell? _ _ qa1)).trans qa1
  replace qa2 := (hh.cell (World.block_lt_of_cell? _ _ qa2)).trans qa2
  replace la := Nat.lt_of_lt_of_le la hh.size
  replace qb0 := (hh.cell (World.block_lt_of_cell? _ _ qb0)).trans qb0
  replace qb1 := (hh.cell (World.block_lt_of_cell? _ _ qb1)).trans qb1
  replace qb2 := (hh.cell (World.block_lt_of_cell? _ _ qb2)).trans qb2
  replace lb := Nat.lt_of_lt_of_le lb hh.size
  replace qc0 := (hh.cell (World.block_lt_of_cell? _ _ qc0)).trans qc0
  replace qc1 := (hh.cell (World.block_lt_of_cell? _ _ qc1)).trans qc1
  replace qc2 := (hh.cell (World.block_lt_of_cell? _ _ qc2)).trans qc2
  replace lc := Nat.lt_of_lt_of_le lc hh.size
  replace HF := below_step HF hh
  clear h hh
  by_cases ha : vcheck ⟨k, n, s⟩ = 0
  · go_wp2_with fail
    refine (rcheck_any _ _ _ _ hn').mono ?_; rintro e w3 ⟨rfl, h⟩
    have hh : Below w2.heap.size w2 w3 := below_step (by repeat (first | (with_reducible exact Below.refl _ _) | apply below_alloc _ (Nat.le_refl _))) h
    replace qa0 := (hh.cell (World.block_lt_of_cell? _ _ qa0)).trans qa0
    replace qa1 := (hh.cell (World.block_lt_of_cell? _ _ qa1)).trans qa1
    replace qa2 := (hh.cell (World.block_lt_of_cell? _ _ qa2)).trans qa2
    replace la := Nat.lt_of_lt_of_le la hh.size
    replace qb0 := (hh.cell (World.block_lt_of_cell? _ _ qb0)).trans qb0
    replace qb1 := (hh.cell (World.block_lt_of_cell? _ _ qb1)).trans qb1
    replace qb2 := (hh.cell (World.block_lt_of_cell? _ _ qb2)).trans qb2
    replace lb := Nat.lt_of_lt_of_le lb hh.size
    replace qc0 := (hh.cell (World.block_lt_of_cell? _ _ qc0)).trans qc0
    replace qc1 := (hh.cell (World.block_lt_of_cell? _ _ qc1)).trans qc1
    replace qc2 := (hh.cell (World.block_lt_of_cell? _ _ qc2)).trans qc2
    replace lc := Nat.lt_of_lt_of_le lc hh.size
    replace HF := below_step HF hh
    clear h hh
    by_cases hb : vcheck ⟨k', n', s'⟩ = 0
    · go_wp2_with fail
      refine (rcheck_any _ _ _ _ hn2).mono ?_; rintro e w4 ⟨rfl, h⟩
      have hh : Below w3.heap.size w3 w4 := below_step (by repeat (first | (with_reducible exact Below.refl _ _) | apply below_alloc _ (Nat.le_refl _))) h
      replace qa0 := (hh.cell (World.block_lt_of_cell? _ _ qa0)).trans qa0
      replace qa1 := (hh.cell (World.block_lt_of_cell? _ _ qa1)).trans qa1
      replace qa2 := (hh.cell (World.block_lt_of_cell? _ _ qa2)).trans qa2
      replace la := Nat.lt_of_lt_of_le la hh.size
      replace qb0 := (hh.cell (World.block_lt_of_cell? _ _ qb0)).trans qb0
      replace qb1 := (hh.cell (World.block_lt_of_cell? _ _ qb1)).trans qb1
      replace qb2 := (hh.cell (World.block_lt_of_cell? _ _ qb2)).trans qb2
      replace lb := Nat.lt_of_lt_of_le lb hh.size
      replace qc0 := (hh.cell (World.block_lt_of_cell? _ _ qc0)).trans qc0
      replace qc1 := (hh.cell (World.block_lt_of_cell? _ _ qc1)).trans qc1
      replace qc2 := (hh.cell (World.block_lt_of_cell? _ _ qc2)).trans qc2
      replace lc := Nat.lt_of_lt_of_le lc hh.size
      replace HF := below_step HF hh
      clear h hh
      by_cases hc : vcheck ⟨k2, n2, s2⟩ = 0
      · have sw := vorder_swap ⟨k, n, s⟩ ⟨k', n', s'⟩
        have ze := vorder_zero ⟨k, n, s⟩ ⟨k', n', s'⟩ ha hb
        have tr := vorder_trans ⟨k, n, s⟩ ⟨k', n', s'⟩ ⟨k2, n2, s2⟩
        have o1 := vorder_three ⟨k, n, s⟩ ⟨k', n', s'⟩
        have o2 := vorder_three ⟨k', n', s'⟩ ⟨k, n, s⟩
        have o3 := vorder_three ⟨k', n', s'⟩ ⟨k2, n2, s2⟩
        have o4 := vorder_three ⟨k, n, s⟩ ⟨k2, n2, s2⟩
        have d1 := fun W => order_any k n s k' n' s' W
        have d2 := fun W => order_any k' n' s' k n s W
        have d3 := fun W => order_any k' n' s' k2 n2 s2 W
        have d4 := fun W => order_any k n s k2 n2 s2 W
        generalize vorder ⟨k, n, s⟩ ⟨k', n', s'⟩ = X at *
        generalize vorder ⟨k', n', s'⟩ ⟨k, n, s⟩ = Y at *
        generalize vorder ⟨k', n', s'⟩ ⟨k2, n2, s2⟩ = Z at *
        generalize vorder ⟨k, n, s⟩ ⟨k2, n2, s2⟩ = U at *
        obtain rfl : X = -Y := sw
        have SAME : Hid (-Y = 0 ↔ sameB k n s k' n' s' = true) := Lib.hid ze
        have TR := Lib.hid tr
        have b1 : -1 ≤ Y := by omega
        have b2 : Y ≤ 1 := by omega
        have b3 : -1 ≤ Z := by omega
        have b4 : Z ≤ 1 := by omega
        have b5 : -1 ≤ U := by omega
        have b6 : U ≤ 1 := by omega
        clear ze tr o1 o2 o3 o4
        have D1 := Lib.hid d1
        have D2 := Lib.hid d2
        have D3 := Lib.hid d3
        have D4 := Lib.hid d4
        clear d1 d2 d3 d4
        go_wp2_with fail
        clear ha hb hc
        have pa0 := later_cell la qa0
        have pa1 := later_cell la qa1
        have pa2 := later_cell la qa2
        have pb0 := later_cell lb qb0
        have pb1 := later_cell lb qb1
        have pb2 := later_cell lb qb2
        have pc0 := later_cell lc qc0
        have pc1 := later_cell lc qc1
        have pc2 := later_cell lc qc2
        refine wp_region_later (by kernel_rfl) (by kernel_rfl) ?_
        iterate 2 (first | go_big_quiet_step (fail) | quiet_step (fail))
        go_big_quiet_step ((go_at_call 15; exact later_of (D1.out _)))
        iterate 2 (first | go_big_quiet_step (fail) | quiet_step (fail))
        go_big_quiet_step ((go_at_call 15; exact later_of (D2.out _)))
        iterate 2 (first | go_big_quiet_step (fail) | quiet_step (fail))
        go_big_quiet_step ((go_at_call 15; exact later_of (D3.out _)))
        iterate 2 (first | go_big_quiet_step (fail) | quiet_step (fail))
        go_big_quiet_step ((go_at_call 15; exact later_of (D4.out _)))
        iterate 4 (first | go_big_quiet_step (fail) | quiet_step (fail))
        refine wpQuiet_nil ?_
        intro _ hw'
        obtain ⟨qL, hw''⟩ := hw'
        subst hw''
        obtain ⟨wL, h⟩ := qL
        clear pa0 pa1 pa2 pb0 pb1 pb2 pc0 pc1 pc2
        dsimp only
        have hh : Below w4.heap.size w4 wL := below_step (by repeat (first | (with_reducible exact Below.refl _ _) | apply below_alloc _ (Nat.le_refl _))) h
        replace qa0 := (hh.cell (World.block_lt_of_cell? _ _ qa0)).trans qa0
        replace qa1 := (hh.cell (World.block_lt_of_cell? _ _ qa1)).trans qa1
        replace qa2 := (hh.cell (World.block_lt_of_cell? _ _ qa2)).trans qa2
        replace la := Nat.lt_of_lt_of_le la hh.size
        replace qb0 := (hh.cell (World.block_lt_of_cell? _ _ qb0)).trans qb0
        replace qb1 := (hh.cell (World.block_lt_of_cell? _ _ qb1)).trans qb1
        replace qb2 := (hh.cell (World.block_lt_of_cell? _ _ qb2)).trans qb2
        replace lb := Nat.lt_of_lt_of_le lb hh.size
        replace qc0 := (hh.cell (World.block_lt_of_cell? _ _ qc0)).trans qc0
        replace qc1 := (hh.cell (World.block_lt_of_cell? _ _ qc1)).trans qc1
        replace qc2 := (hh.cell (World.block_lt_of_cell? _ _ qc2)).trans qc2
        replace lc := Nat.lt_of_lt_of_le lc hh.size
        replace HF := below_step HF hh
        clear h hh
        have hS : sameB k n s k' n' s' = (-Y == 0) := by
          have g := SAME.out
          by_cases e : -Y = 0
          · rw [g.1 e]; simp [e]
          · have : sameB k n s k' n' s' = false := by rw [Bool.eq_false_iff]; exact fun k => e (g.2 k)
            rw [this]; simp; omega
        clear SAME
        go_wp2
        all_goals
          go_ret
          first
            | (exfalso; have t := TR.out (by omega) (by omega); omega)
            | exact ⟨ret_bool (by first | (simp; done) | (simp; omega) | (have t := TR.out (by omega) (by omega); simp; omega)), HF⟩
      · go_wp2_with fail
        refine (check_any _ _ _ _).mono ?_; rintro e w5 ⟨rfl, h⟩
        have hh : Below w4.heap.size w4 w5 := below_step (by repeat (first | (with_reducible exact Below.refl _ _) | apply below_alloc _ (Nat.le_refl _))) h
        replace qa0 := (hh.cell (World.block_lt_of_cell? _ _ qa0)).trans qa0
        replace qa1 := (hh.cell (World.block_lt_of_cell? _ _ qa1)).trans qa1
        replace qa2 := (hh.cell (World.block_lt_of_cell? _ _ qa2)).trans qa2
        replace la := Nat.lt_of_lt_of_le la hh.size
        replace qb0 := (hh.cell (World.block_lt_of_cell? _ _ qb0)).trans qb0
        replace qb1 := (hh.cell (World.block_lt_of_cell? _ _ qb1)).trans qb1
        replace qb2 := (hh.cell (World.block_lt_of_cell? _ _ qb2)).trans qb2
        replace lb := Nat.lt_of_lt_of_le lb hh.size
        replace qc0 := (hh.cell (World.block_lt_of_cell? _ _ qc0)).trans qc0
        replace qc1 := (hh.cell (World.block_lt_of_cell? _ _ qc1)).trans qc1
        replace qc2 := (hh.cell (World.block_lt_of_cell? _ _ qc2)).trans qc2
        replace lc := Nat.lt_of_lt_of_le lc hh.size
        replace HF := below_step HF hh
        clear h hh
        go_wp2_with fail
        refine (check_any _ _ _ _).mono ?_; rintro e w6 ⟨rfl, h⟩
        have hh : Below w5.heap.size w5 w6 := below_step (by repeat (first | (with_reducible exact Below.refl _ _) | apply below_alloc _ (Nat.le_refl _))) h
        replace qa0 := (hh.cell (World.block_lt_of_cell? _ _ qa0)).trans qa0
        replace qa1 := (hh.cell (World.block_lt_of_cell? _ _ qa1)).trans qa1
        replace qa2 := (hh.cell (World.block_lt_of_cell? _ _ qa2)).trans qa2
        replace la := Nat.lt_of_lt_of_le la hh.size
        replace qb0 := (hh.cell (World.block_lt_of_cell? _ _ qb0)).trans qb0
        replace qb1 := (hh.cell (World.block_lt_of_cell? _ _ qb1)).trans qb1
        replace qb2 := (hh.cell (World.block_lt_of_cell? _ _ qb2)).trans qb2
        replace lb := Nat.lt_of_lt_of_le lb hh.size
        replace qc0 := (hh.cell (World.block_lt_of_cell? _ _ qc0)).trans qc0
        replace qc1 := (hh.cell (World.block_lt_of_cell? _ _ qc1)).trans qc1
        replace qc2 := (hh.cell (World.block_lt_of_cell? _ _ qc2)).trans qc2
        replace lc := Nat.lt_of_lt_of_le lc hh.size
        replace HF := below_step HF hh
        clear h hh
        go_wp2_with fail
        refine (check_any _ _ _ _).mono ?_; rintro e w7 ⟨rfl, h⟩
        have hh : Below w6.heap.size w6 w7 := below_step (by repeat (first | (with_reducible exact Below.refl _ _) | apply below_alloc _ (Nat.le_refl _))) h
        replace qa0 := (hh.cell (World.block_lt_of_cell? _ _ qa0)).trans qa0
        replace qa1 := (hh.cell (World.block_lt_of_cell? _ _ qa1)).trans qa1
        replace qa2 := (hh.cell (World.block_lt_of_cell? _ _ qa2)).trans qa2
        replace la := Nat.lt_of_lt_of_le la hh.size
        replace qb0 := (hh.cell (World.block_lt_of_cell? _ _ qb0)).trans qb0
        replace qb1 := (hh.cell (World.block_lt_of_cell? _ _ qb1)).trans qb1
        replace qb2 := (hh.cell (World.block_lt_of_cell? _ _ qb2)).trans qb2
        replace lb := Nat.lt_of_lt_of_le lb hh.size
        replace qc0 := (hh.cell (World.block_lt_of_cell? _ _ qc0)).trans qc0
        replace qc1 := (hh.cell (World.block_lt_of_cell? _ _ qc1)).trans qc1
        replace qc2 := (hh.cell (World.block_lt_of_cell? _ _ qc2)).trans qc2
        replace lc := Nat.lt_of_lt_of_le lc hh.size
        replace HF := below_step HF hh
        clear h hh
        go_wp2_with fail
        go_ret
        exact ⟨ret_bool (by simp [hc]), HF⟩
    · go_wp2_with fail
      refine (check_any _ _ _ _).mono ?_; rintro e w5 ⟨rfl, h⟩
      have hh : Below w3.heap.size w3 w5 := below_step (by repeat (first | (with_reducible exact Below.refl _ _) | apply below_alloc _ (Nat.le_refl _))) h
      replace qa0 := (hh.cell (World.block_lt_of_cell? _ _ qa0)).trans qa0
      replace qa1 := (hh.cell (World.block_lt_of_cell? _ _ qa1)).trans qa1
      replace qa2 := (hh.cell (World.block_lt_of_cell? _ _ qa2)).trans qa2
      replace la := Nat.lt_of_lt_of_le la hh.size
      replace qb0 := (hh.cell (World.block_lt_of_cell? _ _ qb0)).trans qb0
      replace qb1 := (hh.cell (World.block_lt_of_cell? _ _ qb1)).trans qb1
      replace qb2 := (hh.cell (World.block_lt_of_cell? _ _ qb2)).trans qb2
      replace lb := Nat.lt_of_lt_of_le lb hh.size
      replace qc0 := (hh.cell (World.block_lt_of_cell? _ _ qc0)).trans qc0
      replace qc1 := (hh.cell (World.block_lt_of_cell? _ _ qc1)).trans qc1
      replace qc2 := (hh.cell (World.block_lt_of_cell? _ _ qc2)).trans qc2
      replace lc := Nat.lt_of_lt_of_le lc hh.size
      replace HF := below_step HF hh
      clear h hh
      go_wp2_with fail
      refine (check_any _ _ _ _).mono ?_; rintro e w6 ⟨rfl, h⟩
      have hh : Below w5.heap.size w5 w6 := below_step (by repeat (first | (with_reducible exact Below.refl _ _) | apply below_alloc _ (Nat.le_refl _))) h
      replace qa0 := (hh.cell (World.block_lt_of_cell? _ _ qa0)).trans qa0
      replace qa1 := (hh.cell (World.block_lt_of_cell? _ _ qa1)).trans qa1
      replace qa2 := (hh.cell (World.block_lt_of_cell? _ _ qa2)).trans qa2
      replace la := Nat.lt_of_lt_of_le la hh.size
      replace qb0 := (hh.cell (World.block_lt_of_cell? _ _ qb0)).trans qb0
      replace qb1 := (hh.cell (World.block_lt_of_cell? _ _ qb1)).trans qb1
      replace qb2 := (hh.cell (World.block_lt_of_cell? _ _ qb2)).trans qb2
      replace lb := Nat.lt_of_lt_of_le lb hh.size
      replace qc0 := (hh.cell (World.block_lt_of_cell? _ _ qc0)).trans qc0
      replace qc1 := (hh.cell (World.block_lt_of_cell? _ _ qc1)).trans qc1
      replace qc2 := (hh.cell (World.block_lt_of_cell? _ _ qc2)).trans qc2
      replace lc := Nat.lt_of_lt_of_le lc hh.size
      replace HF := below_step HF hh
      clear h hh
      go_wp2_with fail
      go_ret
      exact ⟨ret_bool (by simp [hb]), HF⟩
  · go_wp2_with fail
    refine (check_any _ _ _ _).mono ?_; rintro e w5 ⟨rfl, h⟩
    have hh : Below w2.heap.size w2 w5 := below_step (by repeat (first | (with_reducible exact Below.refl _ _) | apply below_alloc _ (Nat.le_refl _))) h
    replace qa0 := (hh.cell (World.block_lt_of_cell? _ _ qa0)).trans qa0
    replace qa1 := (hh.cell (World.block_lt_of_cell? _ _ qa1)).trans qa1
    replace qa2 := (hh.cell (World.block_lt_of_cell? _ _ qa2)).trans qa2
    replace la := Nat.lt_of_lt_of_le la hh.size
    replace qb0 := (hh.cell (World.block_lt_of_cell? _ _ qb0)).trans qb0
    replace qb1 := (hh.cell (World.block_lt_of_cell? _ _ qb1)).trans qb1
    replace qb2 := (hh.cell (World.block_lt_of_cell? _ _ qb2)).trans qb2
    replace lb := Nat.lt_of_lt_of_le lb hh.size
    replace qc0 := (hh.cell (World.block_lt_of_cell? _ _ qc0)).trans qc0
    replace qc1 := (hh.cell (World.block_lt_of_cell? _ _ qc1)).trans qc1
    replace qc2 := (hh.cell (World.block_lt_of_cell? _ _ qc2)).trans qc2
    replace lc := Nat.lt_of_lt_of_le lc hh.size
    replace HF := below_step HF hh
    clear h hh
    go_wp2_with fail
    go_ret
    exact ⟨ret_bool (by simp [ha]), HF⟩
end Go.Proofs.Ytekldpghidmeaaa
