/- Walks of the laws of layer 1: NULL. -/
import Derived.Test.YtekldpghidmeaaaAlive
import Derived.Test.YtekldpghidmeaaaRef1c
namespace Go.Proofs.Ytekldpghidmeaaa
open Go.RowKit
set_option linter.unusedVariables false
set_option linter.unusedSimpArgs false
attribute [local go_sem high] eqVal
theorem check_nul : vcheck .nul = 0 := by simp [vcheck, V.nul]
theorem check_k {v : V} (h : vcheck v = 0) : v.k = 0 ∨ v.k = 1 ∨ v.k = 2 ∨ v.k = 3 := by
  unfold vcheck at h
  by_cases h0 : v.k = 0
  · exact .inl h0
  · by_cases h1 : v.k = 1
    · exact .inr (.inl h1)
    · by_cases h2 : v.k = 2
      · exact .inr (.inr (.inl h2))
      · by_cases h3 : v.k = 3
        · exact .inr (.inr (.inr h3))
        · simp [h0, h1, h2, h3] at h
theorem nulls_fit {op : Int} {v : V} (h4 : 4 ≤ op) (h13 : op ≤ 13) (h : vcheck v = 0) (g : 8 ≤ op ∨ v.k ≤ 1) : vreckon op .nul v = (.nul, 0) ∧ vreckon op v .nul = (.nul, 0) := by
  have hk := check_k h
  have hc := check_nul
  have h0 : V.nul.k = 0 := rfl
  unfold vreckon
  have hx : ¬ (op < 4 ∨ 13 < op) := by omega
  simp only [if_neg hx]
  by_cases h7 : op ≤ 7
  · have : v.k = 0 ∨ v.k = 1 := by omega
    simp only [if_pos h7, vfit_two]
    unfold rfits
    rcases this with e | e <;> simp [e, hc, h, h0]
  · simp only [if_neg h7]
    simp [vcompare, hc, h, h0]
theorem nulls_not {op : Int} {v : V} (h4 : 4 ≤ op) (h13 : op ≤ 13) (h : ¬ (vcheck v = 0 ∧ (8 ≤ op ∨ v.k ≤ 1))) : vreckon op .nul v = (.nul, 81) ∧ vreckon op v .nul = (.nul, 81) := by
  have hc := check_nul
  have h0 : V.nul.k = 0 := rfl
  unfold vreckon
  have hx : ¬ (op < 4 ∨ 13 < op) := by omega
  simp only [if_neg hx]
  by_cases h7 : op ≤ 7
  · have : vcheck v ≠ 0 ∨ 1 < v.k := by by_cases e : vcheck v = 0; { right; apply Int.lt_of_not_ge; intro q; exact h ⟨e, .inr q⟩ }; exact .inl e
    simp only [if_pos h7, vfit_two]
    unfold rfits
    rcases this with e | e
    · simp [e, hc, h0]
    · have e1 : v.k ≠ 0 := by omega
      have e2 : v.k ≠ 1 := by omega
      simp [e1, e2, hc, h0]
  · simp only [if_neg h7]
    have : vcheck v ≠ 0 := fun e => h ⟨e, .inl (by omega)⟩
    simp [vcompare, this]
theorem op_of (op : Int) : 4 ≤ wrap64 (4 + (wrap64 (op.tmod 10 + 10)).tmod 10) ∧ wrap64 (4 + (wrap64 (op.tmod 10 + 10)).tmod 10) ≤ 13 := by
  have h1 : op.tmod 10 < 10 := Int.tmod_lt_of_pos op (by omega)
  have h2 : -10 < op.tmod 10 := by
    have := Int.lt_tmod_of_pos op (b := 10) (by omega)
    omega
  generalize op.tmod 10 = x at *
  have e1 : wrap64 (x + 10) = x + 10 := wrap64_in (by unfold InR; omega)
  rw [e1]
  have h3 : (x + 10).tmod 10 < 10 := Int.tmod_lt_of_pos _ (by omega)
  have h4 : 0 ≤ (x + 10).tmod 10 := Int.tmod_nonneg _ (by omega)
  generalize (x + 10).tmod 10 = y at *
  have e2 : wrap64 (4 + y) = 4 + y := wrap64_in (by unfold InR; omega)
  rw [e2]
  omega
set_option maxRecDepth 100000 in
set_option maxHeartbeats 4000000 in
theorem nulls_any (op k n : Int) (s : ByteArray) (w : World) (ho : InR op) (hn : InR n) :
    Calls Try.prog 7 #[.int .i64 op, .agg #[.int .i64 k, .int .i64 n, .string s]] w fun e w' => e = .returned (.bool true) ∧ Below w.heap.size w w' := by
  have HF := Below.refl w.heap.size w
  go_enter Try.func7, Try.ntmps7
  go_wp2_with fail
  refine (alive_any _).mono ?_; rintro e w1 ⟨rfl, h⟩
  have qa0 : w1.cell? ⟨w.heap.size, 0, none⟩ = some (.int .i64 k) := (h.cell (by simp <;> omega)).trans (by go_simp)
  have qa1 : w1.cell? ⟨w.heap.size, 1, none⟩ = some (.int .i64 n) := (h.cell (by simp <;> omega)).trans (by go_simp)
  have qa2 : w1.cell? ⟨w.heap.size, 2, none⟩ = some (.string s) := (h.cell (by simp <;> omega)).trans (by go_simp)
  have la : w.heap.size < w1.heap.size := Nat.lt_of_lt_of_le (by simp <;> omega) h.size
  have hh : Below w.heap.size w w1 := below_step (by repeat (first | (with_reducible exact Below.refl _ _) | apply below_alloc _ (Nat.le_refl _))) h
  replace HF := below_step HF hh
  clear h hh
  go_wp2_with fail
  have hX := op_of op
  generalize wrap64 (4 + (wrap64 (op.tmod 10 + 10)).tmod 10) = X at *
  have c1 := fun W => Reckon_any X 0 0 ⟨#[]⟩ k n s W (by unfold InR; omega) hn
  have c2 := fun W => Reckon_any X k n s 0 0 ⟨#[]⟩ W hn (by unfold InR; omega)
  have f1 := fun h g => nulls_fit (v := ⟨k, n, s⟩) hX.1 hX.2 h g
  have f2 := fun h => nulls_not (v := ⟨k, n, s⟩) hX.1 hX.2 h
  unfold V.nul at f1 f2
  generalize vreckon X ⟨0, 0, ⟨#[]⟩⟩ ⟨k, n, s⟩ = R at *
  generalize vreckon X ⟨k, n, s⟩ ⟨0, 0, ⟨#[]⟩⟩ = Q at *
  obtain ⟨⟨rk, rn, rs⟩, re⟩ := R
  obtain ⟨⟨qk, qn, qs⟩, qe⟩ := Q
  dsimp only at c1 c2
  refine (c1 _).mono ?_; rintro e w2 ⟨rfl, h⟩
  have C2 := Lib.hid c2
  have F1 := Lib.hid f1
  have F2 := Lib.hid f2
  clear c1 c2 f1 f2
  have hh : Below w1.heap.size w1 w2 := below_step (by repeat (first | (with_reducible exact Below.refl _ _) | apply below_alloc _ (Nat.le_refl _))) h
  replace qa0 := (hh.cell (World.block_lt_of_cell? _ _ qa0)).trans qa0
  replace qa1 := (hh.cell (World.block_lt_of_cell? _ _ qa1)).trans qa1
  replace qa2 := (hh.cell (World.block_lt_of_cell? _ _ qa2)).trans qa2
  replace la := Nat.lt_of_lt_of_le la hh.size
  replace HF := below_step HF hh
  clear h hh
  go_wp2_with fail
  refine (C2.out _).mono ?_; rintro e w3 ⟨rfl, h⟩
  have qx0 : w3.cell? ⟨w2.heap.size, 0, none⟩ = some (.int .i64 rk) := (h.cell (by simp <;> omega)).trans (by go_simp)
  have qx1 : w3.cell? ⟨w2.heap.size, 1, none⟩ = some (.int .i64 rn) := (h.cell (by simp <;> omega)).trans (by go_simp)
  have qx2 : w3.cell? ⟨w2.heap.size, 2, none⟩ = some (.string rs) := (h.cell (by simp <;> omega)).trans (by go_simp)
  have lx : w2.heap.size < w3.heap.size := Nat.lt_of_lt_of_le (by simp <;> omega) h.size
  have hh : Below w2.heap.size w2 w3 := below_step (by repeat (first | (with_reducible exact Below.refl _ _) | apply below_alloc _ (Nat.le_refl _))) h
  replace qa0 := (hh.cell (World.block_lt_of_cell? _ _ qa0)).trans qa0
  replace qa1 := (hh.cell (World.block_lt_of_cell? _ _ qa1)).trans qa1
  replace qa2 := (hh.cell (World.block_lt_of_cell? _ _ qa2)).trans qa2
  replace la := Nat.lt_of_lt_of_le la hh.size
  replace HF := below_step HF hh
  clear h hh
  go_wp2_with fail
  refine (rcheck_any _ _ _ _ hn).mono ?_; rintro e w4 ⟨rfl, h⟩
  have qy0 : w4.cell? ⟨w3.heap.size, 0, none⟩ = some (.int .i64 qk) := (h.cell (by simp <;> omega)).trans (by go_simp)
  have qy1 : w4.cell? ⟨w3.heap.size, 1, none⟩ = some (.int .i64 qn) := (h.cell (by simp <;> omega)).trans (by go_simp)
  have qy2 : w4.cell? ⟨w3.heap.size, 2, none⟩ = some (.string qs) := (h.cell (by simp <;> omega)).trans (by go_simp)
  have ly : w3.heap.size < w4.heap.size := Nat.lt_of_lt_of_le (by simp <;> omega) h.size
  have hh : Below w3.heap.size w3 w4 := below_step (by repeat (first | (with_reducible exact Below.refl _ _) | apply below_alloc _ (Nat.le_refl _))) h
  replace qa0 := (hh.cell (World.block_lt_of_cell? _ _ qa0)).trans qa0
  replace qa1 := (hh.cell (World.block_lt_of_cell? _ _ qa1)).trans qa1
  replace qa2 := (hh.cell (World.block_lt_of_cell? _ _ qa2)).trans qa2
  replace la := Nat.lt_of_lt_of_le la hh.size
  replace qx0 := (hh.cell (World.block_lt_of_cell? _ _ qx0)).trans qx0
  replace qx1 := (hh.cell (World.block_lt_of_cell? _ _ qx1)).trans qx1
  replace qx2 := (hh.cell (World.block_lt_of_cell? _ _ qx2)).trans qx2
  replace lx := Nat.lt_of_lt_of_le lx hh.size
  replace HF := below_step HF hh
  clear h hh C2
  by_cases hf : vcheck ⟨k, n, s⟩ = 0 ∧ (8 ≤ X ∨ k ≤ 1)
  · have f := F1.out hf.1 hf.2
    simp only [Prod.mk.injEq, V.mk.injEq] at f
    obtain ⟨⟨⟨rfl, rfl, rfl⟩, rfl⟩, ⟨rfl, rfl, rfl⟩, rfl⟩ := f
    clear F1 F2
    obtain ⟨hf1, hf2⟩ := hf
    rw [hf1]
    have t0 : sameB 0 0 ⟨#[]⟩ 0 0 ⟨#[]⟩ = true := by simp [sameB]
    by_cases h8 : 8 ≤ X
    · go_wp2_with (go_at_call 12; refine (num_any _ _).mono ?_; rintro e w' ⟨rfl, rfl⟩)
      all_goals (go_ret; exact ⟨by first | rfl | (exact ret_bool (by simp)), HF⟩)
    · have hk : k ≤ 1 := by omega
      go_wp2_with (go_at_call 12; refine (num_any _ _).mono ?_; rintro e w' ⟨rfl, rfl⟩)
      all_goals (go_ret; exact ⟨by first | rfl | (exact ret_bool (by simp)), HF⟩)
  · have f := F2.out hf
    simp only [Prod.mk.injEq, V.mk.injEq] at f
    obtain ⟨⟨⟨rfl, rfl, rfl⟩, rfl⟩, ⟨rfl, rfl, rfl⟩, rfl⟩ := f
    clear F1 F2
    by_cases hf1 : vcheck ⟨k, n, s⟩ = 0
    · have h8 : ¬ 8 ≤ X := fun h => hf ⟨hf1, .inl h⟩
      have hk : ¬ k ≤ 1 := fun h => hf ⟨hf1, .inr h⟩
      rw [hf1]
      go_wp2_with (go_at_call 12; refine (num_any _ _).mono ?_; rintro e w' ⟨rfl, rfl⟩)
      all_goals (first | omega | (go_ret; exact ⟨by first | rfl | (exfalso; rename_i hh; simp at hh; omega) | (exact ret_bool (by simp)), HF⟩))
    · go_wp2_with (go_at_call 12; refine (num_any _ _).mono ?_; rintro e w' ⟨rfl, rfl⟩)
      all_goals (go_ret; exact ⟨by first | rfl | (exact ret_bool (by simp_all)), HF⟩)
end Go.Proofs.Ytekldpghidmeaaa
