/- Walks of the laws of layer 1: and, or, not. -/
import Derived.Test.YtekldpghidmeaaaAlive
import Derived.Test.YtekldpghidmeaaaRef1c
namespace Go.Proofs.Ytekldpghidmeaaa
open Go.RowKit
set_option linter.unusedVariables false
set_option linter.unusedSimpArgs false
attribute [local go_sem high] eqVal
theorem u0 : IntKind.u64.wrap 0 = 0 := by decide
theorem u1 : IntKind.u64.wrap 1 = 1 := by decide
theorem truth_three {a : V} (hn : InR a.n) (h : rfits 2 a = true) : (a.k = 0 ∧ a.n = 0 ∧ a.s.toList = []) ∨ (a.k = 2 ∧ a.n = 0 ∧ a.s.toList = []) ∨ (a.k = 2 ∧ a.n = 1 ∧ a.s.toList = []) := by
  simp only [rfits, Bool.and_eq_true, Bool.or_eq_true, beq_iff_eq] at h
  obtain ⟨h1, h2 | h2⟩ := h
  · simp only [vcheck, h2, if_true] at h1
    split at h1
    · rename_i g; exact .inl ⟨h2, g⟩
    · simp at h1
  · simp [vcheck, h2] at h1
    obtain ⟨g1, g2⟩ := h1
    have g3 : a.n = 0 ∨ a.n = 1 := by
      have := hn.1; have := hn.2
      simp [IntKind.wrap, IntKind.bits, IntKind.signed] at g2
      omega
    rcases g3 with g3 | g3
    · exact .inr (.inl ⟨h2, g3, g1⟩)
    · exact .inr (.inr ⟨h2, g3, g1⟩)
theorem vfit_swap (kind : Int) (a b : V) : vfit kind false [a, b] = vfit kind false [b, a] := by
  rw [vfit_two, vfit_two]
  by_cases h1 : rfits kind a = true <;> by_cases h2 : rfits kind b = true <;> simp [h1, h2, Bool.or_comm]
theorem vand_swap (a b : V) : vand a b = vand b a := by
  unfold vand
  rw [vfit_swap 2 a b]
  have : (a.same (vbool false) = true ∨ b.same (vbool false) = true) = (b.same (vbool false) = true ∨ a.same (vbool false) = true) := propext Or.comm
  simp only [this]
theorem vor_swap (a b : V) : vor a b = vor b a := by
  unfold vor
  rw [vfit_swap 2 a b, vand_swap]
theorem vnot_nul {a : V} (h : a.k = 0 ∧ a.n = 0 ∧ a.s.toList = []) : vnot a = (.nul, 0) := by
  simp [vnot, vfit_one, rfits, vcheck, h]
theorem vnot_no {a : V} (h : a.k = 2 ∧ a.n = 0 ∧ a.s.toList = []) : vnot a = (vbool true, 0) := by
  simp [vnot, vfit_one, rfits, vcheck, h, u0, u1]
theorem vnot_yes {a : V} (h : a.k = 2 ∧ a.n = 1 ∧ a.s.toList = []) : vnot a = (vbool false, 0) := by
  simp [vnot, vfit_one, rfits, vcheck, h, u0, u1]
theorem vor_of {a b : V} (h : rfits 2 a = true) (g : rfits 2 b = true) : vor a b = vnot (vand (vnot a).1 (vnot b).1).1 := by
  simp [vor, vfit_two, h, g]
theorem rfits_nul : rfits 2 V.nul = true := by simp [rfits, vcheck, V.nul]
theorem rfits_bool (b : Bool) : rfits 2 (vbool b) = true := by cases b <;> simp [rfits, vcheck, vbool, u0, u1]
theorem is_nul : V.nul.k = 0 ∧ V.nul.n = 0 ∧ V.nul.s.toList = [] := by simp [V.nul]
theorem is_no : (vbool false).k = 2 ∧ (vbool false).n = 0 ∧ (vbool false).s.toList = [] := by simp [vbool]
theorem is_yes : (vbool true).k = 2 ∧ (vbool true).n = 1 ∧ (vbool true).s.toList = [] := by simp [vbool]
theorem vand_of {a b : V} (h : rfits 2 a = true) (g : rfits 2 b = true) : vand a b = (if (a.k = 2 ∧ a.n = 0 ∧ a.s.toList = []) ∨ (b.k = 2 ∧ b.n = 0 ∧ b.s.toList = []) then vbool false else if a.k = 0 ∨ b.k = 0 then .nul else vbool true, 0) := by
  have e : ∀ x : V, (x.same (vbool false) = true) = (x.k = 2 ∧ x.n = 0 ∧ x.s.toList = []) := fun x => by simp [V.same, sameB, vbool]
  simp only [vand, vfit_two, h, g, e]
  by_cases q : (a.k = 2 ∧ a.n = 0 ∧ a.s.toList = []) ∨ (b.k = 2 ∧ b.n = 0 ∧ b.s.toList = [])
  · simp [q]
  · by_cases r : a.k = 0 ∨ b.k = 0 <;> simp [q, r]
theorem morgan {a b : V} (hn : InR a.n) (hn' : InR b.n) (ha : rfits 2 a = true) (hb : rfits 2 b = true) : vor (vnot a).1 (vnot b).1 = vnot (vand a b).1 := by
  have n1 := vnot_nul is_nul
  have n2 := vnot_no is_no
  have n3 := vnot_yes is_yes
  have r1 := rfits_nul
  have r2 := rfits_bool false
  have r3 := rfits_bool true
  rw [vand_of ha hb]
  rcases truth_three hn ha with h | h | h <;> rcases truth_three hn' hb with g | g | g <;>
    first
      | rw [vnot_nul h] | rw [vnot_no h] | rw [vnot_yes h]
  all_goals first | rw [vnot_nul g] | rw [vnot_no g] | rw [vnot_yes g]
  all_goals simp [vor_of, vand_of, n1, n2, n3, r1, r2, r3, h, g, is_nul, is_no, is_yes]
theorem vand_err {a b : V} : (rfits 2 a = true ∧ rfits 2 b = true ∧ (vand a b).2 = 0 ∧ (vor a b).2 = 0) ∨ ((vand a b).2 = 81 ∧ (vor a b).2 = 81) := by
  by_cases h : rfits 2 a = true
  · by_cases g : rfits 2 b = true
    · refine .inl ⟨h, g, by rw [vand_of h g], ?_⟩
      rw [vor_of h g]
      have n1 := vnot_nul is_nul
      have n2 := vnot_no is_no
      have n3 := vnot_yes is_yes
      have r1 := rfits_nul
      have k : rfits 2 (vnot a).1 = true := by
        by_cases e : a.k = 0 <;> simp [vnot, vfit_one, h, e, rfits_nul, rfits_bool]
      have l : rfits 2 (vnot b).1 = true := by
        by_cases e : b.k = 0 <;> simp [vnot, vfit_one, g, e, rfits_nul, rfits_bool]
      rw [vand_of k l]
      dsimp only
      (repeat' split) <;> simp [n1, n2, n3]
    · exact .inr (by simp [vand, vor, vfit_two, h, g])
  · exact .inr (by simp [vand, vor, vfit_two, h])
set_option maxRecDepth 100000 in
set_option maxHeartbeats 4000000 in
theorem turns_any (k n : Int) (s : ByteArray) (k' n' : Int) (s' : ByteArray) (w : World) (hn : InR n) (hn' : InR n') :
    Calls Try.prog 9 #[.agg #[.int .i64 k, .int .i64 n, .string s], .agg #[.int .i64 k', .int .i64 n', .string s']] w fun e w' => e = .returned (.bool true) ∧ Below w.heap.size w w' := by
  have HF := Below.refl w.heap.size w
  have c1 := fun W => and_any k n s k' n' s' W
  have c2 := fun W => and_any k' n' s' k n s W
  have c3 := fun W => or_any k n s k' n' s' W
  have c4 := fun W => or_any k' n' s' k n s W
  have c5 := fun W => not_any k n s W
  have c6 := fun W => not_any k' n' s' W
  have f1 := vand_swap ⟨k', n', s'⟩ ⟨k, n, s⟩
  have f2 := vor_swap ⟨k', n', s'⟩ ⟨k, n, s⟩
  rw [f1] at c2
  rw [f2] at c4
  have f3 := vand_err (a := ⟨k, n, s⟩) (b := ⟨k', n', s'⟩)
  have f4 := fun ha hb => morgan (a := ⟨k, n, s⟩) (b := ⟨k', n', s'⟩) hn hn' ha hb
  clear f1 f2
  generalize vand ⟨k, n, s⟩ ⟨k', n', s'⟩ = X at *
  generalize vor ⟨k, n, s⟩ ⟨k', n', s'⟩ = Y at *
  generalize vnot ⟨k, n, s⟩ = P at *
  generalize vnot ⟨k', n', s'⟩ = Q at *
  generalize rfits 2 ⟨k, n, s⟩ = ra at *
  generalize rfits 2 ⟨k', n', s'⟩ = rb at *
  obtain ⟨⟨xk, xn, xs⟩, xe⟩ := X
  obtain ⟨⟨yk, yn, ys⟩, ye⟩ := Y
  obtain ⟨⟨pk, pn, ps⟩, pe⟩ := P
  obtain ⟨⟨qk, qn, qs⟩, qe⟩ := Q
  dsimp only at c1 c2 c3 c4 c5 c6 f3 f4
  have c7 := fun W => or_any pk pn ps qk qn qs W
  have c8 := fun W => not_any xk xn xs W
  generalize vor ⟨pk, pn, ps⟩ ⟨qk, qn, qs⟩ = R at *
  generalize vnot ⟨xk, xn, xs⟩ = S at *
  obtain ⟨⟨tk, tn, ts⟩, te⟩ := R
  obtain ⟨⟨uk, un, us⟩, ue⟩ := S
  dsimp only at c7 c8
  have C1 := Lib.hid c1
  have C2 := Lib.hid c2
  have C3 := Lib.hid c3
  have C4 := Lib.hid c4
  have C5 := Lib.hid c5
  have C6 := Lib.hid c6
  have C7 := Lib.hid c7
  have C8 := Lib.hid c8
  have F3 := Lib.hid f3
  have F4 := Lib.hid f4
  clear c1 c2 c3 c4 c5 c6 c7 c8 f3 f4
  go_enter Try.func9, Try.ntmps9
  go_wp2_with fail
  refine (alive_any _).mono ?_; rintro e w1 ⟨rfl, h⟩
  have qa0 : w1.cell? ⟨w.heap.size, 0, none⟩ = some (.int .i64 k) := (h.cell (by simp <;> omega)).trans (by go_simp)
  have qa1 : w1.cell? ⟨w.heap.size, 1, none⟩ = some (.int .i64 n) := (h.cell (by simp <;> omega)).trans (by go_simp)
  have qa2 : w1.cell? ⟨w.heap.size, 2, none⟩ = some (.string s) := (h.cell (by simp <;> omega)).trans (by go_simp)
  have la : w.heap.size < w1.heap.size := Nat.lt_of_lt_of_le (by simp <;> omega) h.size
  have qb0 : w1.cell? ⟨w.heap.size + 1, 0, none⟩ = some (.int .i64 k') := (h.cell (by simp <;> omega)).trans (by go_simp)
  have qb1 : w1.cell? ⟨w.heap.size + 1, 1, none⟩ = some (.int .i64 n') := (h.cell (by simp <;> omega)).trans (by go_simp)
  have qb2 : w1.cell? ⟨w.heap.size + 1, 2, none⟩ = some (.string s') := (h.cell (by simp <;> omega)).trans (by go_simp)
  have lb : w.heap.size + 1 < w1.heap.size := Nat.lt_of_lt_of_le (by simp <;> omega) h.size
  have hh : Below w.heap.size w w1 := below_step (by repeat (first | (with_reducible exact Below.refl _ _) | apply below_alloc _ (Nat.le_refl _))) h
  replace HF := below_step HF hh
  clear h hh
  go_wp2_with fail
  refine (C1.out _).mono ?_; rintro e w2 ⟨rfl, h⟩
  have hh : Below w1.heap.size w1 w2 := below_step (by repeat (first | (with_reducible exact Below.refl _ _) | apply below_alloc _ (Nat.le_refl _))) h
  replace qa0 := (hh.cell (World.block_lt_of_cell? _ _ qa0)).trans qa0
  replace qa1 := (hh.cell (World.block_lt_of_cell? _ _ qa1)).trans qa1
  replace qa2 := (hh.cell (World.block_lt_of_cell? _ _ qa2)).trans qa2
  replace la := Nat.lt_of_lt_of_le la hh.size
  replace qb0 := (hh.cell (World.block_lt_of_cell? _ _ qb0)).trans qb0
  replace qb1 := (hh.cell (World.block_lt_of_cell? _ _ qb1)).trans qb1
  replace qb2 := (hh.cell (World.block_lt_of_cell? _ _ qb2)).trans qb2
  replace lb := Nat.lt_of_lt_of_le lb hh.size
  replace HF := below_step HF hh
  clear h hh
  go_wp2_with fail
  refine (C2.out _).mono ?_; rintro e w3 ⟨rfl, h⟩
  have qx0 : w3.cell? ⟨w2.heap.size, 0, none⟩ = some (.int .i64 xk) := (h.cell (by simp <;> omega)).trans (by go_simp)
  have qx1 : w3.cell? ⟨w2.heap.size, 1, none⟩ = some (.int .i64 xn) := (h.cell (by simp <;> omega)).trans (by go_simp)
  have qx2 : w3.cell? ⟨w2.heap.size, 2, none⟩ = some (.string xs) := (h.cell (by simp <;> omega)).trans (by go_simp)
  have lx : w2.heap.size < w3.heap.size := Nat.lt_of_lt_of_le (by simp <;> omega) h.size
  have hh : Below w2.heap.size w2 w3 := below_step (by repeat (first | (with_reducible exact Below.refl _ _) | apply below_alloc _ (Nat.le_refl _))) h
  replace qa0 := (hh.cell (World.block_lt_of_cell? _ _ qa0)).trans qa0
  replace qa1 := (hh.cell (World.block_lt_of_cell? _ _ qa1)).trans qa1
  replace qa2 := (hh.cell (World.block_lt_of_cell? _ _ qa2)).trans qa2
  replace la := Nat.lt_of_lt_of_le la hh.size
  replace qb0 := (hh.cell (World.block_lt_of_cell? _ _ qb0)).trans qb0
  replace qb1 := (hh.cell (World.block_lt_of_cell? _ _ qb1)).trans qb1
  replace qb2 := (hh.cell (World.block_lt_of_cell? _ _ qb2)).trans qb2
  replace lb := Nat.lt_of_lt_of_le lb hh.size
  replace HF := below_step HF hh
  clear h hh
  go_wp2_with fail
  refine (C3.out _).mono ?_; rintro e w4 ⟨rfl, h⟩
  have qy0 : w4.cell? ⟨w3.heap.size, 0, none⟩ = some (.int .i64 xk) := (h.cell (by simp <;> omega)).trans (by go_simp)
  have qy1 : w4.cell? ⟨w3.heap.size, 1, none⟩ = some (.int .i64 xn) := (h.cell (by simp <;> omega)).trans (by go_simp)
  have qy2 : w4.cell? ⟨w3.heap.size, 2, none⟩ = some (.string xs) := (h.cell (by simp <;> omega)).trans (by go_simp)
  have ly : w3.heap.size < w4.heap.size := Nat.lt_of_lt_of_le (by simp <;> omega) h.size
  have hh : Below w3.heap.size w3 w4 := below_step (by repeat (first | (with_reducible exact Below.refl _ _) | apply below_alloc _ (Nat.le_refl _))) h
  replace qa0 := (hh.cell (World.block_lt_of_cell? _ _ qa0)).trans qa0
  replace qa1 := (hh.cell (World.block_lt_of_cell? _ _ qa1)).trans qa1
  replace qa2 := (hh.cell (World.block_lt_of_cell? _ _ qa2)).trans qa2
  replace la := Nat.lt_of_lt_of_le la hh.size
  replace qb0 := (hh.cell (World.block_lt_of_cell? _ _ qb0)).trans qb0
  replace qb1 := (hh.cell (World.block_lt_of_cell? _ _ qb1)).trans qb1
  replace qb2 := (hh.cell (World.block_lt_of_cell? _ _ qb2)).trans qb2
  replace lb := Nat.lt_of_lt_of_le lb hh.size
  replace qx0 := (hh.cell (World.block_lt_of_cell? _ _ qx0)).trans qx0
  replace qx1 := (hh.cell (World.block_lt_of_cell? _ _ qx1)).trans qx1
  replace qx2 := (hh.cell (World.block_lt_of_cell? _ _ qx2)).trans qx2
  replace lx := Nat.lt_of_lt_of_le lx hh.size
  replace HF := below_step HF hh
  clear h hh
  go_wp2_with fail
  refine (C4.out _).mono ?_; rintro e w5 ⟨rfl, h⟩
  have qz0 : w5.cell? ⟨w4.heap.size, 0, none⟩ = some (.int .i64 yk) := (h.cell (by simp <;> omega)).trans (by go_simp)
  have qz1 : w5.cell? ⟨w4.heap.size, 1, none⟩ = some (.int .i64 yn) := (h.cell (by simp <;> omega)).trans (by go_simp)
  have qz2 : w5.cell? ⟨w4.heap.size, 2, none⟩ = some (.string ys) := (h.cell (by simp <;> omega)).trans (by go_simp)
  have lz : w4.heap.size < w5.heap.size := Nat.lt_of_lt_of_le (by simp <;> omega) h.size
  have hh : Below w4.heap.size w4 w5 := below_step (by repeat (first | (with_reducible exact Below.refl _ _) | apply below_alloc _ (Nat.le_refl _))) h
  replace qa0 := (hh.cell (World.block_lt_of_cell? _ _ qa0)).trans qa0
  replace qa1 := (hh.cell (World.block_lt_of_cell? _ _ qa1)).trans qa1
  replace qa2 := (hh.cell (World.block_lt_of_cell? _ _ qa2)).trans qa2
  replace la := Nat.lt_of_lt_of_le la hh.size
  replace qb0 := (hh.cell (World.block_lt_of_cell? _ _ qb0)).trans qb0
  replace qb1 := (hh.cell (World.block_lt_of_cell? _ _ qb1)).trans qb1
  replace qb2 := (hh.cell (World.block_lt_of_cell? _ _ qb2)).trans qb2
  replace lb := Nat.lt_of_lt_of_le lb hh.size
  replace qx0 := (hh.cell (World.block_lt_of_cell? _ _ qx0)).trans qx0
  replace qx1 := (hh.cell (World.block_lt_of_cell? _ _ qx1)).trans qx1
  replace qx2 := (hh.cell (World.block_lt_of_cell? _ _ qx2)).trans qx2
  replace lx := Nat.lt_of_lt_of_le lx hh.size
  replace qy0 := (hh.cell (World.block_lt_of_cell? _ _ qy0)).trans qy0
  replace qy1 := (hh.cell (World.block_lt_of_cell? _ _ qy1)).trans qy1
  replace qy2 := (hh.cell (World.block_lt_of_cell? _ _ qy2)).trans qy2
  replace ly := Nat.lt_of_lt_of_le ly hh.size
  replace HF := below_step HF hh
  clear h hh
  have t1 : sameB xk xn xs xk xn xs = true := by simp [sameB]
  have t2 : sameB yk yn ys yk yn ys = true := by simp [sameB]
  rcases F3.out with ⟨rfl, rfl, rfl, rfl⟩ | ⟨rfl, rfl⟩
  · have f := F4.out rfl rfl
    simp only [Prod.mk.injEq, V.mk.injEq] at f
    obtain ⟨⟨rfl, rfl, rfl⟩, rfl⟩ := f
    clear F3 F4
    have t3 : sameB tk tn ts tk tn ts = true := by simp [sameB]
    go_wp2_with (go_at_call 12; refine (num_any _ _).mono ?_; rintro e w' ⟨rfl, rfl⟩)
    refine (C5.out _).mono ?_; rintro e w6 ⟨rfl, h⟩
    have qm0 : w6.cell? ⟨w5.heap.size, 0, none⟩ = some (.int .i64 yk) := (h.cell (by simp <;> omega)).trans (by go_simp)
    have qm1 : w6.cell? ⟨w5.heap.size, 1, none⟩ = some (.int .i64 yn) := (h.cell (by simp <;> omega)).trans (by go_simp)
    have qm2 : w6.cell? ⟨w5.heap.size, 2, none⟩ = some (.string ys) := (h.cell (by simp <;> omega)).trans (by go_simp)
    have lm : w5.heap.size < w6.heap.size := Nat.lt_of_lt_of_le (by simp <;> omega) h.size
    have hh : Below w5.heap.size w5 w6 := below_step (by repeat (first | (with_reducible exact Below.refl _ _) | apply below_alloc _ (Nat.le_refl _))) h
    replace qa0 := (hh.cell (World.block_lt_of_cell? _ _ qa0)).trans qa0
    replace qa1 := (hh.cell (World.block_lt_of_cell? _ _ qa1)).trans qa1
    replace qa2 := (hh.cell (World.block_lt_of_cell? _ _ qa2)).trans qa2
    replace la := Nat.lt_of_lt_of_le la hh.size
    replace qb0 := (hh.cell (World.block_lt_of_cell? _ _ qb0)).trans qb0
    replace qb1 := (hh.cell (World.block_lt_of_cell? _ _ qb1)).trans qb1
    replace qb2 := (hh.cell (World.block_lt_of_cell? _ _ qb2)).trans qb2
    replace lb := Nat.lt_of_lt_of_le lb hh.size
    replace qx0 := (hh.cell (World.block_lt_of_cell? _ _ qx0)).trans qx0
    replace qx1 := (hh.cell (World.block_lt_of_cell? _ _ qx1)).trans qx1
    replace qx2 := (hh.cell (World.block_lt_of_cell? _ _ qx2)).trans qx2
    replace lx := Nat.lt_of_lt_of_le lx hh.size
    replace qy0 := (hh.cell (World.block_lt_of_cell? _ _ qy0)).trans qy0
    replace qy1 := (hh.cell (World.block_lt_of_cell? _ _ qy1)).trans qy1
    replace qy2 := (hh.cell (World.block_lt_of_cell? _ _ qy2)).trans qy2
    replace ly := Nat.lt_of_lt_of_le ly hh.size
    replace qz0 := (hh.cell (World.block_lt_of_cell? _ _ qz0)).trans qz0
    replace qz1 := (hh.cell (World.block_lt_of_cell? _ _ qz1)).trans qz1
    replace qz2 := (hh.cell (World.block_lt_of_cell? _ _ qz2)).trans qz2
    replace lz := Nat.lt_of_lt_of_le lz hh.size
    replace HF := below_step HF hh
    clear h hh
    go_wp2_with fail
    refine (C6.out _).mono ?_; rintro e w7 ⟨rfl, h⟩
    have qp0 : w7.cell? ⟨w6.heap.size, 0, none⟩ = some (.int .i64 pk) := (h.cell (by simp <;> omega)).trans (by go_simp)
    have qp1 : w7.cell? ⟨w6.heap.size, 1, none⟩ = some (.int .i64 pn) := (h.cell (by simp <;> omega)).trans (by go_simp)
    have qp2 : w7.cell? ⟨w6.heap.size, 2, none⟩ = some (.string ps) := (h.cell (by simp <;> omega)).trans (by go_simp)
    have lp : w6.heap.size < w7.heap.size := Nat.lt_of_lt_of_le (by simp <;> omega) h.size
    have hh : Below w6.heap.size w6 w7 := below_step (by repeat (first | (with_reducible exact Below.refl _ _) | apply below_alloc _ (Nat.le_refl _))) h
    replace qa0 := (hh.cell (World.block_lt_of_cell? _ _ qa0)).trans qa0
    replace qa1 := (hh.cell (World.block_lt_of_cell? _ _ qa1)).trans qa1
    replace qa2 := (hh.cell (World.block_lt_of_cell? _ _ qa2)).trans qa2
    replace la := Nat.lt_of_lt_of_le la hh.size
    replace qb0 := (hh.cell (World.block_lt_of_cell? _ _ qb0)).trans qb0
    replace qb1 := (hh.cell (World.block_lt_of_cell? _ _ qb1)).trans qb1
    replace qb2 := (hh.cell (World.block_lt_of_cell? _ _ qb2)).trans qb2
    replace lb := Nat.lt_of_lt_of_le lb hh.size
    replace qx0 := (hh.cell (World.block_lt_of_cell? _ _ qx0)).trans qx0
    replace qx1 := (hh.cell (World.block_lt_of_cell? _ _ qx1)).trans qx1
    replace qx2 := (hh.cell (World.block_lt_of_cell? _ _ qx2)).trans qx2
    replace lx := Nat.lt_of_lt_of_le lx hh.size
    replace qy0 := (hh.cell (World.block_lt_of_cell? _ _ qy0)).trans qy0
    replace qy1 := (hh.cell (World.block_lt_of_cell? _ _ qy1)).trans qy1
    replace qy2 := (hh.cell (World.block_lt_of_cell? _ _ qy2)).trans qy2
    replace ly := Nat.lt_of_lt_of_le ly hh.size
    replace qz0 := (hh.cell (World.block_lt_of_cell? _ _ qz0)).trans qz0
    replace qz1 := (hh.cell (World.block_lt_of_cell? _ _ qz1)).trans qz1
    replace qz2 := (hh.cell (World.block_lt_of_cell? _ _ qz2)).trans qz2
    replace lz := Nat.lt_of_lt_of_le lz hh.size
    replace qm0 := (hh.cell (World.block_lt_of_cell? _ _ qm0)).trans qm0
    replace qm1 := (hh.cell (World.block_lt_of_cell? _ _ qm1)).trans qm1
    replace qm2 := (hh.cell (World.block_lt_of_cell? _ _ qm2)).trans qm2
    replace lm := Nat.lt_of_lt_of_le lm hh.size
    replace HF := below_step HF hh
    clear h hh
    go_wp2_with fail
    refine (C7.out _).mono ?_; rintro e w8 ⟨rfl, h⟩
    have qq0 : w8.cell? ⟨w7.heap.size, 0, none⟩ = some (.int .i64 qk) := (h.cell (by simp <;> omega)).trans (by go_simp)
    have qq1 : w8.cell? ⟨w7.heap.size, 1, none⟩ = some (.int .i64 qn) := (h.cell (by simp <;> omega)).trans (by go_simp)
    have qq2 : w8.cell? ⟨w7.heap.size, 2, none⟩ = some (.string qs) := (h.cell (by simp <;> omega)).trans (by go_simp)
    have lq : w7.heap.size < w8.heap.size := Nat.lt_of_lt_of_le (by simp <;> omega) h.size
    have hh : Below w7.heap.size w7 w8 := below_step (by repeat (first | (with_reducible exact Below.refl _ _) | apply below_alloc _ (Nat.le_refl _))) h
    replace qa0 := (hh.cell (World.block_lt_of_cell? _ _ qa0)).trans qa0
    replace qa1 := (hh.cell (World.block_lt_of_cell? _ _ qa1)).trans qa1
    replace qa2 := (hh.cell (World.block_lt_of_cell? _ _ qa2)).trans qa2
    replace la := Nat.lt_of_lt_of_le la hh.size
    replace qb0 := (hh.cell (World.block_lt_of_cell? _ _ qb0)).trans qb0
    replace qb1 := (hh.cell (World.block_lt_of_cell? _ _ qb1)).trans qb1
    replace qb2 := (hh.cell (World.block_lt_of_cell? _ _ qb2)).trans qb2
    replace lb := Nat.lt_of_lt_of_le lb hh.size
    replace qx0 := (hh.cell (World.block_lt_of_cell? _ _ qx0)).trans qx0
    replace qx1 := (hh.cell (World.block_lt_of_cell? _ _ qx1)).trans qx1
    replace qx2 := (hh.cell (World.block_lt_of_cell? _ _ qx2)).trans qx2
    replace lx := Nat.lt_of_lt_of_le lx hh.size
    replace qy0 := (hh.cell (World.block_lt_of_cell? _ _ qy0)).trans qy0
    replace qy1 := (hh.cell (World.block_lt_of_cell? _ _ qy1)).trans qy1
    replace qy2 := (hh.cell (World.block_lt_of_cell? _ _ qy2)).trans qy2
    replace ly := Nat.lt_of_lt_of_le ly hh.size
    replace qz0 := (hh.cell (World.block_lt_of_cell? _ _ qz0)).trans qz0
    replace qz1 := (hh.cell (World.block_lt_of_cell? _ _ qz1)).trans qz1
    replace qz2 := (hh.cell (World.block_lt_of_cell? _ _ qz2)).trans qz2
    replace lz := Nat.lt_of_lt_of_le lz hh.size
    replace qm0 := (hh.cell (World.block_lt_of_cell? _ _ qm0)).trans qm0
    replace qm1 := (hh.cell (World.block_lt_of_cell? _ _ qm1)).trans qm1
    replace qm2 := (hh.cell (World.block_lt_of_cell? _ _ qm2)).trans qm2
    replace lm := Nat.lt_of_lt_of_le lm hh.size
    replace qp0 := (hh.cell (World.block_lt_of_cell? _ _ qp0)).trans qp0
    replace qp1 := (hh.cell (World.block_lt_of_cell? _ _ qp1)).trans qp1
    replace qp2 := (hh.cell (World.block_lt_of_cell? _ _ qp2)).trans qp2
    replace lp := Nat.lt_of_lt_of_le lp hh.size
    replace HF := below_step HF hh
    clear h hh
    go_wp2_with fail
    refine (C8.out _).mono ?_; rintro e w9 ⟨rfl, h⟩
    have qr0 : w9.cell? ⟨w8.heap.size, 0, none⟩ = some (.int .i64 tk) := (h.cell (by simp <;> omega)).trans (by go_simp)
    have qr1 : w9.cell? ⟨w8.heap.size, 1, none⟩ = some (.int .i64 tn) := (h.cell (by simp <;> omega)).trans (by go_simp)
    have qr2 : w9.cell? ⟨w8.heap.size, 2, none⟩ = some (.string ts) := (h.cell (by simp <;> omega)).trans (by go_simp)
    have lr : w8.heap.size < w9.heap.size := Nat.lt_of_lt_of_le (by simp <;> omega) h.size
    have hh : Below w8.heap.size w8 w9 := below_step (by repeat (first | (with_reducible exact Below.refl _ _) | apply below_alloc _ (Nat.le_refl _))) h
    replace qa0 := (hh.cell (World.block_lt_of_cell? _ _ qa0)).trans qa0
    replace qa1 := (hh.cell (World.block_lt_of_cell? _ _ qa1)).trans qa1
    replace qa2 := (hh.cell (World.block_lt_of_cell? _ _ qa2)).trans qa2
    replace la := Nat.lt_of_lt_of_le la hh.size
    replace qb0 := (hh.cell (World.block_lt_of_cell? _ _ qb0)).trans qb0
    replace qb1 := (hh.cell (World.block_lt_of_cell? _ _ qb1)).trans qb1
    replace qb2 := (hh.cell (World.block_lt_of_cell? _ _ qb2)).trans qb2
    replace lb := Nat.lt_of_lt_of_le lb hh.size
    replace qx0 := (hh.cell (World.block_lt_of_cell? _ _ qx0)).trans qx0
    replace qx1 := (hh.cell (World.block_lt_of_cell? _ _ qx1)).trans qx1
    replace qx2 := (hh.cell (World.block_lt_of_cell? _ _ qx2)).trans qx2
    replace lx := Nat.lt_of_lt_of_le lx hh.size
    replace qy0 := (hh.cell (World.block_lt_of_cell? _ _ qy0)).trans qy0
    replace qy1 := (hh.cell (World.block_lt_of_cell? _ _ qy1)).trans qy1
    replace qy2 := (hh.cell (World.block_lt_of_cell? _ _ qy2)).trans qy2
    replace ly := Nat.lt_of_lt_of_le ly hh.size
    replace qz0 := (hh.cell (World.block_lt_of_cell? _ _ qz0)).trans qz0
    replace qz1 := (hh.cell (World.block_lt_of_cell? _ _ qz1)).trans qz1
    replace qz2 := (hh.cell (World.block_lt_of_cell? _ _ qz2)).trans qz2
    replace lz := Nat.lt_of_lt_of_le lz hh.size
    replace qm0 := (hh.cell (World.block_lt_of_cell? _ _ qm0)).trans qm0
    replace qm1 := (hh.cell (World.block_lt_of_cell? _ _ qm1)).trans qm1
    replace qm2 := (hh.cell (World.block_lt_of_cell? _ _ qm2)).trans qm2
    replace lm := Nat.lt_of_lt_of_le lm hh.size
    replace qp0 := (hh.cell (World.block_lt_of_cell? _ _ qp0)).trans qp0
    replace qp1 := (hh.cell (World.block_lt_of_cell? _ _ qp1)).trans qp1
    replace qp2 := (hh.cell (World.block_lt_of_cell? _ _ qp2)).trans qp2
    replace lp := Nat.lt_of_lt_of_le lp hh.size
    replace qq0 := (hh.cell (World.block_lt_of_cell? _ _ qq0)).trans qq0
    replace qq1 := (hh.cell (World.block_lt_of_cell? _ _ qq1)).trans qq1
    replace qq2 := (hh.cell (World.block_lt_of_cell? _ _ qq2)).trans qq2
    replace lq := Nat.lt_of_lt_of_le lq hh.size
    replace HF := below_step HF hh
    clear h hh
    go_wp2_with fail
    all_goals (go_ret; exact ⟨by first | rfl | (exact ret_bool (by simp)), below_alloc HF (Nat.le_refl _) _⟩)
  · go_wp2_with (go_at_call 12; refine (num_any _ _).mono ?_; rintro e w' ⟨rfl, rfl⟩)
    all_goals (go_ret; exact ⟨by first | rfl | (exact ret_bool (by simp)), below_alloc HF (Nat.le_refl _) _⟩)
end Go.Proofs.Ytekldpghidmeaaa
