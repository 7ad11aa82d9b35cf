/- What two plans meet in, in plain Lean. -/
import Derived.Test.YtfmfmammcjpboaaHasW
import Derived.Test.YtfmfmammcjpboaaMeetW2
import Derived.Test.YtfmfmammcjpboaaOrd
namespace Go.Proofs.Ytfmfmammcjpboaa
open Go.RowKit
set_option linter.unusedVariables false
set_option linter.unusedSimpArgs false
theorem countP_le_of {α : Type} {p q : α → Bool} : ∀ {L : List α}, (∀ x ∈ L, p x = true → q x = true) → L.countP p ≤ L.countP q
  | [], _ => Nat.le_refl _
  | x :: L, h => by
    have ih := countP_le_of (L := L) (fun y hy => h y (by simp [hy]))
    have hx := h x (by simp)
    simp only [List.countP_cons]
    cases hp : p x <;> cases hq : q x <;> simp_all <;> omega
theorem countP_lt_of {α : Type} {p q : α → Bool} : ∀ {L : List α} (z : α), z ∈ L → p z = false → q z = true → (∀ x ∈ L, p x = true → q x = true) → L.countP p < L.countP q
  | x :: L, z, hz, hp, hq, h => by
    have hx := h x (by simp)
    have hL : ∀ y ∈ L, p y = true → q y = true := fun y hy => h y (by simp [hy])
    simp only [List.countP_cons]
    rcases List.mem_cons.1 hz with rfl | hz
    · have := countP_le_of hL
      simp [hp, hq]; omega
    · have := countP_lt_of z hz hp hq hL
      cases hp' : p x <;> cases hq' : q x <;> simp_all <;> omega
theorem vorder_self (a : V) : vorder a a = 0 := by have := vorder_swap a a; omega
theorem vorder_lt (a b c : V) (h : vorder a b < 0) (g : vorder b c ≤ 0) : vorder a c < 0 := by
  have h1 := vorder_trans a b c (by omega) g
  rcases Int.lt_or_eq_of_le h1.1 with h2 | h2
  · exact h2
  · have s1 := vorder_swap a c
    have s2 := vorder_swap b c
    have s3 := vorder_swap a b
    have h3 := vorder_trans c a b (by omega) (by omega)
    have h4 : vorder b c = 0 := by omega
    have h5 := vorder_trans a c b (by omega) (by omega)
    have := h5.2 h2 (by omega)
    omega
/-- The values of a list have ranks. -/
theorem ranks (L : List V) : ∃ r : V → Int, ∀ x ∈ L, ∀ y ∈ L, vorder x y = cmpI (r x) (r y) := by
  refine ⟨fun x => (L.countP (fun z => decide (vorder z x < 0)) : Nat), fun x hx y hy => ?_⟩
  have key : ∀ x ∈ L, ∀ y ∈ L, vorder x y < 0 → L.countP (fun z => decide (vorder z x < 0)) < L.countP (fun z => decide (vorder z y < 0)) := fun x hx y hy h => by
    refine countP_lt_of x hx (by simp [vorder_self]) (by simpa using h) (fun z _ hz => ?_)
    simp only [decide_eq_true_eq] at hz ⊢
    exact vorder_lt z x y hz (by omega)
  have keq : ∀ x y, vorder x y = 0 → L.countP (fun z => decide (vorder z x < 0)) ≤ L.countP (fun z => decide (vorder z y < 0)) := fun x y h => by
    refine countP_le_of (fun z _ hz => ?_)
    simp only [decide_eq_true_eq] at hz ⊢
    exact vorder_lt z x y hz (by omega)
  have s := vorder_swap x y
  dsimp only
  rcases vorder_three x y with h | h | h
  · have := key x hx y hy (by omega)
    rw [h]; unfold cmpI; (repeat' split) <;> omega
  · have h1 := keq x y h
    have h2 := keq y x (by omega)
    rw [h]; unfold cmpI; (repeat' split) <;> omega
  · have := key y hy x hx (by omega)
    rw [h]; unfold cmpI; (repeat' split) <;> omega
theorem cmpI_pos (a b : Int) : 0 < cmpI a b ↔ b < a := by unfold cmpI; (repeat' split) <;> omega
theorem cmpI_eq (a b : Int) : cmpI a b = 0 ↔ a = b := by unfold cmpI; (repeat' split) <;> omega
theorem cmpI_npos (a b : Int) : 0 < -1 * cmpI a b ↔ a < b := by unfold cmpI; (repeat' split) <;> omega
theorem cmpI_neq (a b : Int) : -1 * cmpI a b = 0 ↔ a = b := by unfold cmpI; (repeat' split) <;> omega
theorem inn_lets (a b : Bd) (v : V) (s : Int) (hs : s = 1 ∨ s = -1) : letsB (innB a b s) v s = (letsB a v s && letsB b v s) := by
  obtain ⟨ao, av, ai⟩ := a
  obtain ⟨bo, bv, bi⟩ := b
  obtain ⟨r, hr⟩ := ranks [av, bv, v]
  have e1 := hr bv (by simp) av (by simp)
  have e2 := hr v (by simp) av (by simp)
  have e3 := hr v (by simp) bv (by simp)
  generalize r av = x at *
  generalize r bv = y at *
  generalize r v = z at *
  clear hr
  rcases hs with rfl | rfl
  all_goals
    unfold innB letsB
    dsimp only
    cases ao <;> cases bo <;> cases ai <;> cases bi
    all_goals
      simp only [e1, Int.one_mul, cmpI_pos, cmpI_eq, cmpI_npos, cmpI_neq, Bool.false_or, Bool.true_or, Bool.or_true, Bool.or_false, Bool.and_true, Bool.and_false, Bool.true_and, Bool.false_and, Bool.not_true, Bool.not_false, if_true, if_false, Bool.false_eq_true, Bool.and_self, Bool.or_self, Bool.or_eq_true, decide_eq_true_eq]
      try split
      all_goals
        simp only [e2, e3, Int.one_mul, cmpI_pos, cmpI_eq, cmpI_npos, cmpI_neq, Bool.false_or, Bool.true_or, Bool.or_true, Bool.or_false, Bool.and_true, Bool.and_false, Bool.true_and, Bool.false_and]
        first
          | done
          | (rw [Bool.eq_iff_iff]; simp only [Bool.or_eq_true, Bool.and_eq_true, decide_eq_true_eq]; omega)
theorem cross (lo hi : Bd) (v : V) (h : (!lo.op && !hi.op && (decide (0 < vorder lo.v hi.v) || (decide (vorder lo.v hi.v = 0) && !(lo.inn && hi.inn)))) = true) : (letsB lo v 1 && letsB hi v (-1)) = false := by
  obtain ⟨ao, av, ai⟩ := lo
  obtain ⟨bo, bv, bi⟩ := hi
  obtain ⟨r, hr⟩ := ranks [av, bv, v]
  have e1 := hr av (by simp) bv (by simp)
  have e2 := hr v (by simp) av (by simp)
  have e3 := hr v (by simp) bv (by simp)
  generalize r av = x at *
  generalize r bv = y at *
  generalize r v = z at *
  clear hr
  unfold letsB
  simp only [e1, e2, e3, Int.one_mul, cmpI_pos, cmpI_eq, cmpI_npos, cmpI_neq] at h ⊢
  cases ao <;> cases bo <;> simp at h
  cases ai <;> cases bi <;> simp at h ⊢ <;> omega
theorem meet_has (a b : Pl) (v : V) : hasP (meetP a b) v = (hasP a v && hasP b v) := by
  have h1 := inn_lets a.lo b.lo v 1 (.inl rfl)
  have h2 := inn_lets a.hi b.hi v (-1) (.inr rfl)
  have h3 := cross (innB a.lo b.lo 1) (innB a.hi b.hi (-1)) v
  unfold meetP
  dsimp only
  split
  · rename_i hc
    unfold hasP
    simp only [Bool.or_eq_true] at hc
    rcases hc with (hc | hc) | hc
    · simp [hc]
    · simp [hc]
    · have := h3 hc
      rw [h1, h2] at this
      simp only [Bool.not_true, Bool.false_and]
      revert this
      generalize letsB a.lo v 1 = p1
      generalize letsB b.lo v 1 = p2
      generalize letsB a.hi v (-1) = p3
      generalize letsB b.hi v (-1) = p4
      generalize (v.k != 0) = p5
      cases p1 <;> cases p2 <;> cases p3 <;> cases p4 <;> cases p5 <;> simp
  · rename_i hc
    unfold hasP
    simp only [Bool.or_eq_true, not_or, Bool.not_eq_true] at hc
    simp only [h1, h2, hc.1.1, hc.1.2]
    generalize letsB a.lo v 1 = p1
    generalize letsB b.lo v 1 = p2
    generalize letsB a.hi v (-1) = p3
    generalize letsB b.hi v (-1) = p4
    generalize (v.k != 0) = p5
    cases p1 <;> cases p2 <;> cases p3 <;> cases p4 <;> cases p5 <;> rfl
theorem inn_turn (a b : Bd) (s : Int) (hs : s = 1 ∨ s = -1) : (innB a b s).op = (innB b a s).op ∧ ((innB a b s).op = false → (innB a b s).inn = (innB b a s).inn ∧ vorder (innB a b s).v (innB b a s).v = 0) := by
  obtain ⟨ao, av, ai⟩ := a
  obtain ⟨bo, bv, bi⟩ := b
  have h0 := vorder_self av
  have h1 := vorder_self bv
  have h2 := vorder_swap av bv
  have h3 := vorder_three av bv
  unfold innB
  rcases hs with rfl | rfl
  all_goals
    dsimp only
    cases ao <;> cases bo <;> cases ai <;> cases bi <;> simp only [Bool.false_or, Bool.true_or, Bool.or_true, Bool.or_false, Bool.and_true, Bool.and_false, Bool.true_and, Bool.false_and, Bool.not_true, Bool.not_false, if_true, if_false, Bool.false_eq_true, Bool.and_self, Bool.or_self, Bool.or_eq_true, decide_eq_true_eq]
    all_goals ((repeat' split) <;> first
      | (exfalso; omega)
      | (constructor
         · first | rfl | trivial
         · intro h
           first
             | (cases h; done)
             | (constructor
                · first | rfl | trivial
                · first | assumption | (dsimp only; omega))
             | (first | assumption | (dsimp only; omega))))
theorem meet_emp (a b : Pl) : (meetP a b).emp = (meetP b a).emp := by
  obtain ⟨o1, r1⟩ := inn_turn a.lo b.lo 1 (.inl rfl)
  obtain ⟨o2, r2⟩ := inn_turn a.hi b.hi (-1) (.inr rfl)
  unfold meetP
  dsimp only
  generalize innB a.lo b.lo 1 = l1 at *
  generalize innB b.lo a.lo 1 = l2 at *
  generalize innB a.hi b.hi (-1) = h1 at *
  generalize innB b.hi a.hi (-1) = h2 at *
  have hc : ((a.emp || b.emp) || (!l1.op && !h1.op && (decide (0 < vorder l1.v h1.v) || (decide (vorder l1.v h1.v = 0) && !(l1.inn && h1.inn))))) = ((b.emp || a.emp) || (!l2.op && !h2.op && (decide (0 < vorder l2.v h2.v) || (decide (vorder l2.v h2.v = 0) && !(l2.inn && h2.inn))))) := by
    rw [Bool.or_comm a.emp b.emp, ← o1, ← o2]
    cases e1 : l1.op
    · cases e2 : h1.op
      · obtain ⟨i1, z1⟩ := r1 e1
        obtain ⟨i2, z2⟩ := r2 e2
        rw [i1, i2]
        have hv : vorder l1.v h1.v = vorder l2.v h2.v := by
          obtain ⟨r, hr⟩ := ranks [l1.v, l2.v, h1.v, h2.v]
          rw [hr l1.v (by simp) l2.v (by simp), cmpI_eq] at z1
          rw [hr h1.v (by simp) h2.v (by simp), cmpI_eq] at z2
          rw [hr l1.v (by simp) h1.v (by simp), hr l2.v (by simp) h2.v (by simp), z1, z2]
        rw [hv]
      · rfl
    · rfl
  rw [hc]
  split <;> rfl
end Go.Proofs.Ytfmfmammcjpboaa
