/- The order of values, in plain Lean: it turns, it goes on, 0 is for one value alone. -/
import Derived.Test.YtfmfmammcjpboaaBase
import Derived.Test.YtfmfmammcjpboaaSpec
namespace Go.Proofs.Ytfmfmammcjpboaa
open Go.RowKit
set_option linter.unusedVariables false
set_option linter.unusedSimpArgs false
theorem cmpI_swap (a b : Int) : cmpI a b = -cmpI b a := by unfold cmpI; (repeat' split) <;> omega
theorem less_asym (a b : List UInt8) (h : Op.bytesLess a b = true) : Op.bytesLess b a = false := by rw [← less_total a b]; simp [h]
theorem cmpS_swap (a b : ByteArray) : cmpS a b = -cmpS b a := by
  unfold cmpS
  by_cases h1 : Op.bytesLess a.toList b.toList = true
  · simp [h1, less_asym _ _ h1]
  · by_cases h2 : Op.bytesLess b.toList a.toList = true <;> simp [h1, h2]
theorem vorder_swap (a b : V) : vorder a b = -vorder b a := by
  have h1 := cmpI_swap a.k b.k
  have h2 := cmpI_swap a.n b.n
  have h3 := cmpS_swap a.s b.s
  have h4 : cmpI a.k b.k = 0 → a.k = b.k := by unfold cmpI; (repeat' split) <;> omega
  unfold vorder
  by_cases e : cmpI a.k b.k = 0
  · have e' : cmpI b.k a.k = 0 := by omega
    have ek := h4 e
    rw [ek] at e e' ⊢
    by_cases q1 : b.k = 1 ∨ b.k = 2
    · simp only [e, ne_eq, not_true, if_false, q1, if_true]; exact h2
    · by_cases q2 : b.k = 3
      · simp only [e, ne_eq, not_true, if_false, q1, q2, if_true]; exact h3
      · simp only [e, ne_eq, not_true, if_false, q1, q2]; rfl
  · rw [if_pos e, if_pos (by omega)]; exact h1
theorem less_trans : ∀ a b c : List UInt8, Op.bytesLess a b = true → Op.bytesLess b c = true → Op.bytesLess a c = true
  | [], [], _, h, _ => by simp [Op.bytesLess] at h
  | [], _ :: _, [], _, h => by simp [Op.bytesLess] at h
  | [], _ :: _, _ :: _, _, _ => by simp [Op.bytesLess]
  | _ :: _, [], _, h, _ => by simp [Op.bytesLess] at h
  | _ :: _, _ :: _, [], _, h => by simp [Op.bytesLess] at h
  | a :: l, b :: m, c :: n, h, g => by
    have ih := less_trans l m n
    simp only [Op.bytesLess, Bool.or_eq_true, decide_eq_true_eq, Bool.and_eq_true, beq_iff_eq] at *
    rcases h with h | ⟨rfl, h⟩
    · rcases g with g | ⟨rfl, g⟩
      · exact .inl (by rw [UInt8.lt_iff_toNat_lt] at *; omega)
      · exact .inl h
    · rcases g with g | ⟨rfl, g⟩
      · exact .inl g
      · exact .inr ⟨rfl, ih h g⟩
theorem cmpS_zero (a b : ByteArray) : cmpS a b = 0 ↔ a.toList = b.toList := by
  have h := less_total a.toList b.toList
  unfold cmpS
  by_cases h1 : Op.bytesLess a.toList b.toList = true
  · simp [h1]; intro e; rw [e, less_irrefl] at h1; cases h1
  · by_cases h2 : a.toList = b.toList
    · simp [h2, less_irrefl]
    · have h3 : Op.bytesLess b.toList a.toList = true := by rw [← h]; simp [h1, h2]
      simp [h1, h2, h3]
theorem cmpS_trans (a b c : ByteArray) (h : cmpS a b ≤ 0) (g : cmpS b c ≤ 0) : cmpS a c ≤ 0 ∧ (cmpS a c = 0 → cmpS a b = 0 ∧ cmpS b c = 0) ∧ (cmpS a b = 0 → cmpS b c = 0 → cmpS a c = 0) := by
  have t1 := cmpS_three a b
  have t2 := cmpS_three b c
  have neg : ∀ x y : ByteArray, cmpS x y = -1 ↔ Op.bytesLess x.toList y.toList = true := fun x y => by
    unfold cmpS; by_cases h1 : Op.bytesLess x.toList y.toList = true <;> by_cases h2 : Op.bytesLess y.toList x.toList = true <;> simp [h1, h2]
  have key : cmpS a b = -1 ∨ cmpS b c = -1 → cmpS a c = -1 := by
    intro hk
    rcases t1 with t1 | t1 | t1
    · rcases t2 with t2 | t2 | t2
      · exact (neg _ _).2 (less_trans _ _ _ ((neg _ _).1 t1) ((neg _ _).1 t2))
      · rw [neg, ← (cmpS_zero b c).1 t2]; exact (neg _ _).1 t1
      · omega
    · rw [neg, (cmpS_zero a b).1 t1]; exact (neg _ _).1 (by omega)
    · omega
  have eq0 : cmpS a b = 0 → cmpS b c = 0 → cmpS a c = 0 := fun e1 e2 => (cmpS_zero a c).2 (((cmpS_zero a b).1 e1).trans ((cmpS_zero b c).1 e2))
  have t3 := cmpS_three a c
  refine ⟨?_, ?_, eq0⟩
  · by_cases q : cmpS a b = -1 ∨ cmpS b c = -1
    · have := key q; omega
    · have := eq0 (by omega) (by omega); omega
  · intro e
    refine ⟨?_, ?_⟩
    · rcases t1 with t1 | t1 | t1
      · have := key (.inl t1); omega
      · exact t1
      · omega
    · rcases t2 with t2 | t2 | t2
      · have := key (.inr t2); omega
      · exact t2
      · omega
theorem vorder_trans (a b c : V) (h : vorder a b ≤ 0) (g : vorder b c ≤ 0) : vorder a c ≤ 0 ∧ (vorder a b = 0 → vorder b c = 0 → vorder a c = 0) := by
  have hs := cmpS_trans a.s b.s c.s
  unfold vorder at *
  unfold cmpI at *
  by_cases e1 : a.k = b.k <;> by_cases e2 : b.k = c.k <;> grind
theorem vorder_zero (a b : V) (ha : vcheck a = 0) (hb : vcheck b = 0) : vorder a b = 0 ↔ a.same b = true := by
  have hs := cmpS_zero a.s b.s
  unfold vorder cmpI V.same sameB at *
  unfold vcheck at ha hb
  by_cases e1 : a.k = b.k
  · simp only [e1, Int.lt_irrefl, if_false] at *
    have e0 : ∀ x y : Int, (if x < y then (-1 : Int) else if y < x then 1 else 0) = 0 ↔ x = y := fun x y => by (repeat' split) <;> omega
    simp only [ne_eq, not_true, if_false, beq_self_eq_true, Bool.true_and, Bool.and_eq_true, beq_iff_eq]
    split
    · rw [e0]; rename_i q; rcases q with q | q <;> simp [q] at ha hb <;> simp_all
    · split
      · rw [hs]; simp_all
      · by_cases q : b.k = 0 <;> simp_all
  · have : (if a.k < b.k then (-1 : Int) else if b.k < a.k then 1 else 0) ≠ 0 := by (repeat' split) <;> omega
    simp [this, e1]
end Go.Proofs.Ytfmfmammcjpboaa
