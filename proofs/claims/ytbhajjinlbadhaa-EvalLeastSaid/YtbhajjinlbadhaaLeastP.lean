/- The least, the greatest of values: in plain Lean. -/
import Derived.Test.YtbhajjinlbadhaaFoldW
import Derived.Test.YtbhajjinlbadhaaOrd
namespace Go.Proofs.Ytbhajjinlbadhaa
open Go.RowKit
set_option linter.unusedVariables false
set_option linter.unusedSimpArgs false
theorem vorder_refl (a : V) : vorder a a = 0 := by have := vorder_swap a a; omega
theorem fold_least : ∀ (l : List V) (m : V), (l.foldl (fun m x => if vorder x m < 0 then x else m) m = m ∨ l.foldl (fun m x => if vorder x m < 0 then x else m) m ∈ l) ∧ vorder (l.foldl (fun m x => if vorder x m < 0 then x else m) m) m ≤ 0 ∧ ∀ x ∈ l, ¬ vorder x (l.foldl (fun m x => if vorder x m < 0 then x else m) m) < 0
  | [], m => ⟨.inl rfl, by simp [vorder_refl], by simp⟩
  | y :: l, m => by
    simp only [List.foldl_cons]
    by_cases h : vorder y m < 0
    · rw [if_pos h]
      obtain ⟨h1, h2, h3⟩ := fold_least l y
      generalize l.foldl (fun m x => if vorder x m < 0 then x else m) y = r at *
      refine ⟨.inr ?_, (vorder_trans r y m h2 (by omega)).1, fun x hx => ?_⟩
      · rcases h1 with rfl | h1
        · simp
        · simp [h1]
      · rcases List.mem_cons.1 hx with rfl | hx
        · have := vorder_swap x r; omega
        · exact h3 x hx
    · rw [if_neg h]
      obtain ⟨h1, h2, h3⟩ := fold_least l m
      generalize l.foldl (fun m x => if vorder x m < 0 then x else m) m = r at *
      refine ⟨?_, h2, fun x hx => ?_⟩
      · rcases h1 with rfl | h1
        · exact .inl rfl
        · exact .inr (by simp [h1])
      · rcases List.mem_cons.1 hx with rfl | hx
        · have s1 := vorder_swap m x
          have := (vorder_trans r m x h2 (by omega)).1
          have := vorder_swap x r; omega
        · exact h3 x hx
theorem fold_most : ∀ (l : List V) (m : V), (l.foldl (fun m x => if 0 < vorder x m then x else m) m = m ∨ l.foldl (fun m x => if 0 < vorder x m then x else m) m ∈ l) ∧ 0 ≤ vorder (l.foldl (fun m x => if 0 < vorder x m then x else m) m) m ∧ ∀ x ∈ l, ¬ 0 < vorder x (l.foldl (fun m x => if 0 < vorder x m then x else m) m)
  | [], m => ⟨.inl rfl, by simp [vorder_refl], by simp⟩
  | y :: l, m => by
    simp only [List.foldl_cons]
    by_cases h : 0 < vorder y m
    · rw [if_pos h]
      obtain ⟨h1, h2, h3⟩ := fold_most l y
      generalize l.foldl (fun m x => if 0 < vorder x m then x else m) y = r at *
      have s1 := vorder_swap y m
      have s2 := vorder_swap r y
      have s3 := vorder_swap r m
      refine ⟨.inr ?_, by have := (vorder_trans m y r (by omega) (by omega)).1; omega, fun x hx => ?_⟩
      · rcases h1 with rfl | h1
        · simp
        · simp [h1]
      · rcases List.mem_cons.1 hx with rfl | hx
        · have := vorder_swap x r; omega
        · exact h3 x hx
    · rw [if_neg h]
      obtain ⟨h1, h2, h3⟩ := fold_most l m
      generalize l.foldl (fun m x => if 0 < vorder x m then x else m) m = r at *
      refine ⟨?_, h2, fun x hx => ?_⟩
      · rcases h1 with rfl | h1
        · exact .inl rfl
        · exact .inr (by simp [h1])
      · rcases List.mem_cons.1 hx with rfl | hx
        · have s2 := vorder_swap r m
          have := (vorder_trans x m r (by omega) (by omega)).1
          omega
        · exact h3 x hx
theorem least_ok {l : List V} (h : l ≠ []) : leastV l ∈ l ∧ ∀ x ∈ l, ¬ vorder x (leastV l) < 0 := by
  cases l with
  | nil => exact absurd rfl h
  | cons a l =>
    obtain ⟨h1, h2, h3⟩ := fold_least l a
    refine ⟨?_, fun x hx => ?_⟩
    · rcases h1 with h1 | h1
      · show l.foldl _ a ∈ _
        rw [h1]; simp
      · exact List.mem_cons_of_mem _ h1
    · rcases List.mem_cons.1 hx with rfl | hx
      · have := vorder_swap x (leastV (x :: l))
        have h2' : vorder (leastV (x :: l)) x ≤ 0 := h2
        omega
      · exact h3 x hx
theorem most_ok {l : List V} (h : l ≠ []) : mostV l ∈ l ∧ ∀ x ∈ l, ¬ 0 < vorder x (mostV l) := by
  cases l with
  | nil => exact absurd rfl h
  | cons a l =>
    obtain ⟨h1, h2, h3⟩ := fold_most l a
    refine ⟨?_, fun x hx => ?_⟩
    · rcases h1 with h1 | h1
      · show l.foldl _ a ∈ _
        rw [h1]; simp
      · exact List.mem_cons_of_mem _ h1
    · rcases List.mem_cons.1 hx with rfl | hx
      · have := vorder_swap x (mostV (x :: l))
        have h2' : 0 ≤ vorder (mostV (x :: l)) x := h2
        omega
      · exact h3 x hx
def inV (l : List V) (a : V) : Bool := (knownV l).any (fun x => x.same a)
def someV (l : List V) : Bool := !(knownV l).isEmpty
theorem same_refl (a : V) : a.same a = true := by simp [V.same, sameB]
theorem known_snoc {l : List V} {j : Nat} {x : V} (hx : l[j]? = some x) : knownV (l.take (j + 1)) = knownV (l.take j) ++ (if x.k = 0 then [] else [x]) := by
  unfold knownV
  rw [List.take_add_one, hx]
  simp only [Option.toList_some, List.filter_append]
  by_cases q : x.k = 0 <;> simp [q]
theorem in_skip {l : List V} {j : Nat} {x : V} (hx : l[j]? = some x) (h : x.k = 0) (a : V) : inV (l.take (j + 1)) a = inV (l.take j) a ∧ someV (l.take (j + 1)) = someV (l.take j) := by
  unfold inV someV
  rw [known_snoc hx, if_pos h, List.append_nil]; exact ⟨rfl, rfl⟩
theorem in_take {l : List V} {j : Nat} {x : V} (hx : l[j]? = some x) (h : x.k ≠ 0) (a : V) : inV (l.take (j + 1)) a = (inV (l.take j) a || x.same a) ∧ someV (l.take (j + 1)) = true := by
  unfold inV someV
  rw [known_snoc hx, if_neg h]
  exact ⟨by simp, by simp⟩
theorem fold_end (l : List V) : (someV l = true → inV l (foldB 21 l) = true ∧ inV l (foldB 22 l) = true) ∧ (someV l = false → foldB 21 l = V.nul ∧ foldB 22 l = V.nul) ∧ ∀ x ∈ l, x.k ≠ 0 → ¬ vorder x (foldB 21 l) < 0 ∧ ¬ 0 < vorder x (foldB 22 l) := by
  by_cases h : knownV l = []
  · have e : someV l = false := by simp [someV, h]
    refine ⟨fun h' => by simp [e] at h', fun _ => by simp [foldB, h], fun x hx hk => ?_⟩
    have : x ∈ knownV l := List.mem_filter.2 ⟨hx, by simp [hk]⟩
    rw [h] at this; cases this
  · have hl : (knownV l).length ≠ 0 := fun e => h (List.eq_nil_of_length_eq_zero e)
    have e1 : foldB 21 l = leastV (knownV l) := by unfold foldB; rw [if_neg hl, if_pos rfl]
    have e2 : foldB 22 l = mostV (knownV l) := by unfold foldB; rw [if_neg hl, if_neg (by decide)]
    obtain ⟨a1, a2⟩ := least_ok h
    obtain ⟨b1, b2⟩ := most_ok h
    have e : someV l = true := by simp [someV, h]
    refine ⟨fun _ => ?_, fun h' => by simp [e] at h', fun x hx hk => ?_⟩
    · rw [e1, e2]
      exact ⟨List.any_eq_true.2 ⟨_, a1, same_refl _⟩, List.any_eq_true.2 ⟨_, b1, same_refl _⟩⟩
    · have hm : x ∈ knownV l := List.mem_filter.2 ⟨hx, by simp [hk]⟩
      rw [e1, e2]
      exact ⟨a2 x hm, b2 x hm⟩
end Go.Proofs.Ytbhajjinlbadhaa
