/- Keys locked one by one, in plain Lean. -/
import Derived.Test.YtdiclnkkddnncaaLkC
import Derived.Test.YtdiclnkkddnncaaRdW
import Derived.Test.YtdiclnkkddnncaaReadW
namespace Go.Proofs.Ytdiclnkkddnncaa
open Go.RowKit
set_option linter.unusedVariables false
set_option linter.unusedSimpArgs false
theorem nil_zero (k : ByteArray) : nil? (k ++ (⟨#[0]⟩ : ByteArray)) = false := by unfold nil?; rw [key_zero]; simp
theorem key_may (k : ByteArray) : mayL (keyL 1 k) = true := by
  have h : lt? k (k ++ (⟨#[0]⟩ : ByteArray)) = true := by unfold lt?; rw [key_zero]; exact less_zero _
  simp [mayL, keyL, h]
theorem key_cov (a k : ByteArray) : cov (keyL 1 a) k = (a.toList == k.toList) := by
  rw [Bool.eq_iff_iff, cov_iff]
  dsimp only [keyL]
  rw [nil_zero]
  unfold lt?
  rw [key_zero]
  constructor
  · rintro ⟨h1, h2 | h2⟩
    · cases h2
    · have h3 := less_total k.toList a.toList
      cases e : k.toList == a.toList with
      | true => simpa using (by simpa using e : k.toList = a.toList).symm
      | false =>
        rw [h1, e] at h3
        have h4 : Op.bytesLess a.toList k.toList = true := by simpa using h3.symm
        rw [zero_least _ _ h4] at h2; cases h2
  · intro h
    have e : a.toList = k.toList := by simpa using h
    rw [e]
    exact ⟨less_irrefl _, .inr (less_zero _)⟩
/-- The locks behind keys read one by one. -/
def stK (l : List ByteArray) : List Lk := l.foldl (fun r k => (addL r (keyL 1 k)).1) []
def inK (l : List ByteArray) (o : ByteArray) : Bool := l.any (fun a => a.toList == o.toList)
theorem stK_snoc (l : List ByteArray) (k : ByteArray) : stK (l ++ [k]) = (addL (stK l) (keyL 1 k)).1 := by unfold stK; rw [List.foldl_append]; rfl
theorem filter_parts (p : Lk → Bool) (l : List Lk) : (l.filter p).length ≤ l.length := List.length_filter_le _ _
theorem add_len1 (l : List Lk) (x : Lk) : (addL l x).1.length ≤ l.length + 1 := by
  unfold addL
  (repeat' split) <;> simp only [List.length_nil, Nat.zero_le] <;> try omega
  unfold putL
  rw [putAt_len _ _ _ (List.length_filter_le _ _)]
  have := List.length_filter_le (fun y => !touches x y) l
  omega
theorem stK_ok : ∀ (n : Nat) (l : List ByteArray), l.length = n → n ≤ 30 → chkL (stK l) = 0 ∧ (stK l).length ≤ n ∧ ∀ k, covT (stK l) 1 k = inK l k
  | 0, l, h, _ => by
    obtain rfl : l = [] := List.eq_nil_of_length_eq_zero h
    exact ⟨by simp [stK, chkL, chkLFrom], by simp [stK], fun k => by simp [stK, inK, covT]⟩
  | n + 1, l, h, hn => by
    obtain ⟨l', k, rfl⟩ : ∃ l' k, l = l' ++ [k] := by
      rcases List.eq_nil_or_concat l with rfl | ⟨l', k, rfl⟩
      · simp at h
      · exact ⟨l', k, by simp⟩
    have h' : l'.length = n := by simpa using h
    obtain ⟨h1, h2, h3⟩ := stK_ok n l' h' (by omega)
    have h0 : (addL (stK l') (keyL 1 k)).2 = 0 := by
      unfold addL
      rw [if_neg (by simp [h1]), if_neg (by simp [key_may])]
      split
      · rfl
      · rw [if_neg (by have := List.length_filter_le (fun y => !touches (keyL 1 k) y) (stK l'); omega)]
    refine ⟨?_, ?_, fun o => ?_⟩
    · rw [stK_snoc]; exact add_chk h0
    · rw [stK_snoc]; have := add_len1 (stK l') (keyL 1 k); omega
    · rw [stK_snoc, Bool.eq_iff_iff, add_cov h0, key_cov, h3]
      simp only [inK, List.any_append, List.any_cons, List.any_nil, Bool.or_false, Bool.or_eq_true]
      constructor
      · rintro (⟨_, h⟩ | h)
        · exact .inr h
        · exact .inl h
      · rintro (h | h)
        · exact .inr h
        · exact .inl ⟨rfl, h⟩
theorem stK_add {l : List ByteArray} (k : ByteArray) (h : l.length < 30) : (addL (stK l) (keyL 1 k)).2 = 0 := by
  obtain ⟨h1, h2, _⟩ := stK_ok _ l rfl (by omega)
  unfold addL
  rw [if_neg (by simp [h1]), if_neg (by simp [key_may])]
  split
  · rfl
  · rw [if_neg (by have := List.length_filter_le (fun y => !touches (keyL 1 k) y) (stK l); omega)]
end Go.Proofs.Ytdiclnkkddnncaa
