/- Chains, in plain Lean: of two who write one key from one snapshot the second is refused. -/
import Derived.Test.YtnppiclmohadfaaWritePlain
import Derived.Test.YtnppiclmohadfaaCommitW
namespace Go.Proofs.Ytnppiclmohadfaa
open Go.RowKit
set_option linter.unusedVariables false
set_option linter.unusedSimpArgs false
theorem write_range {snap b : Int} {gone : Bool} {val : ByteArray} {x : List Ver} (h : chk x = 0) (hb : b < 1 ∨ 1099511627776 < b) : (write snap b gone val x).2 = 4 := by
  unfold write; rw [if_neg (by simp [h]), if_pos hb]
theorem write_clash {snap b : Int} {val : ByteArray} {x : List Ver} (h : chk x = 0) (hb : ¬ (b < 1 ∨ 1099511627776 < b)) (hv : ¬ (4096 : Int) < val.size) (ho : openB b x = false) (hc : clash snap x = true) : (write snap b false val x).2 = 95 := by
  unfold write
  rw [if_neg (by simp [h]), if_neg hb, if_neg (by rintro (q | ⟨q, _⟩); exact hv q; cases q), if_neg (by simp [ho]), if_pos hc]
/-- Behind an undoing the second goes through, where nothing of anybody's own was there. -/
theorem write_again {snap a b : Int} {val : ByteArray} {l m : List Ver} (hm : (write snap a false val l).2 = 0) (he : (write snap a false val l).1 = ⟨0, a, false, val⟩ :: m) (hb : ¬ (b < 1 ∨ 1099511627776 < b)) :
    (write snap b false val m).2 = 0 ∨ ownHead l = true := by
  obtain ⟨k0, kx, ⟨m', hm', hm2, hm3, hm4⟩, ha1, ha2, hv⟩ := write_ok hm
  rw [he] at hm' kx
  obtain rfl : m = m' := by simpa using hm'
  by_cases ho : ownHead l = true
  · exact .inr ho
  · left
    rw [if_neg ho] at hm2
    subst hm2
    have hz : ∀ v k, m = v :: k → ¬ v.st = 0 := fun v k h => (hm4 v k h).1
    have hop : ∀ t, openB t m = false := fun t => by
      cases m with
      | nil => rfl
      | cons v k => have := hz v k rfl; simp [openB, this]
    have hcl : clash snap m = false := by
      cases m with
      | nil => rfl
      | cons v k =>
        obtain ⟨h1, h2⟩ := hm4 v k rfl
        have := h2 (hop a)
        simp [clash, h1]; omega
    have h64 : ¬ m.length = 64 := fun q => by
      have := chk_len kx
      simp at this; omega
    unfold write
    rw [if_neg (by simp [k0]), if_neg hb, if_neg hv, if_neg (by simp [hop]), if_neg (by simp [hcl]), if_neg h64]
theorem chkFrom_lower {ab ab' : Int} {m : List Ver} (h : chkFrom false ab m = true) (h2 : ∀ v k, m = v :: k → v.st < ab' ∧ 0 < v.st) : chkFrom false ab' m = true := by
  cases m with
  | nil => rfl
  | cons v k =>
    obtain ⟨h3, h4⟩ := h2 v k rfl
    rw [chkFrom_cons] at h ⊢
    simp only [Bool.and_eq_true] at h ⊢
    rw [if_pos h4] at h ⊢
    exact ⟨⟨⟨h.1.1.1, by simpa using h3⟩, h.1.2⟩, h.2⟩
/-- .. nor does a commit help. -/
theorem commit_then {snap a b : Int} {val : ByteArray} {m : List Ver} (hx : chk (⟨0, a, false, val⟩ :: m) = 0) (hb : ¬ (b < 1 ∨ 1099511627776 < b)) (hv : ¬ (4096 : Int) < val.size) (hs : snap < 1099511627776) (hc : (commitR a 1099511627776 false val m).2 = 0) :
    (write snap b false val (commitR a 1099511627776 false val m).1).2 = 95 := by
  unfold commitR at hc ⊢
  by_cases q : (1099511627776 : Int) < least m ∨ (1099511627776 : Int) < 1099511627776
  · rw [if_pos q] at hc; cases hc
  · rw [if_neg q]
    have hl := chk_len hx
    have hf := chk_from hx
    rw [chkFrom_cons] at hf
    simp only [Bool.and_eq_true] at hf
    obtain ⟨⟨⟨hf1, _⟩, _⟩, hf2⟩ := hf
    rw [if_neg (by omega)] at hf2
    have hz : chk (⟨1099511627776, a, false, val⟩ :: m) = 0 := by
      refine chk_mk (by simpa using hl) ?_
      rw [chkFrom_cons]
      have hv2 : vmay ⟨1099511627776, a, false, val⟩ = true := by
        unfold vmay at hf1 ⊢
        simp at hf1 ⊢
        exact hf1
      simp only [hv2, Bool.true_and, Bool.true_or, Bool.and_true]
      rw [if_pos (by omega)]
      rw [chkFrom_lower hf2 (by
        rintro v k rfl
        rw [chkFrom_cons] at hf2
        simp only [Bool.and_eq_true] at hf2
        have h0 : 0 ≤ v.st := vmay_st hf2.1.1.1
        have h1 : ¬ v.st = 0 := by simpa using hf2.1.2
        have h2 : ¬ (1099511627776 : Int) < v.st + 1 := fun h => q (.inl h)
        exact ⟨by omega, by omega⟩)]
      rfl
    exact write_clash hz hb hv (by simp [openB]) (by simp [clash, hs])
end Go.Proofs.Ytnppiclmohadfaa
