/- Chains, in plain Lean: what a write makes may be, and goes back. -/
import Derived.Test.YtpkacnoimdjckaaUndoW
namespace Go.Proofs.Ytpkacnoimdjckaa
open Go.RowKit
set_option linter.unusedVariables false
set_option linter.unusedSimpArgs false
theorem chkFrom_cons (f : Bool) (ab : Int) (v : Ver) (l : List Ver) : chkFrom f ab (v :: l) = (vmay v && decide (v.st < ab) && (f || !(v.st == 0)) && chkFrom false (if 0 < v.st then v.st else ab) l) := by conv => lhs; unfold chkFrom
theorem vmay_new {tx : Int} {gone : Bool} {val : ByteArray} (h1 : ¬ (tx < 1 ∨ 1099511627776 < tx)) (h2 : ¬ ((4096 : Int) < val.size ∨ (gone = true ∧ val.toList.isEmpty = false))) : vmay ⟨0, tx, gone, val⟩ = true := by
  have a : 1 ≤ tx := by omega
  have b : tx ≤ 1099511627776 := by omega
  have c : (val.size : Int) ≤ 4096 := by
    have : ¬ (4096 : Int) < val.size := fun h => h2 (.inl h)
    omega
  have d : (gone && !(val.toList == [])) = false := by
    cases gone with
    | false => rfl
    | true =>
      cases h : val.toList with
      | nil => rfl
      | cons x y => exact absurd (.inr ⟨rfl, by rw [h]; rfl⟩) h2
  unfold vmay
  dsimp only
  rw [d]
  simp [a, b, c]
theorem chk_mk {l : List Ver} (h1 : l.length ≤ 64) (h2 : chkFrom true 1099511627777 l = true) : chk l = 0 := by
  unfold chk; rw [if_neg (by omega), if_pos h2]
theorem chkFrom_false {ab : Int} {l : List Ver} (h : chkFrom true ab l = true) (h2 : ∀ v m, l = v :: m → ¬ v.st = 0) : chkFrom false ab l = true := by
  cases l with
  | nil => rfl
  | cons v m =>
    have := h2 v m rfl
    rw [chkFrom_cons] at h ⊢
    simp only [Bool.and_eq_true] at h ⊢
    exact ⟨⟨h.1.1, by simp [this]⟩, h.2⟩
def ownHead : List Ver → Bool
  | [] => false
  | v :: _ => v.st == 0
/-- What a write that goes through makes. -/
theorem write_ok {snap tx : Int} {gone : Bool} {val : ByteArray} {l : List Ver} (h : (write snap tx gone val l).2 = 0) :
    chk l = 0 ∧ chk (write snap tx gone val l).1 = 0 ∧ (∃ m, (write snap tx gone val l).1 = ⟨0, tx, gone, val⟩ :: m ∧ m = (if ownHead l = true then l.tail else l) ∧ ((∀ v k, l = v :: k → ¬ v.st = 0) ∨ openB tx l = true) ∧ (∀ v k, m = v :: k → ¬ v.st = 0 ∧ (openB tx l = false → v.st ≤ snap))) ∧ 1 ≤ tx ∧ tx ≤ 1099511627776 ∧ ¬ ((4096 : Int) < val.size ∨ (gone = true ∧ val.toList.isEmpty = false)) := by
  unfold write at h ⊢
  by_cases k0 : chk l ≠ 0
  · rw [if_pos k0] at h; exact absurd h k0
  · have k0' : chk l = 0 := by simpa using k0
    rw [if_neg k0] at h ⊢
    by_cases k1 : tx < 1 ∨ 1099511627776 < tx
    · rw [if_pos k1] at h; cases h
    · rw [if_neg k1] at h ⊢
      by_cases k2 : (4096 : Int) < val.size ∨ (gone = true ∧ val.toList.isEmpty = false)
      · rw [if_pos k2] at h; cases h
      · rw [if_neg k2] at h ⊢
        have hv := vmay_new k1 k2
        have hlen := chk_len k0'
        have hfr := chk_from k0'
        refine ⟨k0', ?_⟩
        by_cases k3 : openB tx l = true
        · rw [if_pos k3]
          cases l with
          | nil => simp [openB] at k3
          | cons v m =>
            have hst : v.st = 0 := by simp [openB] at k3; exact k3.1
            have hm : chkFrom false 1099511627777 m = true := by
              rw [chkFrom_cons] at hfr
              simp only [Bool.and_eq_true] at hfr
              have := hfr.2
              rw [if_neg (by omega)] at this; exact this
            refine ⟨chk_mk (by simpa using hlen) ?_, ⟨m, rfl, ?_, .inr k3, ?_⟩, by omega, by omega, k2⟩
            · rw [chkFrom_cons]
              simp only [List.tail_cons, hv, Bool.true_and, Bool.true_or, Bool.and_true]
              rw [if_neg (by omega), hm]; rfl
            · rw [if_pos (by simp [ownHead, hst])]; rfl
            · rintro u k rfl
              rw [chkFrom_cons] at hm
              simp only [Bool.and_eq_true] at hm
              have := hm.1.2
              refine ⟨by simpa using this, fun q => ?_⟩
              rw [k3] at q; cases q
        · rw [if_neg k3] at h ⊢
          by_cases k4 : clash snap l = true
          · rw [if_pos k4] at h; cases h
          · rw [if_neg k4] at h ⊢
            by_cases k5 : l.length = 64
            · rw [if_pos k5] at h; cases h
            · rw [if_neg k5]
              have hz : ∀ v k, l = v :: k → ¬ v.st = 0 := fun v k hl => by
                subst hl; simp [clash] at k4; exact k4.1
              refine ⟨chk_mk (by simp; omega) ?_, ⟨l, rfl, ?_, .inl hz, ?_⟩, by omega, by omega, k2⟩
              · rw [chkFrom_cons]
                simp only [hv, Bool.true_and, Bool.true_or, Bool.and_true]
                rw [if_neg (by omega), chkFrom_false hfr hz]; rfl
              · rw [if_neg]
                cases l with
                | nil => simp [ownHead]
                | cons v k => have := hz v k rfl; simpa [ownHead] using this
              · intro v k hl
                refine ⟨hz v k hl, fun _ => ?_⟩
                subst hl; simp [clash] at k4; omega
theorem write_bad {snap tx : Int} {gone : Bool} {val : ByteArray} {l : List Ver} (h : ¬ (write snap tx gone val l).2 = 0) : (write snap tx gone val l).1 = [] := by
  unfold write at h ⊢
  by_cases k0 : chk l ≠ 0
  · rw [if_pos k0]
  · rw [if_neg k0] at h ⊢
    by_cases k1 : tx < 1 ∨ 1099511627776 < tx
    · rw [if_pos k1]
    · rw [if_neg k1] at h ⊢
      by_cases k2 : (4096 : Int) < val.size ∨ (gone = true ∧ val.toList.isEmpty = false)
      · rw [if_pos k2]
      · rw [if_neg k2] at h ⊢
        by_cases k3 : openB tx l = true
        · rw [if_pos k3] at h; exact absurd rfl h
        · rw [if_neg k3] at h ⊢
          by_cases k4 : clash snap l = true
          · rw [if_pos k4]
          · rw [if_neg k4] at h ⊢
            by_cases k5 : l.length = 64
            · rw [if_pos k5]
            · rw [if_neg k5] at h; exact absurd rfl h
end Go.Proofs.Ytpkacnoimdjckaa
