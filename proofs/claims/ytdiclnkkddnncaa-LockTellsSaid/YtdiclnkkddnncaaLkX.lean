/- Drop and Widen, in plain Lean: what follows may be; what is locked behind them. -/
import Derived.Test.YtdiclnkkddnncaaLkV
import Derived.Test.YtdiclnkkddnncaaDropW
namespace Go.Proofs.Ytdiclnkkddnncaa
open Go.RowKit
set_option linter.unusedVariables false
set_option linter.unusedSimpArgs false
theorem drop_ok {l : List Lk} (t : Int) (c : chkL l = 0) : dropL l t = (othersL l t, 0) := by
  unfold dropL othersL
  rw [if_neg (by simp [c])]
theorem others_chk {l : List Lk} (t : Int) (c : chkL l = 0) : chkL (othersL l t) = 0 := by
  obtain ⟨k1, k2, k3⟩ := (chkL_iff l).1 c
  exact (chkL_iff _).2 ⟨Nat.le_trans (List.length_filter_le _ _) k1, fun x hx => k2 x (List.mem_filter.1 hx).1, k3.filter _⟩
/-- Behind a drop nothing of that one is locked, and the others' locks are as they were. -/
theorem drop_cov (l : List Lk) (t u : Int) (k : ByteArray) : covT (othersL l t) u k = true ↔ (u ≠ t ∧ covT l u k = true) := by
  rw [covT_iff, covT_iff]
  constructor
  · rintro ⟨y, hy, rfl, h2⟩
    obtain ⟨h3, h4⟩ := List.mem_filter.1 hy
    exact ⟨by simpa using h4, y, h3, rfl, h2⟩
  · rintro ⟨hu, y, hy, rfl, h2⟩
    exact ⟨y, List.mem_filter.2 ⟨hy, by simpa using hu⟩, rfl, h2⟩
theorem all_may {l : List Lk} (h0 : l ≠ []) (h : ∀ y ∈ l, mayL y = true) : mayL (allL l) = true := by
  cases l with
  | nil => exact absurd rfl h0
  | cons x l =>
    unfold allL
    exact has_may (has_fold (x :: l) x (has_refl x)) (h x (by simp))
theorem parts_len (p : Lk → Bool) : ∀ l : List Lk, (l.filter (fun t => !p t)).length + (l.filter p).length = l.length
  | [] => rfl
  | a :: l => by
    have := parts_len p l
    by_cases h : p a = true <;> simp [h] <;> omega
theorem widen_chk {l : List Lk} {t m : Int} (h : (widenL l t m).2 = 0) : chkL (widenL l t m).1 = 0 := by
  unfold widenL at h ⊢
  by_cases c : chkL l = 0
  · rw [if_neg (by simp [c])] at h ⊢
    by_cases q : m < 1
    · rw [if_pos q] at h; simp at h
    · rw [if_neg q]
      by_cases r : ((mineL l t).length : Int) ≤ m
      · rw [if_pos r]; exact c
      · rw [if_neg r]
        obtain ⟨k1, k2, k3⟩ := (chkL_iff l).1 c
        have hne : mineL l t ≠ [] := fun e => by rw [e] at r; simp at r; omega
        have hpos : 0 < (mineL l t).length := List.length_pos_iff.2 hne
        have hsum : (othersL l t).length + (mineL l t).length = l.length := parts_len (fun y => y.tx == t) l
        have htx : (allL (mineL l t)).tx = t := all_tx hne (fun z hz => by simpa using (List.mem_filter.1 hz).2)
        have hn : allL (mineL l t) ∉ othersL l t := fun hm => by
          have := (List.mem_filter.1 hm).2
          rw [htx] at this
          simp at this
        refine (chkL_iff _).2 ⟨?_, fun y hy => ?_, inc_put (k3.filter _) hn⟩
        · dsimp only
          unfold putL
          rw [putAt_len _ _ _ (List.length_filter_le _ _)]; omega
        · rcases mem_put.1 hy with rfl | hy
          · exact all_may hne (fun y hy => k2 y (List.mem_filter.1 hy).1)
          · exact k2 y (List.mem_filter.1 hy).1
  · rw [if_pos c] at h; exact absurd h c
end Go.Proofs.Ytdiclnkkddnncaa
