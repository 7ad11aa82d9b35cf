/- Widen, in plain Lean: what was locked stays so. -/
import Derived.Test.YtdiclnkkddnncaaLkC
namespace Go.Proofs.Ytdiclnkkddnncaa
open Go.RowKit
set_option linter.unusedVariables false
set_option linter.unusedSimpArgs false
def mineL (l : List Lk) (t : Int) : List Lk := l.filter (fun y => y.tx == t)
def othersL (l : List Lk) (t : Int) : List Lk := l.filter (fun y => !(y.tx == t))
/-- All as one, from the first on. -/
def allL : List Lk → Lk
  | [] => ⟨0, ⟨#[]⟩, ⟨#[]⟩⟩
  | x :: l => (x :: l).foldl joinL x
def widenL (l : List Lk) (t m : Int) : List Lk × Int :=
  if chkL l ≠ 0 then ([], chkL l) else if m < 1 then ([], 4) else if ((mineL l t).length : Int) ≤ m then (l, 0) else (putL (othersL l t) (allL (mineL l t)), 0)
theorem cov_join_le {acc y : Lk} {k : ByteArray} (h : cov acc k = true ∨ cov y k = true) : cov (joinL acc y) k = true := by
  rw [cov_iff, cov_iff] at h
  rw [cov_iff]
  have em := min_iff acc.lo y.lo k
  have eu := up_iff acc.hi y.hi k
  have e1 : (joinL acc y).lo = minS acc.lo y.lo := rfl
  have e2 : (joinL acc y).hi = if endsR acc.hi y.hi < 0 then y.hi else acc.hi := rfl
  rw [e1, e2, em, eu]
  rcases h with ⟨h1, h2⟩ | ⟨h1, h2⟩
  · exact ⟨.inl h1, .inl h2⟩
  · exact ⟨.inr h1, .inr h2⟩
theorem cov_fold_le {k : ByteArray} : ∀ (l : List Lk) (acc : Lk), (cov acc k = true ∨ ∃ y ∈ l, cov y k = true) → cov (l.foldl joinL acc) k = true
  | [], acc, h => by simpa using h
  | y :: l, acc, h => by
    rw [List.foldl_cons]
    refine cov_fold_le l (joinL acc y) ?_
    rcases h with h | ⟨z, hz, h⟩
    · exact .inl (cov_join_le (.inl h))
    · rcases List.mem_cons.1 hz with rfl | hz
      · exact .inl (cov_join_le (.inr h))
      · exact .inr ⟨z, hz, h⟩
theorem fold_tx : ∀ (l : List Lk) (acc : Lk), (l.foldl joinL acc).tx = acc.tx
  | [], acc => rfl
  | y :: l, acc => by rw [List.foldl_cons, fold_tx l]; rfl
theorem all_cov {l : List Lk} {k : ByteArray} {y : Lk} (hy : y ∈ l) (h : cov y k = true) : cov (allL l) k = true := by
  cases l with
  | nil => cases hy
  | cons x l => exact cov_fold_le (x :: l) x (.inr ⟨y, hy, h⟩)
theorem all_tx {l : List Lk} {t : Int} (h0 : l ≠ []) (h : ∀ y ∈ l, y.tx = t) : (allL l).tx = t := by
  cases l with
  | nil => exact absurd rfl h0
  | cons x l => unfold allL; rw [fold_tx]; exact h x (by simp)
/-- What was locked stays so when one's locks are as one. -/
theorem widen_cov {l : List Lk} {t m : Int} (h : (widenL l t m).2 = 0) (u : Int) (k : ByteArray) (hc : covT l u k = true) : covT (widenL l t m).1 u k = true := by
  unfold widenL at h ⊢
  by_cases c : chkL l = 0
  · rw [if_neg (by simp [c])] at h ⊢
    by_cases q : m < 1
    · rw [if_pos q] at h; simp at h
    · rw [if_neg q]
      by_cases r : ((mineL l t).length : Int) ≤ m
      · rw [if_pos r]; exact hc
      · rw [if_neg r]
        obtain ⟨y, hy, h1, h2⟩ := (covT_iff _ _ _).1 hc
        refine (covT_iff _ _ _).2 ?_
        dsimp only
        by_cases e : y.tx = t
        · have hm : y ∈ mineL l t := List.mem_filter.2 ⟨hy, by simp [e]⟩
          refine ⟨allL (mineL l t), mem_put.2 (.inl rfl), ?_, all_cov hm h2⟩
          rw [all_tx (fun n => by rw [n] at hm; cases hm) (fun z hz => by simpa using (List.mem_filter.1 hz).2), ← e, h1]
        · exact ⟨y, mem_put.2 (.inr (List.mem_filter.2 ⟨hy, by simp [e]⟩)), h1, h2⟩
  · rw [if_pos c] at h; exact absurd h c
theorem widen_one {l : List Lk} (t : Int) (c : chkL l = 0) : (widenL l t 1).2 = 0 := by
  unfold widenL
  rw [if_neg (by simp [c]), if_neg (by decide)]
  split <;> rfl
end Go.Proofs.Ytdiclnkkddnncaa
