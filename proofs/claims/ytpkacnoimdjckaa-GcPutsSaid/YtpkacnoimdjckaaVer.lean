/- The version chains, in plain Lean: what may be, what is seen, what is pruned. -/
import Derived.WalkKit

namespace Go.Proofs.Ytpkacnoimdjckaa
open Go.RowKit
set_option linter.unusedVariables false
set_option linter.unusedSimpArgs false
/-- A version. -/
structure Ver where
  st : Int
  tx : Int
  gone : Bool
  val : ByteArray
def encVer (v : Ver) : List Value := [.int .i64 v.st, .int .i64 v.tx, .bool v.gone, .string v.val]
def vmay (v : Ver) : Bool := decide (0 ≤ v.st) && decide (v.st ≤ 1099511627776) && decide (1 ≤ v.tx) && decide (v.tx ≤ 1099511627776) && decide ((v.val.size : Int) ≤ 4096) && !(v.gone && !(v.val.toList == []))
def chkFrom : Bool → Int → List Ver → Bool
  | _, _, [] => true
  | fst, ab, v :: l => vmay v && decide (v.st < ab) && (fst || !(v.st == 0)) && chkFrom false (if 0 < v.st then v.st else ab) l
def chk (l : List Ver) : Int := if 64 < l.length then 9 else if chkFrom true 1099511627777 l then 0 else 9
def old (h : Int) (v : Ver) : Bool := decide (0 < v.st) && decide (v.st ≤ h)
def idx (p : Ver → Bool) : List Ver → Int
  | [] => -1
  | v :: l => if p v then 0 else if idx p l < 0 then -1 else idx p l + 1
def prune (h : Int) : List Ver → List Ver
  | [] => []
  | v :: l => if old h v then (if v.gone then [] else [v]) else v :: prune h l
def sees (snap tx : Int) (v : Ver) : Bool := (v.st == 0 && v.tx == tx) || (decide (0 < v.st) && decide (v.st ≤ snap))
def see (snap tx : Int) : List Ver → Option Ver
  | [] => none
  | v :: l => if sees snap tx v then some v else see snap tx l
theorem chk_or (l : List Ver) : chk l = 0 ∨ chk l = 9 := by unfold chk; (repeat' split) <;> simp
theorem chk_len {l : List Ver} (h : chk l = 0) : l.length ≤ 64 := by
  unfold chk at h; split at h
  · cases h
  · omega
theorem chk_from {l : List Ver} (h : chk l = 0) : chkFrom true 1099511627777 l = true := by
  unfold chk at h; split at h
  · cases h
  · split at h
    · assumption
    · cases h
theorem chkFrom_prune (h : Int) : ∀ (l : List Ver) (f : Bool) (ab : Int), chkFrom f ab l = true → chkFrom f ab (prune h l) = true
  | [], _, _, _ => rfl
  | v :: l, f, ab, k => by
    unfold prune
    unfold chkFrom at k
    simp only [Bool.and_eq_true] at k
    split
    · split
      · rfl
      · unfold chkFrom; simp only [Bool.and_eq_true]; exact ⟨k.1, rfl⟩
    · unfold chkFrom; simp only [Bool.and_eq_true]; exact ⟨k.1, chkFrom_prune h l _ _ k.2⟩
theorem prune_len (h : Int) : ∀ l, (prune h l).length ≤ l.length
  | [] => Nat.le_refl _
  | v :: l => by
    have := prune_len h l
    unfold prune
    (repeat' split) <;> simp <;> omega
theorem chk_prune (h : Int) {l : List Ver} (k : chk l = 0) : chk (prune h l) = 0 := by
  have h1 := prune_len h l
  have h2 := chk_len k
  unfold chk
  rw [if_neg (by omega), if_pos (chkFrom_prune h l _ _ (chk_from k))]
theorem prune_cons (h : Int) (v : Ver) (l : List Ver) : prune h (v :: l) = if old h v then (if v.gone then [] else [v]) else v :: prune h l := by conv => lhs; unfold prune
theorem prune_prune (h : Int) : ∀ l, prune h (prune h l) = prune h l
  | [] => rfl
  | v :: l => by
    have ih := prune_prune h l
    rw [prune_cons]
    by_cases q : old h v = true
    · by_cases g : v.gone = true
      · simp only [if_pos q, if_pos g]; rfl
      · simp only [if_pos q, if_neg g]; rw [prune_cons, if_pos q, if_neg g]
    · simp only [if_neg q]; rw [prune_cons, if_neg q, ih]
theorem idx_ge (p : Ver → Bool) : ∀ l, -1 ≤ idx p l
  | [] => by simp [idx]
  | v :: l => by have := idx_ge p l; unfold idx; (repeat' split) <;> omega
theorem idx_lt (p : Ver → Bool) : ∀ l, idx p l < l.length
  | [] => by simp [idx]
  | v :: l => by have := idx_lt p l; unfold idx; simp only [List.length_cons]; (repeat' split) <;> omega
theorem idx_none (p : Ver → Bool) : ∀ l, (∀ x ∈ l, p x = false) → idx p l = -1
  | [], _ => rfl
  | v :: l, h => by
    have := idx_none p l (fun x hx => h x (by simp [hx]))
    unfold idx; rw [if_neg (by simp [h v]), if_pos (by omega)]
theorem idx_hit (p : Ver → Bool) : ∀ (l : List Ver) (i : Nat) (x : Ver), l[i]? = some x → p x = true → (∀ j y, j < i → l[j]? = some y → p y = false) → idx p l = i
  | [], i, x, h, _, _ => by simp at h
  | v :: l, 0, x, h, hp, _ => by
    obtain rfl : v = x := by simpa using h
    unfold idx; rw [if_pos hp]; rfl
  | v :: l, i + 1, x, h, hp, hq => by
    have ih := idx_hit p l i x (by simpa using h) hp (fun j y hj hy => hq (j + 1) y (by omega) (by simpa using hy))
    unfold idx; rw [if_neg (by rw [hq 0 v (by omega) rfl]; simp), if_neg (by omega), ih]; omega
theorem prune_none (h : Int) : ∀ l, idx (old h) l < 0 → prune h l = l
  | [], _ => rfl
  | v :: l, k => by
    unfold idx at k
    unfold prune
    split at k
    · omega
    · rename_i q; rw [if_neg q]
      split at k
      · rename_i q2; rw [prune_none h l q2]
      · omega
theorem prune_some (h : Int) : ∀ (l : List Ver) (i : Nat) (x : Ver), idx (old h) l = i → l[i]? = some x → prune h l = l.take (if x.gone then i else i + 1)
  | [], i, x, _, k => by simp at k
  | v :: l, i, x, k, hx => by
    unfold idx at k
    unfold prune
    split at k
    · rename_i q
      obtain rfl : i = 0 := by omega
      obtain rfl : v = x := by simpa using hx
      rw [if_pos q]
      split <;> simp_all
    · rename_i q; rw [if_neg q]
      split at k
      · omega
      · match i, k, hx with
        | i + 1, k, hx =>
          rw [prune_some h l i x (by omega) (by simpa using hx)]
          split <;> simp
        | 0, k, hx => exact absurd k (by have := idx_ge (old h) l; omega)
/-- Whoever has a snapshot from the horizon on sees the same behind a pruning. -/
theorem see_prune (h snap tx : Int) (hs : h ≤ snap) : ∀ l, ((see snap tx (prune h l)).filter (fun v => !v.gone)) = ((see snap tx l).filter (fun v => !v.gone))
  | [] => rfl
  | v :: l => by
    have ih := see_prune h snap tx hs l
    unfold prune
    split
    · rename_i q
      have q2 : sees snap tx v = true := by unfold old at q; unfold sees; simp at q ⊢; right; omega
      split
      · rename_i g; simp [see, q2, g, Option.filter]
      · simp [see, q2]
    · unfold see
      split
      · rfl
      · exact ih
end Go.Proofs.Ytpkacnoimdjckaa
