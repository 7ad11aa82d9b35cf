/- Chains, in plain Lean: what a turn of each makes; what a sweep leaves. -/
import Derived.Test.YtpkacnoimdjckaaSwW
import Derived.Test.YtpkacnoimdjckaaRangeW
import Derived.Test.YtpkacnoimdjckaaWritePlain
namespace Go.Proofs.Ytpkacnoimdjckaa
open Go.RowKit
set_option linter.unusedVariables false
set_option linter.unusedSimpArgs false
def pairT (T : List Ver → List Ver × Int) (p : ByteArray × List Ver) : List (ByteArray × List Ver) := if (T p.2).1 = [] then [] else [(p.1, (T p.2).1)]
theorem zip_flat (T : List Ver → List Ver × Int) : ∀ Z : List (ByteArray × List Ver), (Z.flatMap (keyT T)).zip (Z.flatMap (lstT T)) = Z.flatMap (pairT T)
  | [] => rfl
  | z :: Z => by
    rw [List.flatMap_cons, List.flatMap_cons, List.flatMap_cons, ← zip_flat T Z]
    unfold keyT lstT pairT
    split <;> simp
theorem len_flat (T : List Ver → List Ver × Int) : ∀ Z : List (ByteArray × List Ver), (Z.flatMap (keyT T)).length = (Z.flatMap (lstT T)).length
  | [] => rfl
  | z :: Z => by
    rw [List.flatMap_cons, List.flatMap_cons, List.length_append, List.length_append, len_flat T Z]
    unfold keyT lstT
    split <;> simp
theorem lst_mem {T : List Ver → List Ver × Int} {ks : List ByteArray} {ls : List (List Ver)} {m : List Ver} (h : m ∈ (ks.zip ls).flatMap (lstT T)) : ∃ l ∈ ls, m = (T l).1 ∧ m ≠ [] := by
  obtain ⟨p, hp, hm⟩ := List.mem_flatMap.1 h
  unfold lstT at hm
  split at hm
  · cases hm
  · rename_i q
    obtain rfl : m = (T p.2).1 := by simpa using hm
    exact ⟨p.2, (List.of_mem_zip (by exact hp : (p.1, p.2) ∈ ks.zip ls)).2, rfl, q⟩
theorem chkC_weak {p q : Option ByteArray} (h : ∀ x, after? q x = true → after? p x = true) : ∀ (ks : List ByteArray) (ls : List (List Ver)), chkCFrom q ks ls = true → chkCFrom p ks ls = true
  | [], _, _ => by unfold chkCFrom; rfl
  | _ :: _, [], _ => by unfold chkCFrom; rfl
  | k :: ks, l :: ls, hc => by
    rw [chkC_cons] at hc ⊢
    simp only [Bool.and_eq_true] at hc ⊢
    exact ⟨⟨⟨h k hc.1.1.1, hc.1.1.2⟩, hc.1.2⟩, hc.2⟩
theorem chkC_flat {T : List Ver → List Ver × Int} (hT : ∀ l, chk l = 0 → (T l).1 = [] ∨ chk (T l).1 = 0) : ∀ (ks : List ByteArray) (ls : List (List Ver)) (p : Option ByteArray), ks.length = ls.length → chkCFrom p ks ls = true → chkCFrom p ((ks.zip ls).flatMap (keyT T)) ((ks.zip ls).flatMap (lstT T)) = true
  | [], _, p, _, _ => by simp [chkCFrom]
  | _ :: _, [], p, h, _ => by simp at h
  | k :: ks, l :: ls, p, h, hc => by
    rw [chkC_cons] at hc
    simp only [Bool.and_eq_true] at hc
    obtain ⟨⟨⟨h1, h2⟩, h3⟩, h4⟩ := hc
    have ih := chkC_flat hT ks ls (some k) (by simpa using h) h4
    rw [List.zip_cons_cons, List.flatMap_cons, List.flatMap_cons]
    by_cases q : (T l).1 = []
    · have e1 : keyT T (k, l) = [] := by unfold keyT; rw [if_pos q]
      have e2 : lstT T (k, l) = [] := by unfold lstT; rw [if_pos q]
      rw [e1, e2, List.nil_append, List.nil_append]
      refine chkC_weak (fun x hx => ?_) _ _ ih
      cases p with
      | none => rfl
      | some y => exact lt_trans' h1 hx
    · have e1 : keyT T (k, l) = [k] := by unfold keyT; rw [if_neg q]
      have e2 : lstT T (k, l) = [(T l).1] := by unfold lstT; rw [if_neg q]
      rw [e1, e2, List.singleton_append, List.singleton_append, chkC_cons]
      have hk : chk (T l).1 = 0 := by
        rcases hT l (by simpa using h3) with h' | h'
        · exact absurd h' q
        · exact h'
      have hq : (T l).1.isEmpty = false := by cases hh : (T l).1 with | nil => exact absurd hh q | cons a b => rfl
      simp [h1, hk, hq, ih]
theorem chkC_from {ks : List ByteArray} {ls : List (List Ver)} (h : chkC ks ls = 0) : chkCFrom none ks ls = true := by
  unfold chkC at h
  split at h
  · cases h
  · split at h
    · assumption
    · cases h
theorem chkC_mk {ks : List ByteArray} {ls : List (List Ver)} (h1 : ks.length = ls.length) (h2 : ks.length ≤ 2048) (h3 : chkCFrom none ks ls = true) : chkC ks ls = 0 := by
  unfold chkC
  rw [if_neg (by omega), if_pos h3]
theorem keyflat_le (T : List Ver → List Ver × Int) (ks : List ByteArray) (ls : List (List Ver)) : ((ks.zip ls).flatMap (keyT T)).length ≤ ks.length :=
  Nat.le_trans (flat_le _ (keyT_le T) _) (by rw [List.length_zip]; omega)
theorem chkC_turn {T : List Ver → List Ver × Int} (hT : ∀ l, chk l = 0 → (T l).1 = [] ∨ chk (T l).1 = 0) {ks : List ByteArray} {ls : List (List Ver)} (h : chkC ks ls = 0) : chkC ((ks.zip ls).flatMap (keyT T)) ((ks.zip ls).flatMap (lstT T)) = 0 := by
  obtain ⟨h1, h2, _⟩ := chkC_ok h
  exact chkC_mk (len_flat T _) (by have := keyflat_le T ks ls; omega) (chkC_flat hT ks ls none h1 (chkC_from h))
theorem errZ_nil {T : List Ver → List Ver × Int} : ∀ {ls : List (List Ver)}, (∀ l ∈ ls, (T l).2 = 0) → errZ T ls = 0
  | [], _ => rfl
  | l :: ls, h => by
    have := errZ_nil (T := T) (ls := ls) (fun x hx => h x (by simp [hx]))
    simp [errZ, h l (by simp), this]
theorem same_turn {T : List Ver → List Ver × Int} : ∀ {ks : List ByteArray} {ls : List (List Ver)}, ks.length = ls.length → (∀ l ∈ ls, (T l).1 = l ∧ l ≠ []) → (ks.zip ls).flatMap (keyT T) = ks ∧ (ks.zip ls).flatMap (lstT T) = ls ∧ goneT T ls = 0
  | [], [], _, _ => by simp [goneT]
  | [], _ :: _, h, _ => by simp at h
  | _ :: _, [], h, _ => by simp at h
  | k :: ks, l :: ls, h, hl => by
    obtain ⟨a, b, c⟩ := same_turn (T := T) (ks := ks) (ls := ls) (by simpa using h) (fun x hx => hl x (by simp [hx]))
    obtain ⟨e, n⟩ := hl l (by simp)
    rw [List.zip_cons_cons, List.flatMap_cons, List.flatMap_cons, a, b]
    refine ⟨?_, ?_, ?_⟩
    · unfold keyT; rw [if_neg (by rw [e]; exact n)]; rfl
    · unfold lstT; rw [if_neg (by rw [e]; exact n)]; simp [e]
    · simp [goneT, c, e]
theorem sweepT_ok (h : Int) (l : List Ver) (hc : chk l = 0) : (sweepT h l).1 = [] ∨ chk (sweepT h l).1 = 0 := .inr (by
  show chk (pruneR h l) = 0
  unfold pruneR; rw [if_pos hc]; exact chk_prune h hc)
/-- What a sweep leaves. -/
theorem sweep_left {h : Int} {ks : List ByteArray} {ls : List (List Ver)} (hc : chkC ks ls = 0) :
    chgR (sweepT h) ks ls = ((ks.zip ls).flatMap (keyT (sweepT h)), (ks.zip ls).flatMap (lstT (sweepT h)), goneT (sweepT h) ls, 0) := by
  have he : errZ (sweepT h) ls = 0 := errZ_nil (fun l hl => ((chkC_ok hc).2.2.2 l hl).2)
  unfold chgR
  rw [if_neg (by simp [hc]), if_neg (by simp [he])]
theorem sweep_bad {T : List Ver → List Ver × Int} {ks : List ByteArray} {ls : List (List Ver)} (h : (chgR T ks ls).2.2.2 ≠ 0) : (chgR T ks ls).1 = [] ∧ (chgR T ks ls).2.1 = [] := by
  unfold chgR at *
  split
  · exact ⟨rfl, rfl⟩
  · split
    · exact ⟨rfl, rfl⟩
    · rename_i q1 q2
      rw [if_neg q1, if_neg q2] at h
      exact absurd rfl h
theorem sweep_chk {h : Int} {ks : List ByteArray} {ls : List (List Ver)} : (chgR (sweepT h) ks ls).2.2.2 = chkC ks ls := by
  by_cases hc : chkC ks ls = 0
  · rw [sweep_left hc, hc]
  · unfold chgR; rw [if_pos hc]
/-- At the greatest stamp, where nothing is uncommitted. -/
theorem last_left {ks : List ByteArray} {ls : List (List Ver)} (hc : chkC ks ls = 0) (hn : ∀ l ∈ ls, ∀ v m, l = v :: m → v.st ≠ 0) : ∀ m ∈ (ks.zip ls).flatMap (lstT (sweepT 1099511627776)), ∃ v, m = [v] ∧ v.gone = false := fun m hm => by
  obtain ⟨l, hl, rfl, hne⟩ := lst_mem hm
  obtain ⟨hl0, hlc⟩ := (chkC_ok hc).2.2.2 l hl
  cases l with
  | nil => exact absurd rfl hl0
  | cons v n =>
    have hst := hn _ hl v n rfl
    have hv : vmay v = true := by
      have := chk_from hlc
      rw [chkFrom_cons] at this
      simp only [Bool.and_eq_true] at this
      exact this.1.1.1
    have ho : old 1099511627776 v = true := by
      unfold vmay at hv
      simp only [Bool.and_eq_true, decide_eq_true_eq] at hv
      unfold old
      simp only [Bool.and_eq_true, decide_eq_true_eq]
      omega
    have e : (sweepT 1099511627776 (v :: n)).1 = if v.gone then [] else [v] := by
      show pruneR _ _ = _
      unfold pruneR
      rw [if_pos hlc, prune_cons, if_pos ho]
    rw [e] at hne ⊢
    cases hg : v.gone with
    | true => rw [hg] at hne; simp at hne
    | false => exact ⟨v, by simp, hg⟩
/-- Swept again. -/
theorem again_left {h : Int} {ks : List ByteArray} {ls : List (List Ver)} (hc : chkC ks ls = 0) :
    chgR (sweepT h) ((ks.zip ls).flatMap (keyT (sweepT h))) ((ks.zip ls).flatMap (lstT (sweepT h))) = ((ks.zip ls).flatMap (keyT (sweepT h)), (ks.zip ls).flatMap (lstT (sweepT h)), 0, 0) := by
  have hc2 := chkC_turn (T := sweepT h) (sweepT_ok h) hc
  have hs := same_turn (T := sweepT h) (len_flat (sweepT h) (ks.zip ls)) (fun m hm => by
    obtain ⟨l, hl, rfl, hne⟩ := lst_mem hm
    refine ⟨?_, hne⟩
    have hlc := ((chkC_ok hc).2.2.2 l hl).2
    show pruneR h (pruneR h l) = pruneR h l
    have e : pruneR h l = prune h l := by unfold pruneR; rw [if_pos hlc]
    rw [e]
    unfold pruneR
    rw [if_pos (chk_prune h hlc), prune_prune])
  rw [sweep_left hc2, hs.1, hs.2.1, hs.2.2]
theorem tellP_see {fr tt : ByteArray} {snap tx : Int} {k : ByteArray} {l : List Ver} (hc : chk l = 0) : tellP fr tt snap tx (k, l) = match (see snap tx l).filter (fun v => !v.gone) with
    | some v => if inSpan fr tt k = true then [(k, v.val)] else []
    | none => [] := by
  have e : seeR snap tx l = match see snap tx l with | some v => (v.val, !v.gone, v.st, 0) | none => (⟨#[]⟩, false, 0, 0) := by unfold seeR; rw [if_pos hc]; cases see snap tx l <;> rfl
  unfold tellP
  simp only [e]
  cases hs : see snap tx l with
  | none => simp
  | some v => cases hg : v.gone <;> by_cases q : inSpan fr tt k = true <;> simp [hg, q, Option.filter]
theorem range_sweep {h snap tx : Int} (hs : h ≤ snap) (fr tt : ByteArray) : ∀ (ks : List ByteArray) (ls : List (List Ver)), (∀ l ∈ ls, chk l = 0) →
    ((ks.zip ls).flatMap (pairT (sweepT h))).flatMap (tellP fr tt snap tx) = (ks.zip ls).flatMap (tellP fr tt snap tx)
  | [], _, _ => rfl
  | _ :: _, [], _ => rfl
  | k :: ks, l :: ls, hl => by
    rw [List.zip_cons_cons, List.flatMap_cons, List.flatMap_append, range_sweep hs fr tt ks ls (fun x hx => hl x (by simp [hx])), List.flatMap_cons]
    congr 1
    have hc := hl l (by simp)
    have hp : (sweepT h l).1 = prune h l := by show pruneR h l = _; unfold pruneR; rw [if_pos hc]
    have hsee := see_prune h snap tx hs l
    rw [tellP_see hc, ← hsee]
    unfold pairT
    simp only [hp]
    by_cases q : prune h l = []
    · rw [if_pos q, q]; simp [see]
    · rw [if_neg q]
      show [(k, prune h l)].flatMap (tellP fr tt snap tx) = _
      rw [List.flatMap_cons, List.flatMap_nil, List.append_nil, tellP_see (chk_prune h hc)]
theorem range_swept {h snap tx : Int} (hs : h ≤ snap) {ks : List ByteArray} {ls : List (List Ver)} (hc : chkC ks ls = 0) (fr tt : ByteArray) :
    rangeR ((ks.zip ls).flatMap (keyT (sweepT h))) ((ks.zip ls).flatMap (lstT (sweepT h))) fr tt snap tx = rangeR ks ls fr tt snap tx := by
  have hc2 := chkC_turn (T := sweepT h) (sweepT_ok h) hc
  unfold rangeR
  rw [if_neg (by simp [hc2]), if_neg (by simp [hc])]
  unfold rangeL
  rw [zip_flat, range_sweep hs fr tt ks ls (fun l hl => ((chkC_ok hc).2.2.2 l hl).2)]
end Go.Proofs.Ytpkacnoimdjckaa
