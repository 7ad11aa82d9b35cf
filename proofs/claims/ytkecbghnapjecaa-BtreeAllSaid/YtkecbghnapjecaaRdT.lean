/- A tree of nodes that can be read; one whose root's rows are its own. -/
import Derived.Test.YtkecbghnapjecaaLeafW
import Derived.Test.YtkecbghnapjecaaCloneN
namespace Go.Proofs.Ytkecbghnapjecaa
open Go.RowKit
set_option linter.unusedVariables false
set_option linter.unusedSimpArgs false
mutual
def RdT (w : World) (P : Nat → Prop) (g : Nat) : Tr → Prop
  | .mk ks vs ts => ∃ kv vv iv ps, Box w g [kv, vv, iv] ∧ RowP encS P w kv ks ∧ RowP encS P w vv vs ∧ RowP encN P w iv ps ∧ P g ∧ RdsT w P ps ts
def RdsT (w : World) (P : Nat → Prop) (ps : List Nat) : List Tr → Prop
  | [] => ps = []
  | t :: ts => ∃ p q, ps = p :: q ∧ RdT w P p t ∧ RdsT w P q ts
end
mutual
theorem RdT.kept {w w' : World} {B : Nat → Prop} (hk : Kept w.heap.size B w w') : ∀ {t : Tr} {P : Nat → Prop} {g : Nat}, (∀ k, B k → ¬ P k) → RdT w P g t → RdT w' P g t
  | .mk ks vs ts, P, g, hB, h => by
    unfold RdT at h ⊢
    obtain ⟨kv, vv, iv, ps, h0, h1, h2, h3, h4, h5⟩ := h
    exact ⟨kv, vv, iv, ps, h0.kept hk h0.lt (fun hb => hB g hb h4), h1.kept hk hB, h2.kept hk hB, h3.kept hk hB, h4, RdsT.kept hk hB h5⟩
theorem RdsT.kept {w w' : World} {B : Nat → Prop} (hk : Kept w.heap.size B w w') : ∀ {ts : List Tr} {P : Nat → Prop} {ps : List Nat}, (∀ k, B k → ¬ P k) → RdsT w P ps ts → RdsT w' P ps ts
  | [], P, ps, hB, h => by unfold RdsT at h ⊢; exact h
  | t :: ts, P, ps, hB, h => by
    unfold RdsT at h ⊢
    obtain ⟨p, q, e, h1, h2⟩ := h
    exact ⟨p, q, e, RdT.kept hk hB h1, RdsT.kept hk hB h2⟩
end
mutual
theorem RdT.mono {w : World} : ∀ {t : Tr} {P P' : Nat → Prop} {g : Nat}, (∀ b, b < w.heap.size → P b → P' b) → RdT w P g t → RdT w P' g t
  | .mk ks vs ts, P, P', g, hP, h => by
    unfold RdT at h ⊢
    obtain ⟨kv, vv, iv, ps, h0, h1, h2, h3, h4, h5⟩ := h
    exact ⟨kv, vv, iv, ps, h0, h1.mono hP, h2.mono hP, h3.mono hP, hP g h0.lt h4, RdsT.mono hP h5⟩
theorem RdsT.mono {w : World} : ∀ {ts : List Tr} {P P' : Nat → Prop} {ps : List Nat}, (∀ b, b < w.heap.size → P b → P' b) → RdsT w P ps ts → RdsT w P' ps ts
  | [], P, P', ps, hP, h => by unfold RdsT at h ⊢; exact h
  | t :: ts, P, P', ps, hP, h => by
    unfold RdsT at h ⊢
    obtain ⟨p, q, e, h1, h2⟩ := h
    exact ⟨p, q, e, RdT.mono hP h1, RdsT.mono hP h2⟩
end
mutual
theorem TrAt.rd {w : World} : ∀ {t : Tr} {P : Nat → Prop} {g : Nat}, TrAt w P g t → RdT w P g t
  | .mk ks vs ts, P, g, h => by
    unfold TrAt at h
    obtain ⟨kv, vv, iv, ps, h0, h1, h2, h3, h4, h5, h6⟩ := h
    unfold RdT
    exact ⟨kv, vv, iv, ps, h0, h1.row encS_len, h2.row encS_len, h3.row encN_len, h4, (TrsAt.rd h6).mono (fun b _ h => h.1)⟩
theorem TrsAt.rd {w : World} : ∀ {ts : List Tr} {P : Nat → Prop} {ps : List Nat}, TrsAt w P ps ts → RdsT w P ps ts
  | [], P, ps, h => by unfold TrsAt at h; unfold RdsT; exact h
  | t :: ts, P, ps, h => by
    unfold TrsAt at h
    obtain ⟨p, q, P1, e, h0, h1, h2⟩ := h
    unfold RdsT
    exact ⟨p, q, e, (TrAt.rd h1).mono (fun b _ h => h0 b h), (TrsAt.rd h2).mono (fun b _ h => h.1)⟩
end
section
variable {w w' : World} {P : Nat → Prop}
theorem RdT.below {g : Nat} {t : Tr} (h : RdT w P g t) (hb : Below w.heap.size w w') : RdT w' P g t := h.kept (B := fun _ => False) (Kept.of_below hb (Nat.le_refl _)) (fun _ h => h.elim)
theorem RdsT.below {ps : List Nat} {ts : List Tr} (h : RdsT w P ps ts) (hb : Below w.heap.size w w') : RdsT w' P ps ts := h.kept (B := fun _ => False) (Kept.of_below hb (Nat.le_refl _)) (fun _ h => h.elim)
theorem RdsT.len : ∀ {ts : List Tr} {ps : List Nat}, RdsT w P ps ts → ps.length = ts.length
  | [], ps, h => by unfold RdsT at h; rw [h]; rfl
  | t :: ts, ps, h => by
    unfold RdsT at h
    obtain ⟨p, q, rfl, _, h2⟩ := h
    simp [RdsT.len h2]
theorem RdsT.get : ∀ {ts : List Tr} {ps : List Nat} {i : Nat} {t : Tr}, RdsT w P ps ts → ts[i]? = some t → ∃ p, ps[i]? = some p ∧ RdT w P p t
  | [], ps, i, t, _, h => by simp at h
  | x :: ts, ps, i, t, hT, h => by
    unfold RdsT at hT
    obtain ⟨p, q, rfl, h1, h2⟩ := hT
    cases i with
    | zero =>
      obtain rfl : x = t := by simpa using h
      exact ⟨p, rfl, h1⟩
    | succ i =>
      obtain ⟨p', g1, g3⟩ := RdsT.get h2 (by simpa using h)
      exact ⟨p', by simpa using g1, g3⟩
/-- Of rows as long as the trees, each with its tree. -/
theorem RdsT.of : ∀ {ts : List Tr} {ps : List Nat}, ps.length = ts.length → (∀ (i p : Nat) (t : Tr), ps[i]? = some p → ts[i]? = some t → RdT w P p t) → RdsT w P ps ts
  | [], ps, hl, h => by unfold RdsT; simpa using hl
  | t :: ts, [], hl, h => by simp at hl
  | t :: ts, p :: ps, hl, h => by
    unfold RdsT
    exact ⟨p, ps, rfl, h 0 p t rfl rfl, RdsT.of (by simpa using hl) (fun i p' t' h1 h2 => h (i + 1) p' t' (by simpa using h1) (by simpa using h2))⟩
theorem RdsT.take {ps : List Nat} {ts : List Tr} (n : Nat) (h : RdsT w P ps ts) : RdsT w P (ps.take n) (ts.take n) := RdsT.of (by simp [h.len]) (fun i p t h1 h2 => by
  rw [List.getElem?_take] at h1 h2
  split at h1
  · rename_i hi
    rw [if_pos hi] at h2
    obtain ⟨p', g1, g2⟩ := h.get h2
    rw [g1] at h1
    exact Option.some.inj h1 ▸ g2
  · cases h1)
theorem RdsT.drop {ps : List Nat} {ts : List Tr} (n : Nat) (h : RdsT w P ps ts) : RdsT w P (ps.drop n) (ts.drop n) := RdsT.of (by simp [h.len]) (fun i p t h1 h2 => by
  rw [List.getElem?_drop] at h1 h2
  obtain ⟨p', g1, g2⟩ := h.get h2
  rw [g1] at h1
  exact Option.some.inj h1 ▸ g2)
theorem RdsT.putV {ps : List Nat} {ts : List Tr} {i g : Nat} {t : Tr} (hi : i ≤ ts.length) (h : RdsT w P ps ts) (ht : RdT w P g t) : RdsT w P (putV ps i g) (putV ts i t) := by
  have hl := h.len
  refine RdsT.of (by rw [putV_len _ _ _ (by omega), putV_len _ _ _ hi, hl]) (fun j p u h1 h2 => ?_)
  unfold Go.Proofs.Ytkecbghnapjecaa.putV at h1 h2
  rcases Nat.lt_trichotomy j i with hj | rfl | hj
  · rw [List.getElem?_append_left (by simp; omega), List.getElem?_take, if_pos hj] at h1 h2
    obtain ⟨p', g1, g2⟩ := h.get h2
    rw [g1] at h1
    exact Option.some.inj h1 ▸ g2
  · rw [List.getElem?_append_right (by simp; omega)] at h1 h2
    have e1 : j - (ps.take j).length = 0 := by simp; omega
    have e2 : j - (ts.take j).length = 0 := by simp; omega
    rw [e1] at h1; rw [e2] at h2
    obtain rfl : g = p := by simpa using h1
    obtain rfl : t = u := by simpa using h2
    exact ht
  · obtain ⟨k, rfl⟩ : ∃ k, j = i + 1 + k := ⟨j - i - 1, by omega⟩
    rw [List.getElem?_append_right (by simp; omega)] at h1 h2
    have e1 : i + 1 + k - (ps.take i).length = k + 1 := by simp; omega
    have e2 : i + 1 + k - (ts.take i).length = k + 1 := by simp; omega
    rw [e1, List.getElem?_cons_succ, List.getElem?_drop] at h1; rw [e2, List.getElem?_cons_succ, List.getElem?_drop] at h2
    obtain ⟨p', g1, g2⟩ := h.get h2
    rw [g1] at h1
    exact Option.some.inj h1 ▸ g2
theorem RdsT.set {ps : List Nat} {ts : List Tr} {i g : Nat} {t : Tr} (h : RdsT w P ps ts) (hg : ps[i]? = some g) (ht : RdT w P g t) : RdsT w P ps (ts.set i t) := RdsT.of (by simp [h.len]) (fun j p u h1 h2 => by
  by_cases e : i = j
  · subst e
    rw [hg] at h1
    obtain rfl := Option.some.inj h1
    rw [List.getElem?_set_self (by have := lt_of_get hg; rw [h.len] at this; exact this)] at h2
    exact Option.some.inj h2 ▸ ht
  · rw [List.getElem?_set_ne e] at h2
    obtain ⟨p', g1, g2⟩ := h.get h2
    rw [g1] at h1
    exact Option.some.inj h1 ▸ g2)
end
/-- A node whose rows are its own; what is below it can be read. -/
def TopAt (w : World) (P : Nat → Prop) (g : Nat) : Tr → Prop
  | .mk ks vs ts => ∃ kv vv iv ps, Box w g [kv, vv, iv] ∧ OwnP P w 9 kv ks.length (ks.flatMap encS) ∧ OwnP P w 9 vv vs.length (vs.flatMap encS) ∧ OwnP P w 67 iv ts.length (ps.flatMap encN) ∧ P g ∧ Apart g kv vv iv ∧ RdsT w (Rest P g kv vv iv) ps ts
theorem TrAt.top {w : World} {P : Nat → Prop} {g : Nat} {t : Tr} (h : TrAt w P g t) : TopAt w P g t := by
  obtain ⟨ks, vs, ts⟩ := t
  unfold TrAt at h
  obtain ⟨kv, vv, iv, ps, h0, h1, h2, h3, h4, h5, h6⟩ := h
  exact ⟨kv, vv, iv, ps, h0, h1, h2, h3, h4, h5, h6.rd⟩
theorem TopAt.rd {w : World} {P : Nat → Prop} {g : Nat} {t : Tr} (h : TopAt w P g t) : RdT w P g t := by
  obtain ⟨ks, vs, ts⟩ := t
  obtain ⟨kv, vv, iv, ps, h0, h1, h2, h3, h4, h5, h6⟩ := h
  unfold RdT
  exact ⟨kv, vv, iv, ps, h0, h1.row encS_len, h2.row encS_len, h3.row encN_len, h4, h6.mono (fun b _ h => h.1)⟩
theorem OwnP.mono {P P' : Nat → Prop} {w : World} {e : TypeId} {v : Value} {n : Nat} {xs : List Value} (h : OwnP P w e v n xs) (hP : ∀ b, b < w.heap.size → P b → P' b) : OwnP P' w e v n xs := ⟨h.1, fun b hb => hP b (h.1.lt b hb).2 (h.2 b hb)⟩
theorem TopAt.mono {w : World} {P P' : Nat → Prop} {g : Nat} {t : Tr} (hP : ∀ b, b < w.heap.size → P b → P' b) (h : TopAt w P g t) : TopAt w P' g t := by
  obtain ⟨ks, vs, ts⟩ := t
  obtain ⟨kv, vv, iv, ps, h0, h1, h2, h3, h4, h5, h6⟩ := h
  exact ⟨kv, vv, iv, ps, h0, h1.mono hP, h2.mono hP, h3.mono hP, hP g h0.lt h4, h5, h6.mono (fun b hb h => ⟨hP b hb h.1, h.2⟩)⟩
theorem TopAt.kept {w w' : World} {B P : Nat → Prop} {g : Nat} {t : Tr} (hk : Kept w.heap.size B w w') (hB : ∀ k, B k → ¬ P k) (h : TopAt w P g t) : TopAt w' P g t := by
  obtain ⟨ks, vs, ts⟩ := t
  obtain ⟨kv, vv, iv, ps, h0, h1, h2, h3, h4, h5, h6⟩ := h
  exact ⟨kv, vv, iv, ps, h0.kept hk h0.lt (fun hb => hB g hb h4), h1.kept hk hB, h2.kept hk hB, h3.kept hk hB, h4, h5, h6.kept hk (fun k hk h => hB k hk h.1)⟩
/-- The blocks of P, and those that are laid from now on. -/
def AndNew (P : Nat → Prop) (w : World) : Nat → Prop := fun b => P b ∨ w.heap.size ≤ b
end Go.Proofs.Ytkecbghnapjecaa
