/- What reads a state, in plain Lean: which nodes were met, how many pairs. -/
import Derived.Test.YtkecbghnapjecaaBtP
namespace Go.Proofs.Ytkecbghnapjecaa
open Go.RowKit
set_option linter.unusedVariables false
set_option linter.unusedSimpArgs false
def RdOk (s : List Nd) (r : Rd) : Prop := r.met.Nodup ∧ (∀ x ∈ r.met, 0 ≤ x ∧ x < s.length) ∧ 0 ≤ r.pairs ∧ r.pairs ≤ 2048
theorem kidsS_ok {s : List Nd} {go : Rd → Int → Option ByteArray → Option ByteArray → Option (Tr × Rd)} (hgo : ∀ r k lo hi t r2, RdOk s r → go r k lo hi = some (t, r2) → RdOk s r2 ∧ r.met.length + 1 ≤ r2.met.length) (keys : List ByteArray) (lo hi : Option ByteArray) :
    ∀ (ks : List Int) (i : Nat) (r : Rd) (ts : List Tr) (r2 : Rd), RdOk s r → kidsS go keys lo hi i ks r = some (ts, r2) → RdOk s r2 ∧ r.met.length ≤ r2.met.length ∧ ts.length = ks.length
  | [], i, r, ts, r2, h, e => by
    simp only [kidsS, Option.some.injEq, Prod.mk.injEq] at e
    obtain ⟨rfl, rfl⟩ := e
    exact ⟨h, Nat.le_refl _, rfl⟩
  | k :: ks, i, r, ts, r2, h, e => by
    simp only [kidsS] at e
    split at e
    · cases e
    · rename_i t r1 h1
      split at e
      · cases e
      · rename_i us r3 h2
        simp only [Option.some.injEq, Prod.mk.injEq] at e
        obtain ⟨rfl, rfl⟩ := e
        obtain ⟨g1, g2⟩ := hgo _ _ _ _ _ _ h h1
        obtain ⟨g3, g4, g5⟩ := kidsS_ok hgo keys lo hi ks (i + 1) r1 us r3 g1 h2
        exact ⟨g3, by omega, by simp [g5]⟩
theorem nodeS_ok (s : List Nd) : ∀ (f : Nat) (r : Rd) (level a : Int) (lo hi : Option ByteArray) (t : Tr) (r2 : Rd), RdOk s r → nodeS s f r level a lo hi = some (t, r2) → RdOk s r2 ∧ r.met.length + 1 ≤ r2.met.length
  | 0, r, level, a, lo, hi, t, r2, h, e => by simp [nodeS] at e
  | f + 1, r, level, a, lo, hi, t, r2, h, e => by
    unfold nodeS at e
    by_cases hv : 0 ≤ a ∧ a < s.length ∧ r.met.contains a = false
    · rw [if_pos hv] at e
      have hm : RdOk s ⟨a :: r.met, r.leaf, r.pairs⟩ := ⟨List.nodup_cons.2 ⟨by have := hv.2.2; simpa using this, h.1⟩, fun x hx => by
        rcases List.mem_cons.1 hx with rfl | hx
        · exact ⟨hv.1, hv.2.1⟩
        · exact h.2.1 x hx, h.2.2.1, h.2.2.2⟩
      split at e
      · cases e
      · rename_i n hn
        split at e
        · cases e
        · split at e
          · split at e
            · rename_i hc
              simp only [Option.some.injEq, Prod.mk.injEq] at e
              obtain ⟨rfl, rfl⟩ := e
              refine ⟨⟨hm.1, hm.2.1, ?_, ?_⟩, by simp⟩
              · have := h.2.2.1; show 0 ≤ r.pairs + (n.keys.length : Int); omega
              · exact hc.2.2
            · cases e
          · split at e
            · split at e
              · cases e
              · rename_i ts r3 h3
                simp only [Option.some.injEq, Prod.mk.injEq] at e
                obtain ⟨rfl, rfl⟩ := e
                obtain ⟨g1, g2, _⟩ := kidsS_ok (s := s) (fun r k lo hi t r2 hr he => nodeS_ok s f r (level + 1) k lo hi t r2 hr he) _ _ _ _ _ _ _ _ hm h3
                exact ⟨g1, by simpa using g2⟩
            · cases e
    · rw [if_neg hv] at e
      cases e
theorem kidsS_at {go : Rd → Int → Option ByteArray → Option ByteArray → Option (Tr × Rd)} {keys : List ByteArray} {lo hi : Option ByteArray} {ks : List Int} {j : Nat} {k : Int} {r : Rd} (h : ks[j]? = some k) :
    kidsS go keys lo hi j (ks.drop j) r = match go r k (if j = 0 then lo else keys[j - 1]?) (if j < keys.length then keys[j]? else hi) with
      | none => none
      | some (t, r1) => match kidsS go keys lo hi (j + 1) (ks.drop (j + 1)) r1 with | none => none | some (ts, r2) => some (t :: ts, r2) := by
  have hlt := (List.getElem?_eq_some_iff.1 h).1
  have e : ks.drop j = k :: ks.drop (j + 1) := by
    rw [List.drop_eq_getElem_cons hlt]
    rw [List.getElem?_eq_getElem hlt] at h
    rw [Option.some.inj h]
  rw [e]
  rfl
end Go.Proofs.Ytkecbghnapjecaa
