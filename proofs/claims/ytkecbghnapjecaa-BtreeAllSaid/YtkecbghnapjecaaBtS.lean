/- Package btree, in plain Lean: how many nodes and pairs; how wide. -/
import Derived.Test.YtkecbghnapjecaaPutL
import Derived.Test.YtkecbghnapjecaaLayL
import Derived.Test.YtkecbghnapjecaaBtL
namespace Go.Proofs.Ytkecbghnapjecaa
open Go.RowKit
set_option linter.unusedVariables false
set_option linter.unusedSimpArgs false
theorem szTs_cons (t : Tr) (ts : List Tr) : szTs (t :: ts) = szT t + szTs ts := by conv => lhs; unfold szTs
theorem szT_mk (ks vs : List ByteArray) (ts : List Tr) : szT (.mk ks vs ts) = szTs ts + 1 := by conv => lhs; unfold szT
theorem szTs_append : ∀ (a b : List Tr), szTs (a ++ b) = szTs a + szTs b
  | [], b => by simp [szTs]
  | x :: a, b => by rw [List.cons_append, szTs_cons, szTs_cons, szTs_append a b]; omega
theorem szTs_split (ts : List Tr) (n : Nat) : szTs (ts.take n) + szTs (ts.drop n) = szTs ts := by rw [← szTs_append, List.take_append_drop]
theorem szTs_set : ∀ (ts : List Tr) (i : Nat) (t u : Tr), ts[i]? = some t → szTs (ts.set i u) + szT t = szTs ts + szT u
  | [], i, t, u, h => by simp at h
  | x :: ts, 0, t, u, h => by
    obtain rfl : x = t := by simpa using h
    rw [List.set_cons_zero, szTs_cons, szTs_cons]; omega
  | x :: ts, i + 1, t, u, h => by
    have := szTs_set ts i t u (by simpa using h)
    rw [List.set_cons_succ, szTs_cons, szTs_cons]; omega
theorem szTs_putV (ts : List Tr) (i : Nat) (t : Tr) : szTs (putV ts i t) = szTs ts + szT t := by
  unfold putV
  rw [szTs_append, szTs_cons, ← szTs_split ts i]; omega
theorem szT_split (t : Tr) : szT (splitT t).2.1 + szT (splitT t).2.2 = szT t + 1 := by
  obtain ⟨ks, vs, ts⟩ := t
  cases ts with
  | nil => simp [splitT, szT_mk, szTs]
  | cons x ts =>
    simp only [splitT, szT_mk]
    have := szTs_split (x :: ts) (ks.length / 2 + 1)
    omega
theorem szT_fix (ks vs : List ByteArray) (ts : List Tr) (i : Nat) (t t' : Tr) (h : ts[i]? = some t) : szT (fixT ks vs ts i t') + szT t ≤ szT (.mk ks vs ts) + szT t' + 1 := by
  unfold fixT
  have hi := (List.getElem?_eq_some_iff.1 h).1
  split
  · have h1 := szT_split t'
    have h2 := szTs_set ts i t (splitT t').2.1 h
    rw [szT_mk, szT_mk, szTs_putV]; omega
  · have h2 := szTs_set ts i t t' h
    rw [szT_mk, szT_mk]; omega
/-- put at most doubles the nodes. -/
theorem szT_put (key value : ByteArray) : ∀ (n : Nat) (t : Tr), szT t ≤ n → OkT t → szT (putK key value t) ≤ 2 * szT t
  | 0, t, h, _ => by have := szT_pos t; omega
  | n + 1, .mk ks vs ts, h, hO => by
    obtain ⟨hR, h1, h4, hl, hi, ho⟩ := hO.parts
    by_cases h0 : ts = []
    · subst h0
      rw [putK_leaf]
      split <;> simp [szT_mk, szTs]
    · obtain ⟨htl, hvn⟩ := hi h0
      have hw := wayS_le (ks := ks) (t := key) hR
      obtain ⟨t1, ht1⟩ : ∃ t1, ts[wayS ks key]? = some t1 := ⟨_, List.getElem?_eq_getElem (by omega)⟩
      rw [putK_node key value ht1]
      have hk := szT_kid (ks := ks) (vs := vs) (List.mem_of_getElem? ht1)
      have ih := szT_put key value n t1 (by omega) (ho.mem t1 (List.mem_of_getElem? ht1))
      have := szT_fix ks vs ts (wayS ks key) t1 (putK key value t1) ht1
      omega
theorem pairsTs_append : ∀ (a b : List Tr), pairsTs (a ++ b) = pairsTs a ++ pairsTs b
  | [], b => by simp [pairsTs]
  | x :: a, b => by
    have e : ∀ (x : Tr) (l : List Tr), pairsTs (x :: l) = pairsT x ++ pairsTs l := fun x l => by conv => lhs; unfold pairsTs
    rw [List.cons_append, e, e, pairsTs_append a b, List.append_assoc]
theorem pairsTs_cons (x : Tr) (l : List Tr) : pairsTs (x :: l) = pairsT x ++ pairsTs l := by conv => lhs; unfold pairsTs
theorem pairsT_leaf (ks vs : List ByteArray) : pairsT (.mk ks vs []) = ks.zip vs := by unfold pairsT; simp [pairsTs]
theorem pairsT_node (ks vs : List ByteArray) {ts : List Tr} (h : ts ≠ []) : pairsT (.mk ks vs ts) = pairsTs ts := by
  cases ts with
  | nil => exact absurd rfl h
  | cons x ts => conv => lhs; unfold pairsT
                 simp
mutual
/-- Two pairs a node, less one. -/
theorem szT_pairs : ∀ t : Tr, OkT t → szT t + 1 ≤ 2 * (pairsT t).length
  | .mk ks vs ts, hO => by
    obtain ⟨hR, h1, h4, hl, hi, ho⟩ := hO.parts
    have ih := szTs_pairs ts ho
    by_cases h0 : ts = []
    · subst h0
      have := hl rfl
      rw [pairsT_leaf, szT_mk, List.length_zip]
      simp only [szTs]; omega
    · obtain ⟨htl, _⟩ := hi h0
      rw [pairsT_node _ _ h0, szT_mk]
      omega
theorem szTs_pairs : ∀ ts : List Tr, OkTs ts → szTs ts + ts.length ≤ 2 * (pairsTs ts).length
  | [], _ => by simp [szTs]
  | t :: ts, h => by
    unfold OkTs at h
    have h1 := szT_pairs t h.1
    have h2 := szTs_pairs ts h.2
    rw [szTs_cons, pairsTs_cons, List.length_append, List.length_cons]
    omega
end
theorem kidsS_pairs {go : Rd → Int → Option ByteArray → Option ByteArray → Option (Tr × Rd)} {keys : List ByteArray} {lo hi : Option ByteArray} (hgo : ∀ r k lo hi t r2, go r k lo hi = some (t, r2) → r2.pairs = r.pairs + (pairsT t).length ∧ r2.met.length = r.met.length + szT t) :
    ∀ (ks : List Int) (i : Nat) (r : Rd) (ts : List Tr) (r2 : Rd), kidsS go keys lo hi i ks r = some (ts, r2) → r2.pairs = r.pairs + (pairsTs ts).length ∧ r2.met.length = r.met.length + szTs ts
  | [], i, r, ts, r2, e => by
    simp only [kidsS, Option.some.injEq, Prod.mk.injEq] at e
    obtain ⟨rfl, rfl⟩ := e
    simp [pairsTs, szTs]
  | k :: ks, i, r, ts, r2, e => by
    simp only [kidsS] at e
    split at e
    · cases e
    · rename_i t r1 h1
      split at e
      · cases e
      · rename_i us r3 h2
        simp only [Option.some.injEq, Prod.mk.injEq] at e
        obtain ⟨rfl, rfl⟩ := e
        obtain ⟨g1, g2⟩ := hgo _ _ _ _ _ _ h1
        obtain ⟨g3, g4⟩ := kidsS_pairs hgo ks (i + 1) r1 us r3 h2
        rw [pairsTs_cons, szTs_cons, List.length_append]
        constructor
        · rw [g3, g1]; push_cast; omega
        · omega
theorem nodeS_pairs (s : List Nd) : ∀ (f : Nat) (r : Rd) (level a : Int) (lo hi : Option ByteArray) (t : Tr) (r2 : Rd), nodeS s f r level a lo hi = some (t, r2) → r2.pairs = r.pairs + (pairsT t).length ∧ r2.met.length = r.met.length + szT t
  | 0, r, level, a, lo, hi, t, r2, e => by simp [nodeS] at e
  | f + 1, r, level, a, lo, hi, t, r2, e => by
    unfold nodeS at e
    split at e
    · cases e
    · rename_i n hn
      split at e
      · cases e
      · split at e
        · split at e
          · rename_i hc
            simp only [Option.some.injEq, Prod.mk.injEq] at e
            obtain ⟨rfl, rfl⟩ := e
            rw [pairsT_leaf, szT_mk, List.length_zip, hc.1, Nat.min_self]
            simp [szTs]
          · cases e
        · split at e
          · rename_i hki hc
            split at e
            · cases e
            · rename_i ts r3 h3
              simp only [Option.some.injEq, Prod.mk.injEq] at e
              obtain ⟨rfl, rfl⟩ := e
              obtain ⟨g1, g2⟩ := kidsS_pairs (fun r k lo hi t r2 he => nodeS_pairs s f r (level + 1) k lo hi t r2 he) _ _ _ _ _ h3
              have hts : ts ≠ [] := by
                have := (kidsS_all (Q := fun _ => True) (fun _ _ _ _ _ _ _ => trivial) _ _ _ _ _ h3).1
                intro e0
                subst e0
                have := hc.2
                simp at *
                omega
              rw [pairsT_node _ _ hts, szT_mk]
              simp only [List.length_cons] at g2
              exact ⟨g1, by omega⟩
          · cases e
mutual
/-- No node is wide. -/
def Wid : Tr → Prop
  | .mk ks vs ts => ks.length ≤ 9 ∧ vs.length ≤ 9 ∧ ts.length ≤ 10 ∧ Wids ts
def Wids : List Tr → Prop
  | [] => True
  | t :: ts => Wid t ∧ Wids ts
end
theorem Wid.iff {ks vs : List ByteArray} {ts : List Tr} : Wid (.mk ks vs ts) ↔ ks.length ≤ 9 ∧ vs.length ≤ 9 ∧ ts.length ≤ 10 ∧ Wids ts := by unfold Wid; exact Iff.rfl
theorem Wids.iff : ∀ {ts : List Tr}, Wids ts ↔ ∀ t ∈ ts, Wid t
  | [] => by unfold Wids; simp
  | x :: ts => by
    unfold Wids
    rw [Wids.iff]
    simp
mutual
theorem OkT.wid : ∀ {t : Tr}, OkT t → Wid t
  | .mk ks vs ts, h => by
    obtain ⟨hR, h1, h4, hl, hi, ho⟩ := h.parts
    rw [Wid.iff]
    by_cases h0 : ts = []
    · have := hl h0
      exact ⟨by omega, by omega, by rw [h0]; simp, OkTs.wids ho⟩
    · obtain ⟨htl, hvn⟩ := hi h0
      exact ⟨by omega, by rw [hvn]; simp, by omega, OkTs.wids ho⟩
theorem OkTs.wids : ∀ {ts : List Tr}, OkTs ts → Wids ts
  | [], _ => by unfold Wids; trivial
  | t :: ts, h => by
    unfold OkTs at h
    unfold Wids
    exact ⟨OkT.wid h.1, OkTs.wids h.2⟩
end
theorem Wid.split {t : Tr} (h : Wid t) : Wid (splitT t).2.1 ∧ Wid (splitT t).2.2 := by
  obtain ⟨ks, vs, ts⟩ := t
  rw [Wid.iff] at h
  obtain ⟨h1, h2, h3, h4⟩ := h
  rw [Wids.iff] at h4
  cases ts with
  | nil =>
    simp only [splitT]
    rw [Wid.iff, Wid.iff]
    simp only [List.length_take, List.length_drop, List.length_nil, Wids.iff]
    exact ⟨⟨by omega, by omega, by omega, by simp⟩, ⟨by omega, by omega, by omega, by simp⟩⟩
  | cons x ts =>
    simp only [splitT]
    rw [Wid.iff, Wid.iff]
    simp only [List.length_take, List.length_drop, Wids.iff]
    exact ⟨⟨by omega, h2, by omega, fun t ht => h4 t (List.mem_of_mem_take ht)⟩, ⟨by omega, by simp, by omega, fun t ht => h4 t (List.mem_of_mem_drop ht)⟩⟩
theorem mem_putV {α : Type} {l : List α} {i : Nat} {x y : α} (h : y ∈ putV l i x) : y = x ∨ y ∈ l := by
  unfold putV at h
  rcases List.mem_append.1 h with h | h
  · exact .inr (List.mem_of_mem_take h)
  · rcases List.mem_cons.1 h with h | h
    · exact .inl h
    · exact .inr (List.mem_of_mem_drop h)
theorem putK_wid (key value : ByteArray) : ∀ (n : Nat) (t : Tr), szT t ≤ n → OkT t → Wid (putK key value t)
  | 0, t, h, _ => by have := szT_pos t; omega
  | n + 1, .mk ks vs ts, h, hO => by
    have hsh := putK_shape (key := key) (value := value) hO
    obtain ⟨hR, h1, h4, hl, hi, ho⟩ := hO.parts
    have hwids := ho.wids
    rw [Wids.iff] at hwids
    by_cases h0 : ts = []
    · subst h0
      have := hl rfl
      have hb := bsI_le ks key
      rw [putK_leaf]
      split
      · rw [Wid.iff]; exact ⟨by omega, by simp; omega, by simp, by unfold Wids; trivial⟩
      · rw [Wid.iff, putV_len _ _ _ hb, putV_len _ _ _ (by omega)]; exact ⟨by omega, by omega, by simp, by unfold Wids; trivial⟩
    · obtain ⟨htl, hvn⟩ := hi h0
      have hw := wayS_le (ks := ks) (t := key) hR
      obtain ⟨t1, ht1⟩ : ∃ t1, ts[wayS ks key]? = some t1 := ⟨_, List.getElem?_eq_getElem (by omega)⟩
      rw [putK_node key value ht1]
      have hk := szT_kid (ks := ks) (vs := vs) (List.mem_of_getElem? ht1)
      have ih := putK_wid key value n t1 (by omega) (ho.mem t1 (List.mem_of_getElem? ht1))
      unfold fixT
      split
      · rw [Wid.iff, putV_len _ _ _ hw, putV_len _ _ _ (by simp; omega), List.length_set, hvn]
        refine ⟨by omega, by simp, by omega, Wids.iff.2 fun t ht => ?_⟩
        rcases mem_putV ht with rfl | ht
        · exact ih.split.2
        · rcases List.mem_or_eq_of_mem_set ht with ht | rfl
          · exact hwids t ht
          · exact ih.split.1
      · rw [Wid.iff, List.length_set, hvn]
        refine ⟨by omega, by simp, by omega, Wids.iff.2 fun t ht => ?_⟩
        rcases List.mem_or_eq_of_mem_set ht with ht | rfl
        · exact hwids t ht
        · exact ih
mutual
theorem layT_bounds : ∀ (t : Tr) (k : Nat), Wid t → ∀ n ∈ layT k t, n.keys.length ≤ 9 ∧ n.vals.length ≤ 9 ∧ n.kids.length ≤ 10 ∧ ∀ x ∈ n.kids, 0 ≤ x ∧ x < ((k + szT t : Nat) : Int)
  | .mk ks vs ts, k, h, n, hn => by
    rw [Wid.iff] at h
    unfold layT at hn
    have hb := layTs_bounds ts (k + 1) h.2.2.2
    rw [szT_mk]
    rcases List.mem_cons.1 hn with rfl | hn
    · refine ⟨h.1, h.2.1, by rw [layTs_len1]; exact h.2.2.1, fun x hx => ?_⟩
      have := hb.1 x hx
      constructor
      · exact this.1
      · push_cast at *; omega
    · obtain ⟨h1, h2, h3, h4⟩ := hb.2 n hn
      refine ⟨h1, h2, h3, fun x hx => ?_⟩
      have := h4 x hx
      constructor
      · exact this.1
      · push_cast at *; omega
theorem layTs_bounds : ∀ (ts : List Tr) (k : Nat), Wids ts → (∀ x ∈ (layTs k ts).1, 0 ≤ x ∧ x < ((k + szTs ts : Nat) : Int)) ∧ ∀ n ∈ (layTs k ts).2, n.keys.length ≤ 9 ∧ n.vals.length ≤ 9 ∧ n.kids.length ≤ 10 ∧ ∀ x ∈ n.kids, 0 ≤ x ∧ x < ((k + szTs ts : Nat) : Int)
  | [], k, _ => by simp [layTs]
  | t :: ts, k, h => by
    unfold Wids at h
    have h1 := layT_bounds t k h.1
    have h2 := layTs_bounds ts (k + (layT k t).length) h.2
    rw [layT_len] at h2
    have hp := szT_pos t
    unfold layTs
    rw [szTs_cons, layT_len]
    refine ⟨fun x hx => ?_, fun n hn => ?_⟩
    · rcases List.mem_cons.1 hx with rfl | hx
      · constructor <;> omega
      · have := h2.1 x hx
        constructor
        · exact this.1
        · push_cast at *; omega
    · rcases List.mem_append.1 hn with hn | hn
      · obtain ⟨q1, q2, q3, q4⟩ := h1 n hn
        exact ⟨q1, q2, q3, fun x hx => by have := q4 x hx; push_cast at *; omega⟩
      · obtain ⟨q1, q2, q3, q4⟩ := h2.2 n hn
        exact ⟨q1, q2, q3, fun x hx => by have := q4 x hx; push_cast at *; omega⟩
end
end Go.Proofs.Ytkecbghnapjecaa
