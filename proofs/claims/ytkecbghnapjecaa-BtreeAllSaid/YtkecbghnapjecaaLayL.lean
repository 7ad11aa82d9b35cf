/- Package btree: what lay needs, ahead of its walk. -/
import Derived.Test.YtkecbghnapjecaaPutL
import Derived.Test.YtkecbghnapjecaaOfB
namespace Go.Proofs.Ytkecbghnapjecaa
open Go.RowKit
set_option linter.unusedVariables false
set_option linter.unusedSimpArgs false
theorem szTs_snoc : ∀ (ts : List Tr) (t : Tr), szTs (ts ++ [t]) = szTs ts + szT t
  | [], t => by simp [szTs]
  | x :: ts, t => by
    show szTs (x :: (ts ++ [t])) = _
    unfold szTs
    rw [szTs_snoc ts t]; omega
theorem layTs_snoc : ∀ (ts : List Tr) (n : Nat) (t : Tr), layTs n (ts ++ [t]) = ((layTs n ts).1 ++ [((n + szTs ts : Nat) : Int)], (layTs n ts).2 ++ layT (n + szTs ts) t)
  | [], n, t => by simp [layTs, szTs]
  | x :: ts, n, t => by
    show layTs n (x :: (ts ++ [t])) = _
    have e : layTs n (x :: ts) = ((n : Int) :: (layTs (n + (layT n x).length) ts).1, layT n x ++ (layTs (n + (layT n x).length) ts).2) := by conv => lhs; unfold layTs
    have e2 : layTs n (x :: (ts ++ [t])) = ((n : Int) :: (layTs (n + (layT n x).length) (ts ++ [t])).1, layT n x ++ (layTs (n + (layT n x).length) (ts ++ [t])).2) := by conv => lhs; unfold layTs
    have hs : szTs (x :: ts) = szT x + szTs ts := by conv => lhs; unfold szTs
    rw [e2, e, layTs_snoc ts _ t, hs, layT_len]
    simp [Nat.add_assoc]
theorem layTs_len1 : ∀ (ts : List Tr) (n : Nat), (layTs n ts).1.length = ts.length
  | [], n => by simp [layTs]
  | t :: ts, n => by
    unfold layTs
    simp [layTs_len1 ts]
theorem szT_pos (t : Tr) : 1 ≤ szT t := by
  obtain ⟨ks, vs, ts⟩ := t
  show 1 ≤ szTs ts + 1
  omega
theorem szTs_len : ∀ ts : List Tr, ts.length ≤ szTs ts
  | [] => by simp
  | t :: ts => by
    have h1 := szT_pos t
    have h2 := szTs_len ts
    have hs : szTs (t :: ts) = szT t + szTs ts := by conv => lhs; unfold szTs
    rw [hs, List.length_cons]; omega
theorem szTs_take : ∀ (ts : List Tr) (j : Nat) (t : Tr), ts[j]? = some t → szTs (ts.take j) + szT t ≤ szTs ts
  | [], j, t, h => by simp at h
  | x :: ts, 0, t, h => by
    obtain rfl : x = t := by simpa using h
    have hs : szTs (x :: ts) = szT x + szTs ts := by conv => lhs; unfold szTs
    rw [hs]; simp [szTs]
  | x :: ts, j + 1, t, h => by
    have ih := szTs_take ts j t (by simpa using h)
    have hs : szTs (x :: ts) = szT x + szTs ts := by conv => lhs; unfold szTs
    have hs2 : szTs (x :: ts.take j) = szT x + szTs (ts.take j) := by conv => lhs; unfold szTs
    rw [List.take_succ_cons, hs, hs2]; omega
theorem own_store3 {w : World} {base g n c j : Nat} {e : TypeId} {xs : List Value} (u : Value) (h : w.ownsRow base e 3 (.slice (some ⟨g, 0, none⟩) n c) n xs) (hj : j < n * 3) : (w.setCell ⟨g, j, none⟩ u).ownsRow base e 3 (.slice (some ⟨g, 0, none⟩) n c) n (xs.set j u) := by
  rcases h.2 with ⟨h0, _⟩ | ⟨g', cap, cur, hv, hb, hg, hnc, hcm, hcs, ht⟩
  · cases h0
  · obtain ⟨rfl, rfl⟩ : g = g' ∧ c = cap := by simpa using hv
    refine ⟨by rw [List.length_set]; exact h.1, .inr ⟨g, c, _, rfl, hb, heap_setCell_same w g j cur e u hg, hnc, hcm, by simpa using hcs, ?_⟩⟩
    rw [Array.toList_setIfInBounds, List.take_set, ht]
theorem enc3_set (L M : List V3) (a b c d : Value) : ((L ++ (a, b, c) :: M).flatMap enc3).set (L.length * 3 + 2) d = (L ++ (a, b, d) :: M).flatMap enc3 := by
  have hl : (L.flatMap enc3).length = L.length * 3 := flat_len enc3_len L
  rw [List.flatMap_append, List.flatMap_append, List.set_append, if_neg (by omega), hl, Nat.add_sub_cancel_left]
  simp [enc3]
theorem enc3_get (L M : List V3) (a b c : Value) : ((L ++ (a, b, c) :: M).flatMap enc3)[L.length * 3 + 2]? = some c := by
  have hl : (L.flatMap enc3).length = L.length * 3 := flat_len enc3_len L
  rw [List.flatMap_append, List.getElem?_append_right (by omega), hl, Nat.add_sub_cancel_left]
  simp [enc3]
end Go.Proofs.Ytkecbghnapjecaa
