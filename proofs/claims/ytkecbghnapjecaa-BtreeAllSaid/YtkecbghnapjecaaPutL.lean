/- Package btree: what put needs, ahead of its walk. -/
import Derived.Test.YtkecbghnapjecaaSplitW
namespace Go.Proofs.Ytkecbghnapjecaa
open Go.RowKit
set_option linter.unusedVariables false
set_option linter.unusedSimpArgs false
theorem flat_encS (l : List ByteArray) : l.flatMap encS = l.map Value.string := by
  induction l with
  | nil => rfl
  | cons a l ih => rw [List.flatMap_cons, ih]; rfl
theorem flat_encN (l : List Nat) : l.flatMap encN = l.map (fun g => Value.pointer (some ⟨g, 0, none⟩)) := by
  induction l with
  | nil => rfl
  | cons a l ih => rw [List.flatMap_cons, ih]; rfl
theorem putV_map {α β : Type} (f : α → β) (l : List α) (i : Nat) (x : α) : putV (l.map f) i (f x) = (putV l i x).map f := by simp [putV]
theorem insK (q i : Nat) (v : Value) (ks : List ByteArray) (key : ByteArray) (w : World) (hl : ks.length ≤ 2048) (hi : i ≤ ks.length) (hown : w.ownsRow 0 9 1 v ks.length (ks.flatMap encS))
    (hq : w.heap[q]? = some (.cells #[.string key] 9 (0, 0))) (hqv : v.ownBlock ≠ some q) :
    Calls Try.prog 47 #[v, .int .i64 i, .slice (some ⟨q, 0, none⟩) 1 1] w fun e w' => ∃ v', e = .returned v' ∧ w'.ownsRow 0 9 1 v' (ks.length + 1) ((putV ks i key).flatMap encS) ∧ InsP w w' v.ownBlock v' := by
  have hll : (ks.flatMap encS).length = ks.length := by rw [flat_encS, List.length_map]
  have h := insS_any 0 q i v (ks.flatMap encS) (.string key) w (encS_one ks) rfl (by rw [hll]; exact hl) (by rw [hll]; exact hi) (by rw [hll]; exact hown) hq hqv (Nat.zero_le _)
  rw [hll] at h
  rw [flat_encS, ← putV_map Value.string ks i key] 
  rw [flat_encS] at h
  exact h
theorem insG (q i : Nat) (v : Value) (ps : List Nat) (g : Nat) (w : World) (hl : ps.length ≤ 2048) (hi : i ≤ ps.length) (hown : w.ownsRow 0 67 1 v ps.length (ps.flatMap encN))
    (hq : w.heap[q]? = some (.cells #[.pointer (some ⟨g, 0, none⟩)] 67 (0, 0))) (hqv : v.ownBlock ≠ some q) :
    Calls Try.prog 48 #[v, .int .i64 i, .slice (some ⟨q, 0, none⟩) 1 1] w fun e w' => ∃ v', e = .returned v' ∧ w'.ownsRow 0 67 1 v' (ps.length + 1) ((putV ps i g).flatMap encN) ∧ InsP w w' v.ownBlock v' := by
  have hll : (ps.flatMap encN).length = ps.length := by rw [flat_encN, List.length_map]
  have h := insN_any 0 q i v (ps.flatMap encN) (.pointer (some ⟨g, 0, none⟩)) w (encN_one ps) rfl (by rw [hll]; exact hl) (by rw [hll]; exact hi) (by rw [hll]; exact hown) hq hqv (Nat.zero_le _)
  rw [hll] at h
  rw [flat_encN, ← putV_map (fun g => Value.pointer (some ⟨g, 0, none⟩)) ps i g]
  rw [flat_encN] at h
  exact h
/-- A store into an own row. -/
theorem own_store {w : World} {base g n c j : Nat} {e : TypeId} {xs : List Value} (u : Value) (h : w.ownsRow base e 1 (.slice (some ⟨g, 0, none⟩) n c) n xs) (hj : j < n) : (w.setCell ⟨g, j, none⟩ u).ownsRow base e 1 (.slice (some ⟨g, 0, none⟩) n c) n (xs.set j u) := by
  rcases h.2 with ⟨h0, _⟩ | ⟨g', cap, cur, hv, hb, hg, hnc, hcm, hcs, ht⟩
  · cases h0
  · obtain ⟨rfl, rfl⟩ : g = g' ∧ c = cap := by simpa using hv
    refine ⟨by rw [List.length_set]; exact h.1, .inr ⟨g, c, _, rfl, hb, heap_setCell_same w g j cur e u hg, hnc, hcm, by simpa using hcs, ?_⟩⟩
    rw [Array.toList_setIfInBounds, List.take_set, ht]
/-- One kid of a row of trees, and what is left of the others where only that one is changed. -/
theorem TrsAt.focus {w : World} : ∀ {ts : List Tr} {P : Nat → Prop} {ps : List Nat} {i : Nat} {t : Tr}, TrsAt w P ps ts → ts[i]? = some t → ∃ p P1, ps[i]? = some p ∧ (∀ b, P1 b → P b) ∧ TrAt w P1 p t ∧
    ∀ w', Kept w.heap.size P1 w w' → ∀ (j q : Nat) (u : Tr), j ≠ i → ps[j]? = some q → ts[j]? = some u → RdT w' (fun b => P b ∧ ¬ P1 b) q u
  | [], P, ps, i, t, _, h => by simp at h
  | x :: ts, P, ps, i, t, hT, h => by
    unfold TrsAt at hT
    obtain ⟨p, q, PH, rfl, h0, h1, h2⟩ := hT
    cases i with
    | zero =>
      obtain rfl : x = t := by simpa using h
      refine ⟨p, PH, rfl, h0, h1, fun w' hk j q' u hj hq hu => ?_⟩
      obtain ⟨j, rfl⟩ : ∃ k, j = k + 1 := ⟨j - 1, by omega⟩
      have h3 := (h2.rd.kept hk (fun k hk h => h.2 hk))
      obtain ⟨p', g1, g2⟩ := h3.get (i := j) (by simpa using hu)
      simp only [List.getElem?_cons_succ] at hq
      rw [g1] at hq
      exact Option.some.inj hq ▸ g2
    | succ i =>
      obtain ⟨p', P1, g1, g2, g3, g4⟩ := TrsAt.focus h2 (i := i) (by simpa using h)
      refine ⟨p', P1, by simpa using g1, fun b hb => (g2 b hb).1, g3, fun w' hk j q' u hj hq hu => ?_⟩
      cases j with
      | zero =>
        obtain rfl : p = q' := by simpa using hq
        obtain rfl : x = u := by simpa using hu
        exact (h1.rd.kept hk (fun k hk h => (g2 k hk).2 h)).mono (fun b _ h => ⟨h0 b h, fun h' => (g2 b h').2 h⟩)
      | succ j =>
        exact (g4 w' hk j q' u (by omega) (by simpa using hq) (by simpa using hu)).mono (fun b _ h => ⟨h.1.1, h.2⟩)
theorem TopAt.box {w : World} {P : Nat → Prop} {g : Nat} {t : Tr} (h : TopAt w P g t) : ∃ A c v2 v3, Box w g [.slice A t.keys.length c, v2, v3] := by
  obtain ⟨ks, vs, ts⟩ := t
  obtain ⟨kv, vv, iv, ps, h0, h1, _⟩ := h
  obtain ⟨A, c, rfl, _, _⟩ := own_slice h1.1
  exact ⟨A, c, vv, iv, h0⟩
theorem split_any (P : Nat → Prop) (g : Nat) (t : Tr) (w : World) (hT : TopAt w P g t) (hl : t.keys.length = 5) (hs : Shape t) :
    Calls Try.prog 31 #[.pointer (some ⟨g, 0, none⟩)] w fun e w' => ∃ g2, e = .returned (.tuple #[.string (splitT t).1, .pointer (some ⟨g2, 0, none⟩)]) ∧ RdT w' (AndNew P w) g (splitT t).2.1 ∧ RdT w' (AndNew P w) g2 (splitT t).2.2 ∧ w.heap.size ≤ g2 ∧ Kept w.heap.size (fun k => k = g) w w' := by
  obtain ⟨ks, vs, ts⟩ := t
  by_cases h0 : ts = []
  · exact split_leaf P g ks vs ts w hT hl h0 ((hs.1 h0).trans hl)
  · obtain ⟨h1, h2⟩ := hs.2 h0
    exact split_node P g ks vs ts w hT hl (by have : ts.length = ks.length + 1 := h1; rw [this]; rw [show ks.length = 5 from hl]) h2
/-- What put makes is not much wider. -/
theorem putK_shape {key value : ByteArray} {t : Tr} (h : OkT t) : (putK key value t).keys.length ≤ 5 ∧ 1 ≤ (putK key value t).keys.length ∧ Shape (putK key value t) := by
  obtain ⟨ks, vs, ts⟩ := t
  obtain ⟨hR, h1, h4, hl, hi, ho⟩ := h.parts
  by_cases h0 : ts = []
  · subst h0
    rw [putK_leaf]
    have hv := hl rfl
    have hb := bsI_le ks key
    split
    · exact ⟨by show ks.length ≤ 5; omega, h1, fun _ => by show (vs.set _ _).length = ks.length; simp [hv], fun e => absurd rfl e⟩
    · refine ⟨?_, ?_, fun _ => ?_, fun e => absurd rfl e⟩
      · show (putV _ _ _).length ≤ 5
        rw [putV_len _ _ _ hb]; omega
      · show 1 ≤ (putV _ _ _).length
        rw [putV_len _ _ _ hb]; omega
      · show (putV _ _ _).length = (putV _ _ _).length
        rw [putV_len _ _ _ hb, putV_len _ _ _ (by rw [hv]; exact hb), hv]
  · obtain ⟨htl, hvn⟩ := hi h0
    have hw := wayS_le (ks := ks) (t := key) hR
    obtain ⟨t1, ht1⟩ : ∃ t1, ts[wayS ks key]? = some t1 := ⟨_, List.getElem?_eq_getElem (by omega)⟩
    rw [putK_node key value ht1]
    unfold fixT
    split
    · refine ⟨?_, ?_, fun e => ?_, fun _ => ⟨?_, hvn⟩⟩
      · show (putV _ _ _).length ≤ 5
        rw [putV_len _ _ _ hw]; omega
      · show 1 ≤ (putV _ _ _).length
        rw [putV_len _ _ _ hw]; omega
      · exfalso
        have := congrArg List.length (show putV _ _ _ = [] from e)
        rw [putV_len _ _ _ (by simp; omega)] at this
        simp at this
      · show (putV _ _ _).length = (putV _ _ _).length + 1
        rw [putV_len _ _ _ hw, putV_len _ _ _ (by simp; omega)]; simp [htl]
    · refine ⟨by show ks.length ≤ 5; omega, h1, fun e => ?_, fun _ => ⟨by show (ts.set _ _).length = ks.length + 1; simp [htl], hvn⟩⟩
      exfalso
      have := congrArg List.length (show ts.set _ _ = [] from e)
      simp at this
      exact h0 this
end Go.Proofs.Ytkecbghnapjecaa
