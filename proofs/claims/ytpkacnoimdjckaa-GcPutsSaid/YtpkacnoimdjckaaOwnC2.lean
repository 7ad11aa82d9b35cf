/- Chains of the call's own: other rows in their place; one list more or another. -/
import Derived.Test.YtpkacnoimdjckaaCloneC
namespace Go.Proofs.Ytpkacnoimdjckaa
open Go.RowKit
set_option linter.unusedVariables false
set_option linter.unusedSimpArgs false
theorem putV_get {α : Type} (l : List α) (i : Nat) (x : α) (hi : i ≤ l.length) (k : Nat) : (putV l i x)[k]? = if k < i then l[k]? else if k = i then some x else l[k - 1]? := by
  unfold putV
  have hl : (l.take i).length = i := by rw [List.length_take, Nat.min_eq_left hi]
  by_cases h1 : k < i
  · rw [if_pos h1, List.getElem?_append_left (by omega), List.getElem?_take, if_pos h1]
  · rw [if_neg h1, List.getElem?_append_right (by omega), hl]
    by_cases h2 : k = i
    · subst h2; rw [if_pos rfl, Nat.sub_self]; rfl
    · rw [if_neg h2]
      obtain ⟨m, hm⟩ : ∃ m, k - i = m + 1 := ⟨k - i - 1, by omega⟩
      rw [hm, List.getElem?_cons_succ, List.getElem?_drop]
      congr 1; omega
section
variable {base : Nat} {w w' : World} {vk vl : Value} {ks : List ByteArray} {ls : List (List Ver)} {vs : List Value}
theorem OwnC.row (h : OwnC base w vk vl ks ls vs) {vk' : Value} {ks' : List ByteArray} (ho : w'.ownsRow base 9 1 vk' ks'.length (ks'.flatMap encS)) (hg : w.grownBy w' vk.ownBlock) (ha : vk'.ownBlock = vk.ownBlock ∨ vk'.ownBlock = some w.heap.size) : OwnC base w' vk' vl ks' ls vs := by
  refine ⟨ho, ?_, fun i l hi => ?_, fun g hg1 hg2 => ?_⟩
  · refine h.ol.kept hg ?_
    cases hv : vl.ownBlock with
    | none => left; rfl
    | some g => right; intro e; exact h.dj g e.symm hv
  · obtain ⟨h0, v, hv, hs⟩ := h.el i l hi
    exact ⟨h0, v, hv, h.keyx hg ha h0 hs⟩
  · rcases ha with ha | ha
    · exact h.dj g (ha ▸ hg1) hg2
    · have := (h.ol.lt g hg2).2
      rw [hg1] at ha; have := Option.some.inj ha; omega
theorem OwnC.rows (h : OwnC base w vk vl ks ls vs) {vl' : Value} {ls' : List (List Ver)} {vs' : List Value} (ho : w'.ownsRow base 44 1 vl' ls'.length vs') (hg : w.grownBy w' vl.ownBlock) (ha : vl'.ownBlock = vl.ownBlock ∨ vl'.ownBlock = some w.heap.size)
    (hel : ∀ (i : Nat) (l : List Ver), ls'[i]? = some l → l ≠ [] ∧ ∃ v, vs'[i]? = some v ∧ SlX (fun b => vk.ownBlock = some b ∨ vl.ownBlock = some b ∨ b < base) w v l) : OwnC base w' vk vl' ks ls' vs' := by
  refine ⟨?_, ho, fun i l hi => ?_, fun g hg1 hg2 => ?_⟩
  · refine h.ok.kept hg ?_
    cases hv : vk.ownBlock with
    | none => left; rfl
    | some g => right; intro e; exact h.dj g hv e.symm
  · obtain ⟨h0, v, hv, hs⟩ := hel i l hi
    obtain ⟨A0, c0, e0, hlt⟩ := hs.lt h0
    obtain ⟨A, c, rfl, h2, h3, h4, h5⟩ := hs
    obtain ⟨rfl, rfl⟩ : A = A0 ∧ c = c0 := by simpa using e0
    refine ⟨h0, _, hv, A, c, rfl, h2, h3.grown hg (fun a ha' e => h5 a ha' (.inr (.inl e.symm))), h4, fun a ha' => ?_⟩
    rintro (q | q | q)
    · exact h5 a ha' (.inl q)
    · rcases ha with ha | ha
      · exact h5 a ha' (.inr (.inl (ha ▸ q)))
      · rw [q] at ha; have := hlt a ha'; have := Option.some.inj ha; omega
    · exact h5 a ha' (.inr (.inr q))
  · rcases ha with ha | ha
    · exact h.dj g hg1 (ha ▸ hg2)
    · have := (h.ok.lt g hg1).2
      rw [hg2] at ha; have := Option.some.inj ha; omega
/-- A list in another's place. -/
theorem OwnC.seti {g n cap : Nat} (h : OwnC base w vk (.slice (some ⟨g, 0, none⟩) n cap) ks ls vs) (i : Nat) {u : Value} {l : List Ver} (hn : n = ls.length) (h0 : l ≠ []) (hs : SlX (fun b => vk.ownBlock = some b ∨ (Value.slice (some ⟨g, 0, none⟩) n cap).ownBlock = some b ∨ b < base) w u l) :
    OwnC base (w.setCell ⟨g, i, none⟩ u) vk (.slice (some ⟨g, 0, none⟩) n cap) ks (ls.set i l) (vs.set i u) := by
  subst hn
  obtain ⟨ho, hg⟩ := h.ol.stored i u
  have hlen : vs.length = ls.length := by have := h.ol.1; simpa using this
  refine h.rows (by rw [List.length_set]; exact ho) hg (.inl rfl) (fun k l' hk => ?_)
  by_cases e : i = k
  · subst e
    have hlt := lt_of_get hk
    rw [List.length_set] at hlt
    rw [List.getElem?_set_self hlt] at hk
    obtain rfl := Option.some.inj hk
    exact ⟨h0, u, by rw [List.getElem?_set_self (by omega)], hs⟩
  · rw [List.getElem?_set_ne e] at hk
    obtain ⟨a, v, hv, hb⟩ := h.el k l' hk
    exact ⟨a, v, by rw [List.getElem?_set_ne e]; exact hv, hb⟩
/-- A list more, at a place. -/
theorem OwnC.insl (h : OwnC base w vk vl ks ls vs) (i : Nat) (hi : i ≤ ls.length) {u : Value} {l : List Ver} (h0 : l ≠ []) (hs : SlX (fun b => vk.ownBlock = some b ∨ vl.ownBlock = some b ∨ b < base) w u l) {vl' : Value}
    (ho : w'.ownsRow base 44 1 vl' (ls.length + 1) (putV vs i u)) (hg : w.grownBy w' vl.ownBlock) (ha : vl'.ownBlock = vl.ownBlock ∨ vl'.ownBlock = some w.heap.size) : OwnC base w' vk vl' ks (putV ls i l) (putV vs i u) := by
  have hlen : vs.length = ls.length := by have := h.ol.1; simpa using this
  refine h.rows (by rw [putV_len _ _ _ hi]; exact ho) hg ha (fun k l' hk => ?_)
  rw [putV_get _ _ _ hi] at hk
  rw [putV_get _ _ _ (by omega)]
  by_cases h1 : k < i
  · rw [if_pos h1] at hk ⊢
    exact h.el k l' hk
  · rw [if_neg h1] at hk ⊢
    by_cases h2 : k = i
    · rw [if_pos h2] at hk ⊢
      obtain rfl := Option.some.inj hk
      exact ⟨h0, u, rfl, hs⟩
    · rw [if_neg h2] at hk ⊢
      exact h.el (k - 1) l' hk
theorem OwnC.one (h : OwnC base w vk vl ks ls vs) : ∀ u ∈ vs, u.oneCell' = true := fun u hu => by
  have hlen : vs.length = ls.length := by have := h.ol.1; simpa using this
  obtain ⟨i, hi⟩ := List.mem_iff_getElem?.1 hu
  obtain ⟨l, hl⟩ : ∃ l, ls[i]? = some l := ⟨_, List.getElem?_eq_getElem (by have := lt_of_get hi; omega)⟩
  obtain ⟨_, v, hv, A, c, rfl, _⟩ := h.el i l hl
  rw [hi] at hv
  obtain rfl := Option.some.inj hv
  rfl
end
theorem putV_flat (ks : List ByteArray) (i : Nat) (k : ByteArray) : (putV ks i k).flatMap encS = putV (ks.flatMap encS) i (.string k) := by
  rw [flat_encS, flat_encS]; unfold putV; simp [List.map_take, List.map_drop]
end Go.Proofs.Ytpkacnoimdjckaa
