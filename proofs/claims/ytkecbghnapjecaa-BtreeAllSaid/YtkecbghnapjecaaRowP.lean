/- Rows that can be read, in blocks of P; a state's nodes in a row of the call's own; a tree that can be read. -/
import Derived.Test.YtkecbghnapjecaaCloneS
namespace Go.Proofs.Ytkecbghnapjecaa
open Go.RowKit
set_option linter.unusedVariables false
set_option linter.unusedSimpArgs false
def RowP {α : Type} (enc : α → List Value) (P : Nat → Prop) (w : World) (v : Value) (l : List α) : Prop := ∃ A c, v = .slice A l.length c ∧ l.length ≤ c ∧ RowE enc 1 w A l ∧ (A = none → c = 0) ∧ ∀ a, A = some a → a.spot = none ∧ P a.block ∧ a.block < w.heap.size
section
variable {α : Type} {enc : α → List Value} {P P' : Nat → Prop} {w w' : World} {v : Value} {l : List α}
theorem RowP.kept {B : Nat → Prop} (h : RowP enc P w v l) (hk : Kept w.heap.size B w w') (hB : ∀ k, B k → ¬ P k) : RowP enc P w' v l := by
  obtain ⟨A, c, rfl, h1, h2, h3, h4⟩ := h
  exact ⟨A, c, rfl, h1, rowE_kept h2 hk (fun a ha hb => hB _ hb (h4 a ha).2.1), h3, fun a ha => ⟨(h4 a ha).1, (h4 a ha).2.1, Nat.lt_of_lt_of_le (h4 a ha).2.2 hk.size⟩⟩
theorem RowP.below (h : RowP enc P w v l) (hb : Below w.heap.size w w') : RowP enc P w' v l := h.kept (B := fun _ => False) (Kept.of_below hb (Nat.le_refl _)) (fun _ h => h.elim)
theorem RowP.mono (h : RowP enc P w v l) (hP : ∀ b, b < w.heap.size → P b → P' b) : RowP enc P' w v l := by
  obtain ⟨A, c, rfl, h1, h2, h3, h4⟩ := h
  exact ⟨A, c, rfl, h1, h2, h3, fun a ha => ⟨(h4 a ha).1, hP _ (h4 a ha).2.2 (h4 a ha).2.1, (h4 a ha).2.2⟩⟩
theorem RowP.own (h : RowP enc P w v l) : ∀ b, v.ownBlock = some b → P b ∧ b < w.heap.size := by
  obtain ⟨A, c, rfl, h1, h2, h3, h4⟩ := h
  intro b hb
  cases A with
  | none => simp [Value.ownBlock] at hb
  | some a =>
    obtain rfl : a.block = b := by simpa [Value.ownBlock] using hb
    exact ⟨(h4 a rfl).2.1, (h4 a rfl).2.2⟩
theorem RowP.at_blocks (h : RowP enc P w v l) : RowP enc (fun b => v.ownBlock = some b) w v l := by
  obtain ⟨A, c, rfl, h1, h2, h3, h4⟩ := h
  exact ⟨A, c, rfl, h1, h2, h3, fun a ha => ⟨(h4 a ha).1, by rw [ha]; rfl, (h4 a ha).2.2⟩⟩
theorem RowP.nil : RowP enc P w (.slice none 0 0) ([] : List α) := ⟨none, 0, rfl, Nat.le_refl _, RowE.nil, fun _ => rfl, fun _ h => by cases h⟩
theorem RowP.of_own {base n : Nat} {e : TypeId} (hk : ∀ x, (enc x).length = 1) (h : w.ownsRow base e 1 v n (l.flatMap enc)) (hP : ∀ b, v.ownBlock = some b → P b) : RowP enc P w v l := by
  obtain ⟨A, c, hv, hc, hr, hn⟩ := SlE.of_own hk (by decide) h
  refine ⟨A, c, hv, hc, hr, hn, fun a ha => ?_⟩
  have hb : v.ownBlock = some a.block := by rw [hv, ha]; rfl
  refine ⟨?_, hP _ hb, (h.lt _ hb).2⟩
  rcases h.2 with ⟨h0, _⟩ | ⟨g, cap, cur, h0, _⟩
  · rw [hv, ha] at h0; simp at h0
  · rw [hv, ha] at h0
    obtain ⟨rfl, _⟩ : a = ⟨g, 0, none⟩ ∧ _ := by simpa using h0
    rfl
theorem OwnP.row {e : TypeId} {n : Nat} (hk : ∀ x, (enc x).length = 1) (h : OwnP P w e v n (l.flatMap enc)) : RowP enc P w v l := RowP.of_own hk h.1 h.2
theorem RowP.of {A : Option Addr} {c : Nat} (h1 : l.length ≤ c) (h2 : RowE enc 1 w A l) (h3 : A = none → c = 0) (h4 : ∀ a, A = some a → a.spot = none ∧ P a.block ∧ a.block < w.heap.size) : RowP enc P w (.slice A l.length c) l := ⟨A, c, rfl, h1, h2, h3, h4⟩
end
abbrev V3 := Value × Value × Value
def enc3 (t : V3) : List Value := [t.1, t.2.1, t.2.2]
theorem enc3_len (t : V3) : (enc3 t).length = 3 := rfl
/-- A state's node whose rows lie in blocks of P. -/
def NdP (P : Nat → Prop) (w : World) (t : V3) (n : Nd) : Prop := RowP encS P w t.1 n.keys ∧ RowP encS P w t.2.1 n.vals ∧ RowP encI P w t.2.2 n.kids
theorem NdP.kept {P B : Nat → Prop} {w w' : World} {t : V3} {n : Nd} (h : NdP P w t n) (hk : Kept w.heap.size B w w') (hB : ∀ k, B k → ¬ P k) : NdP P w' t n := ⟨h.1.kept hk hB, h.2.1.kept hk hB, h.2.2.kept hk hB⟩
theorem NdP.mono {P P' : Nat → Prop} {w : World} {t : V3} {n : Nd} (h : NdP P w t n) (hP : ∀ b, b < w.heap.size → P b → P' b) : NdP P' w t n := ⟨h.1.mono hP, h.2.1.mono hP, h.2.2.mono hP⟩
theorem NdP.at (P : Nat → Prop) {w : World} {t : V3} {n : Nd} (h : NdP P w t n) : NdAt w (enc3 t) n := by
  obtain ⟨t1, t2, t3⟩ := t
  obtain ⟨⟨KA, kc, rfl, k1, k2, k3, _⟩, ⟨VA, vc, rfl, v1, v2, v3, _⟩, ⟨IA, ic, rfl, i1, i2, i3, _⟩⟩ := h
  exact ⟨KA, kc, VA, vc, IA, ic, rfl, k2, v2, i2, k3, v3, i3, k1, v1, i1⟩
/-- A row of the call's own that holds a state's nodes. -/
theorem NodesAt.of_own {P : Nat → Prop} {w : World} {base n c : Nat} {e : TypeId} {A : Option Addr} {L : List V3} {s : List Nd} (h : w.ownsRow base e 3 (.slice A n c) n (L.flatMap enc3)) (hl : L.length = s.length) (hN : ∀ (i : Nat) (t : V3) (x : Nd), L[i]? = some t → s[i]? = some x → NdP P w t x) : NodesAt w A s := fun i x hi => by
  obtain ⟨t, ht⟩ : ∃ t, L[i]? = some t := ⟨_, List.getElem?_eq_getElem (by rw [hl]; exact (List.getElem?_eq_some_iff.1 hi).1)⟩
  have hR : RowE enc3 3 w A L := by
    obtain ⟨A', c', hv, _, hr, _⟩ := SlE.of_own enc3_len (by decide) h
    obtain ⟨rfl, _⟩ : A = A' ∧ _ := by simpa using hv
    exact hr
  obtain ⟨b, off, rfl, hb, hc⟩ := hR i t ht
  exact ⟨b, off, enc3 t, rfl, hb, (hN i t x ht hi).at, fun j v hv => hc i t ht j v hv⟩
end Go.Proofs.Ytkecbghnapjecaa
