/- Rows of elements of several cells: what an argument's slice gives a walk. -/
import Derived.Test.YtkecbghnapjecaaKinds
namespace Go.Proofs.Ytkecbghnapjecaa
open Go.RowKit
set_option linter.unusedVariables false
set_option linter.unusedSimpArgs false
/-- The slice's elements lie from its address on, k cells each. -/
def RowE {α : Type} (enc : α → List Value) (k : Nat) (w : World) (A : Option Addr) (l : List α) : Prop :=
  ∀ (i : Nat) (x : α), l[i]? = some x → ∃ b off, A = some ⟨b, off, none⟩ ∧ b < w.heap.size ∧ ∀ (i : Nat) (x : α), l[i]? = some x → ∀ (j : Nat) (v : Value), (enc x)[j]? = some v → w.cell? ⟨b, off + i * k + j, none⟩ = some v
theorem RowE.nil {α : Type} {enc : α → List Value} {k : Nat} {w : World} {A : Option Addr} : RowE enc k w A [] := fun i x h => by simp at h
theorem RowE.below {α : Type} {enc : α → List Value} {k : Nat} {w w1 : World} {A : Option Addr} {l : List α} (h : RowE enc k w A l) (hb : Below w.heap.size w w1) : RowE enc k w1 A l := fun i x hi => by
  obtain ⟨b, off, hA, hlt, hc⟩ := h i x hi
  exact ⟨b, off, hA, Nat.lt_of_lt_of_le hlt hb.size, fun i x hi j v hv => (hb.cell (p := ⟨b, _, none⟩) hlt).trans (hc i x hi j v hv)⟩
/-- .. of what came in. -/
theorem RowE.of {α : Type} {d : Kd α} {enc : α → List Value} {w : World} {A : Option Addr} {l : List α} (hk : 0 < d.sz) (he : ∀ w x cs, d.K w x cs → cs = enc x) (h : d.Row w A l) : RowE enc d.sz w A l := fun i x hi => by
  have h0 : ∃ y, l[0]? = some y := by
    cases l with
    | nil => simp at hi
    | cons a l => exact ⟨a, rfl⟩
  obtain ⟨y, hy⟩ := h0
  obtain ⟨ad, cs, hA, hK, hc⟩ := h 0 y hy
  have hcs := he _ _ _ hK
  have hl := d.len hK
  have hv : ∃ v, cs[0]? = some v := ⟨cs[0], List.getElem?_eq_getElem (by omega)⟩
  obtain ⟨v, hv⟩ := hv
  have c0 := hc 0 v hv
  have e0 : ad.add (0 * d.sz + 0) = ad := by simp [Addr.add]
  rw [e0] at c0
  have hsp : ad.spot = none := by
    unfold World.cell? at c0
    split at c0
    · split at c0
      · cases c0
      · rename_i q; simpa using q
    · cases c0
  obtain ⟨b, off, sp⟩ := ad
  obtain rfl : sp = none := hsp
  refine ⟨b, off, hA, World.block_lt_of_cell? _ _ c0, fun i x hi j v hv => ?_⟩
  obtain ⟨ad', cs', hA', hK', hc'⟩ := h i x hi
  obtain rfl : ad' = ⟨b, off, none⟩ := by rw [hA] at hA'; exact (Option.some.inj hA').symm
  obtain rfl := he _ _ _ hK'
  have := hc' j v hv
  rw [Addr.add_lit] at this
  rw [Nat.add_assoc]; exact this
theorem flat_get {α : Type} {enc : α → List Value} {k : Nat} (hk : ∀ x, (enc x).length = k) : ∀ (l : List α) (i : Nat) (x : α) (j : Nat) (v : Value), l[i]? = some x → (enc x)[j]? = some v → (l.flatMap enc)[i * k + j]? = some v
  | [], i, x, j, v, h, _ => by simp at h
  | a :: l, 0, x, j, v, h, g => by
    obtain rfl : a = x := by simpa using h
    have hj : j < (enc a).length := by
      rcases Nat.lt_or_ge j (enc a).length with h' | h'
      · exact h'
      · rw [List.getElem?_eq_none h'] at g; cases g
    rw [List.flatMap_cons, Nat.zero_mul, Nat.zero_add, List.getElem?_append_left hj]; exact g
  | a :: l, i + 1, x, j, v, h, g => by
    have ih := flat_get hk l i x j v (by simpa using h) g
    have e : (i + 1) * k + j = k + (i * k + j) := by rw [Nat.add_mul, Nat.one_mul]; omega
    rw [List.flatMap_cons, List.getElem?_append_right (by rw [hk]; omega), hk, e, Nat.add_sub_cancel_left]; exact ih
/-- A block of the call's own that holds just these. -/
theorem RowE.lit {α : Type} {enc : α → List Value} {k : Nat} (hk : ∀ x, (enc x).length = k) {w : World} {b : Nat} {cs : Array Value} {T : TypeId} {fr : Nat × Nat} {l : List α} (hb : w.heap[b]? = some (.cells cs T fr)) (hc : cs.toList = l.flatMap enc) : RowE enc k w (some ⟨b, 0, none⟩) l := fun i x hi => by
  refine ⟨b, 0, rfl, ?_, fun i x hi j v hv => ?_⟩
  · rcases Nat.lt_or_ge b w.heap.size with h' | h'
    · exact h'
    · simp [Array.getElem?_eq_none h'] at hb
  · have := flat_get hk l i x j v hi hv
    rw [← hc, Array.getElem?_toList] at this
    simp only [World.cell?, hb, Nat.zero_add]
    exact this
/-- A slice that the call owns. -/
theorem RowE.owned {α : Type} {enc : α → List Value} {k : Nat} (hk : ∀ x, (enc x).length = k) {w : World} {base g n cap : Nat} {e : TypeId} {l : List α} (h : w.ownsRow base e k (.slice (some ⟨g, 0, none⟩) n cap) n (l.flatMap enc)) : RowE enc k w (some ⟨g, 0, none⟩) l := fun i x hi => by
  have hlt := (h.lt g rfl).2
  refine ⟨g, 0, rfl, hlt, fun i x hi j v hv => ?_⟩
  have := h.cells (g := g) rfl (i * k + j) v (flat_get hk l i x j v hi hv)
  rw [Addr.add_lit] at this
  rw [Nat.add_assoc]; exact this
theorem RowE.take {α : Type} {enc : α → List Value} {k : Nat} {w : World} {A : Option Addr} {l : List α} (n : Nat) (h : RowE enc k w A l) : RowE enc k w A (l.take n) := fun i x hi => by
  have sub : ∀ (i : Nat) (x : α), (l.take n)[i]? = some x → l[i]? = some x := fun i x hi => by
    rw [List.getElem?_take] at hi
    split at hi
    · exact hi
    · cases hi
  obtain ⟨b, off, hA, hlt, hc⟩ := h i x (sub i x hi)
  exact ⟨b, off, hA, hlt, fun i x hi => hc i x (sub i x hi)⟩
end Go.Proofs.Ytkecbghnapjecaa
