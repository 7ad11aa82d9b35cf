/- Slices of elements of several cells: what a value holds; what a store into one makes of it. -/
import Derived.Test.YtkecbghnapjecaaLines
import Derived.Laws.AppendOwnNone
namespace Go.Proofs.Ytkecbghnapjecaa
open Go.RowKit
set_option linter.unusedVariables false
set_option linter.unusedSimpArgs false
theorem below_step' {w w1 w2 : World} (h : Below w.heap.size w w1) (k : Below w1.heap.size w1 w2) : Below w.heap.size w w2 := h.trans (k.mono h.size)
theorem drop_cons {α : Type} {l : List α} {j : Nat} {x : α} (h : l[j]? = some x) : l.drop j = x :: l.drop (j + 1) := by
  obtain ⟨hj, e⟩ := List.getElem?_eq_some_iff.1 h
  rw [List.drop_eq_getElem_cons hj, e]
theorem lt_of_get {α : Type} {l : List α} {j : Nat} {x : α} (h : l[j]? = some x) : j < l.length := (List.getElem?_eq_some_iff.1 h).1
theorem flat_len {α : Type} {enc : α → List Value} {k : Nat} (hk : ∀ x, (enc x).length = k) : ∀ l : List α, (l.flatMap enc).length = l.length * k
  | [] => by simp
  | a :: l => by rw [List.flatMap_cons, List.length_append, hk, flat_len hk l, List.length_cons, Nat.add_mul]; omega
theorem flat_snoc {α : Type} {enc : α → List Value} {l : List α} {j : Nat} {x : α} (h : l[j]? = some x) : (l.take (j + 1)).flatMap enc = (l.take j).flatMap enc ++ enc x := by
  rw [List.take_add_one, h]; simp
/-- A store into one element's cell. -/
theorem flat_set {α : Type} {enc : α → List Value} {k : Nat} (hk : ∀ x, (enc x).length = k) : ∀ (l : List α) (i : Nat) (x y : α) (q : Nat) (u : Value), l[i]? = some x → q < k → (enc x).set q u = enc y → (l.flatMap enc).set (i * k + q) u = (l.set i y).flatMap enc
  | [], i, x, y, q, u, h, _, _ => by simp at h
  | a :: l, 0, x, y, q, u, h, hq, e => by
    obtain rfl : a = x := by simpa using h
    rw [List.flatMap_cons, Nat.zero_mul, Nat.zero_add, List.set_append_left _ _ (by rw [hk]; exact hq), e]; simp
  | a :: l, i + 1, x, y, q, u, h, hq, e => by
    have ih := flat_set hk l i x y q u (by simpa using h) hq e
    have e1 : (i + 1) * k + q = k + (i * k + q) := by rw [Nat.add_mul, Nat.one_mul]; omega
    rw [List.flatMap_cons, List.set_append_right _ _ (by rw [hk]; omega), hk, e1, Nat.add_sub_cancel_left, ih]; simp
/-- A slice value that holds l. -/
def SlE {α : Type} (enc : α → List Value) (k : Nat) (w : World) (v : Value) (l : List α) : Prop := ∃ A c, v = .slice A l.length c ∧ l.length ≤ c ∧ RowE enc k w A l ∧ (A = none → c = 0)
theorem SlE.below {α : Type} {enc : α → List Value} {k : Nat} {w w1 : World} {v : Value} {l : List α} (h : SlE enc k w v l) (hb : Below w.heap.size w w1) : SlE enc k w1 v l := by
  obtain ⟨A, c, hv, hc, hr, hn⟩ := h
  exact ⟨A, c, hv, hc, hr.below hb, hn⟩
theorem SlE.nil {α : Type} {enc : α → List Value} {k : Nat} (w : World) : SlE enc k w (.slice none 0 0) ([] : List α) := ⟨none, 0, rfl, Nat.le_refl _, RowE.nil, fun _ => rfl⟩
theorem SlE.of_own {α : Type} {enc : α → List Value} {k : Nat} (hk : ∀ x, (enc x).length = k) (hk0 : 0 < k) {w : World} {base n : Nat} {e : TypeId} {v : Value} {l : List α} (h : w.ownsRow base e k v n (l.flatMap enc)) : SlE enc k w v l := by
  have hn : n = l.length := by have := h.1; rw [flat_len hk] at this; exact (Nat.eq_of_mul_eq_mul_right hk0 this).symm
  rcases h.2 with ⟨rfl, h0⟩ | ⟨g, cap, cur, rfl, _, _, hle, _⟩
  · have : l = [] := List.eq_nil_of_length_eq_zero (by omega)
    subst this
    exact ⟨none, 0, rfl, Nat.le_refl _, RowE.nil, fun _ => rfl⟩
  · exact ⟨_, cap, by rw [hn], by omega, RowE.owned hk h, fun h => by cases h⟩
theorem RowE.cells {α : Type} {enc : α → List Value} {k : Nat} (hk : ∀ x, (enc x).length = k) (hk0 : 0 < k) {w : World} {A : Option Addr} {l : List α} (h : RowE enc k w A l) (h0 : l ≠ []) : ∃ b off, A = some ⟨b, off, none⟩ ∧ b < w.heap.size ∧ ∀ j u, (l.flatMap enc)[j]? = some u → w.cell? ⟨b, off + j, none⟩ = some u := by
  obtain ⟨x, hx⟩ : ∃ x, l[0]? = some x := ⟨_, List.getElem?_eq_getElem (List.length_pos_iff.2 h0)⟩
  obtain ⟨b, off, hA, hlt, hc⟩ := h 0 x hx
  refine ⟨b, off, hA, hlt, fun j u hu => ?_⟩
  have hj : j < (l.flatMap enc).length := lt_of_get hu
  rw [flat_len hk] at hj
  obtain ⟨y, hy⟩ : ∃ y, l[j / k]? = some y := ⟨_, List.getElem?_eq_getElem (Nat.div_lt_of_lt_mul (by rw [Nat.mul_comm]; exact hj))⟩
  have e : j = j / k * k + j % k := by rw [Nat.mul_comm]; exact (Nat.div_add_mod j k).symm
  have hq : j % k < (enc y).length := by rw [hk]; exact Nat.mod_lt _ hk0
  obtain ⟨v, hv⟩ : ∃ v, (enc y)[j % k]? = some v := ⟨_, List.getElem?_eq_getElem hq⟩
  have h1 := flat_get hk l (j / k) y (j % k) v hy hv
  rw [← e, hu] at h1
  obtain rfl := Option.some.inj h1
  have h2 := hc (j / k) y hy (j % k) u hv
  rw [e, ← Nat.add_assoc]; exact h2
/-- The element at hand, in a later world. -/
theorem RowE.atE {α : Type} {enc : α → List Value} {k : Nat} {w wr : World} {A : Option Addr} {l : List α} {j : Nat} {x : α} (h : RowE enc k w A l) (hx : l[j]? = some x) (hb : Below w.heap.size w wr) :
    ∃ b off, A = some ⟨b, off, none⟩ ∧ b < w.heap.size ∧ ∀ q u, (enc x)[q]? = some u → wr.cell? ⟨b, off + j * k + q, none⟩ = some u := by
  obtain ⟨b, off, hA, hlt, hc⟩ := h j x hx
  exact ⟨b, off, hA, hlt, fun q u hu => (hb.cell (p := ⟨b, _, none⟩) hlt).trans (hc j x hx q u hu)⟩
end Go.Proofs.Ytkecbghnapjecaa
