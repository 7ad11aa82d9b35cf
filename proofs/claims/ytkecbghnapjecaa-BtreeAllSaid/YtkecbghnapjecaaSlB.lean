/- A slice value that holds l, in a block from N on. -/
import Derived.Test.YtkecbghnapjecaaSlc2
namespace Go.Proofs.Ytkecbghnapjecaa
open Go.RowKit
set_option linter.unusedVariables false
set_option linter.unusedSimpArgs false
section
variable {α : Type} {enc : α → List Value} {k N : Nat} {w w1 : World} {v : Value} {l : List α}
theorem RowE.set {A : Option Addr} (h : RowE enc k w A l) (hA : ∀ a, A = some a → N ≤ a.block) (p : Addr) (u : Value) (hp : p.block < N) : RowE enc k (w.setCell p u) A l := fun i x hi => by
  obtain ⟨b, off, rfl, hlt, hc⟩ := h i x hi
  have hb := hA _ rfl
  exact ⟨b, off, rfl, by simpa using hlt, fun i x hi j v hv => (World.cell?_of_block (heap_setCell_other w p b u (by simp only at hb; omega))).trans (hc i x hi j v hv)⟩
theorem RowE.drew {A : Option Addr} (h : RowE enc k w A l) : RowE enc k w.drew A l := h
def SlB (enc : α → List Value) (k N : Nat) (w : World) (v : Value) (l : List α) : Prop := ∃ A c, v = .slice A l.length c ∧ l.length ≤ c ∧ RowE enc k w A l ∧ (A = none → c = 0) ∧ ∀ a, A = some a → N ≤ a.block
theorem SlB.below (h : SlB enc k N w v l) (hb : Below w.heap.size w w1) : SlB enc k N w1 v l := by
  obtain ⟨A, c, hv, hc, hr, hn, hN⟩ := h
  exact ⟨A, c, hv, hc, hr.below hb, hn, hN⟩
theorem SlB.set (h : SlB enc k N w v l) (p : Addr) (u : Value) (hp : p.block < N) : SlB enc k N (w.setCell p u) v l := by
  obtain ⟨A, c, hv, hc, hr, hn, hN⟩ := h
  exact ⟨A, c, hv, hc, hr.set hN p u hp, hn, hN⟩
theorem SlB.alloc (h : SlB enc k N w v l) (o : Obj) : SlB enc k N (w.alloc o) v l := h.below ((Below.refl _ w).alloc (Nat.le_refl _) o)
theorem SlB.drew (h : SlB enc k N w v l) : SlB enc k N w.drew v l := h
theorem SlB.mono {M : Nat} (h : SlB enc k N w v l) (hM : M ≤ N) : SlB enc k M w v l := by
  obtain ⟨A, c, hv, hc, hr, hn, hN⟩ := h
  exact ⟨A, c, hv, hc, hr, hn, fun a ha => Nat.le_trans hM (hN a ha)⟩
theorem SlB.nil (w : World) : SlB enc k N w (.slice none 0 0) ([] : List α) := ⟨none, 0, rfl, Nat.le_refl _, RowE.nil, fun _ => rfl, fun _ h => by cases h⟩
theorem SlB.of_own {base n : Nat} {e : TypeId} (hk : ∀ x, (enc x).length = k) (hk0 : 0 < k) (hN : N ≤ base) (h : w.ownsRow base e k v n (l.flatMap enc)) : SlB enc k N w v l := by
  obtain ⟨A, c, hv, hc, hr, hn⟩ := SlE.of_own hk hk0 h
  refine ⟨A, c, hv, hc, hr, hn, fun a ha => ?_⟩
  have := (h.lt a.block (by rw [hv, ha]; rfl)).1
  omega
end
end Go.Proofs.Ytkecbghnapjecaa
