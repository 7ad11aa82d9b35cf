/- A slice as an argument, with what nil tells: its capacity is 0. -/
import Derived.Test.YtkecbghnapjecaaKinds
namespace Go.Proofs.Ytkecbghnapjecaa
open Go.RowKit
set_option linter.unusedVariables false
set_option linter.unusedSimpArgs false
def Kd.nslice {α : Type} (d : Kd α) : Kd (List α) where
  sz := 1
  K := fun w l cs => ∃ A c, cs = [.slice A l.length c] ∧ l.length ≤ c ∧ d.Row w A l ∧ (A = none → c = 0)
  len := by
    rintro w x cs ⟨A, c, rfl, _⟩
    rfl
  below := by
    rintro w w1 x cs hb ⟨A, c, rfl, h0, h1, h2⟩
    exact ⟨A, c, rfl, h0, h1.below hb, h2⟩
section
variable {P : Program} {t : TypeId}
theorem opens_nslice {e : TypeId} {α : Type} {d : Kd α} {ok : α → Prop} {B : Nat} (ht : P.underlying t = some (.slice e)) (hc : P.cellsOf e = d.sz) (hB : P.bytesOf e = B) (h : Opens P e d ok) :
    Opens P t d.nslice (fun l => l.length * B ≤ 140737488351232 ∧ ∀ x ∈ l, ok x) := fun {H enc w base spare held fuel cs x} hx hw => by
  rcases DataW.trod_slice ht hx with ⟨rfl, rfl⟩ | ⟨a, len, cap, elems, rest, n, _, rfl, rfl, _, hle, _, hl, hel, _, _⟩
  · exact ⟨[], ⟨none, 0, rfl, Nat.le_refl _, Kd.Row.nil, fun _ => rfl⟩, by simp, by simp⟩
  · have hwt : ∀ m ∈ DataW.weightsAll P e (elems.map (·.1)), m ≤ reachBytes := fun m hm => hw m (by simp [DataW.weights, ht]; right; left; simpa using hm)
    obtain ⟨l, hll, hp⟩ := list_of (p := fun i y => (∃ cs', w.cells? base (a.add (i * P.cellsOf e)) (P.cellsOf e) = some cs' ∧ d.K w y cs') ∧ ok y) len (fun i hi => by
      have h1 := hel i hi
      rw [List.getElem?_eq_getElem (by omega)] at h1
      obtain ⟨cs', h2, h3⟩ := Option.bind_eq_some_iff.1 h1
      obtain ⟨y, hy, oy⟩ := h h3 (fun m hm => hwt m (mem_weightsAll (List.mem_map.2 ⟨_, List.getElem_mem _, rfl⟩) m hm))
      exact ⟨y, ⟨cs', h2, hy⟩, oy⟩)
    have h47 : (elems.length + rest.length) * P.bytesOf e ≤ reachBytes := hw _ (by simp [DataW.weights, ht])
    refine ⟨l, ⟨some a, cap, by rw [hll], by omega, fun i x hi => ?_, fun h => by cases h⟩, ?_, fun x hx => ?_⟩
    · obtain ⟨⟨cs', h2, hK⟩, _⟩ := hp i x hi
      obtain ⟨_, hlen, hcell⟩ := World.cells?_some h2
      refine ⟨a, cs', rfl, hK, fun j v hj => ?_⟩
      have hjl : j < P.cellsOf e := by
        rw [← hlen]
        apply Decidable.byContradiction; intro k
        rw [List.getElem?_eq_none (by omega)] at hj; cases hj
      rw [← Go.Deep.add_add, ← hc, hcell j hjl, hj]
    · rw [hll, ← hl, ← hB]
      exact Nat.le_trans (Nat.mul_le_mul_right _ (Nat.le_add_right _ _)) h47
    · obtain ⟨i, hi⟩ := List.mem_iff_getElem?.1 hx
      exact (hp i x hi).2
end
end Go.Proofs.Ytkecbghnapjecaa
