/- A slice of the call's own: what keeps it. -/
import Derived.Test.YtkecbghnapjecaaSlc
import Derived.Laws.OwnMore
namespace Go.Proofs.Ytkecbghnapjecaa
open Go.RowKit
set_option linter.unusedVariables false
set_option linter.unusedSimpArgs false
section
variable {w w' : World} {base k : Nat} {e : TypeId} {v : Value} {n : Nat} {xs : List Value}
theorem own_slice (h : w.ownsRow base e k v n xs) : ∃ A c, v = .slice A n c ∧ n ≤ c ∧ (A = none → c = 0) := by
  rcases h.2 with ⟨rfl, h0⟩ | ⟨g, cap, cur, hv, _, _, hle, _⟩
  · obtain rfl : n = 0 := h0
    exact ⟨none, 0, rfl, Nat.le_refl _, fun _ => rfl⟩
  · exact ⟨_, cap, hv, hle, fun h => by cases h⟩
theorem own_some (h : w.ownsRow base e k v n xs) (hn : 0 < n) : ∃ g c, v = .slice (some ⟨g, 0, none⟩) n c ∧ n ≤ c ∧ base ≤ g ∧ g < w.heap.size := by
  rcases h.2 with ⟨rfl, h0⟩ | ⟨g, cap, cur, hv, hb, hg, hle, _⟩
  · omega
  · exact ⟨g, cap, hv, hle, hb, (Array.getElem?_eq_some_iff.1 hg).1⟩
theorem own_below (h : w.ownsRow base e k v n xs) (hb : Below w.heap.size w w') : w'.ownsRow base e k v n xs := by
  refine ⟨h.1, ?_⟩
  rcases h.2 with hn | ⟨g, cap, cur, rfl, h1, h2, rest⟩
  · exact .inl hn
  · exact .inr ⟨g, cap, cur, rfl, h1, (hb.block g (Array.getElem?_eq_some_iff.1 h2).1).trans h2, rest⟩
theorem grown_set (w : World) (a : Addr) (u : Value) : w.grownBy (w.setCell a u) (some a.block) :=
  ⟨rfl, rfl, rfl, by simp, fun k _ hk => heap_setCell_other w a k u (fun e => hk (by rw [e]))⟩
theorem own_set (h : w.ownsRow base e k v n xs) (a : Addr) (u : Value) (ha : a.block < base) : (w.setCell a u).ownsRow base e k v n xs :=
  h.kept (grown_set w a u) (by
    cases hv : v.ownBlock with
    | none => left; rfl
    | some g => right; intro e; have := (h.lt g hv).1; have := Option.some.inj e; omega)
theorem own_base {b' : Nat} (h : w.ownsRow base e k v n xs) (hb : b' ≤ base) : w.ownsRow b' e k v n xs := by
  refine ⟨h.1, ?_⟩
  rcases h.2 with hn | ⟨g, cap, cur, rfl, h1, rest⟩
  · exact .inl hn
  · exact .inr ⟨g, cap, cur, rfl, Nat.le_trans hb h1, rest⟩
end
/-- A box of three cells, behind a call. -/
theorem box3 {w0 w1 : World} {N b : Nat} {x y z : Value} {T : TypeId} (h : Below N w0 w1) (hb : b < N) (hh : w0.heap[b]? = some (.cells #[x, y, z] T)) :
    w1.cell? ⟨b, 0, none⟩ = some x ∧ w1.cell? ⟨b, 1, none⟩ = some y ∧ w1.cell? ⟨b, 2, none⟩ = some z ∧ w1.frozen? ⟨b, 0, none⟩ = false ∧ w1.frozen? ⟨b, 1, none⟩ = false ∧ w1.frozen? ⟨b, 2, none⟩ = false := by
  have e := (h.block b hb).trans hh
  simp [World.cell?, World.frozen?, e]
theorem heap_old (w : World) (o : Obj) {k : Nat} {x : Option Obj} (hk : k < w.heap.size) (h : w.heap[k]? = x) : (w.alloc o).heap[k]? = x := (heap_alloc_old w o hk).trans h
end Go.Proofs.Ytkecbghnapjecaa
