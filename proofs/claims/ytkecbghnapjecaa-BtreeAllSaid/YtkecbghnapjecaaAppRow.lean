/- 'append' of a row to a slice of the call's own, whatever the row is, as a step of a region that draws its order. -/
import Derived.Test.YtkecbghnapjecaaStep
import Derived.Test.YtkecbghnapjecaaSlc
import Derived.Laws.OwnMore
namespace Go.Proofs.Ytkecbghnapjecaa
open Go.RowKit
set_option linter.unusedVariables false
theorem step_append_row {α : Type} {enc : α → List Value} {P : Program} {ops : Array Oper} {o : Oper} {a : Act} {w : World} {K : Act → World → Prop} {Q : Exit → Act → World → Prop} {E : Prop}
    (hg : o.guard = none) (s x : Operand) (t : TypeId) (hop : o.op = Op.call { callee := Callee.builtin Builtin.append, args := #[s, x], argTypes := #[t, t] })
    (base : Nat) (e : TypeId) (i : TypeInfo) (z : Value) (size bytes : Nat) (h1 : P.underlying t = some (.slice e)) (h2 : P.info? e = some i) (h3 : i.zero = some z) (h4 : i.size = size) (h5 : i.bytes = bytes) (h6 : z.cells.size = size) (h7 : 0 < size)
    (hk : ∀ x, (enc x).length = size) (hone : ∀ (l : List α), ∀ u ∈ l.flatMap enc, u.oneCell' = true)
    (v : Value) (n : Nat) (xs : List Value) (hs : a.eval s = v) (hown : w.ownsRow base e size v n xs)
    (A : Option Addr) (l : List α) (c : Nat) (hx : a.eval x = .slice A l.length c) (hA : A = none → c = 0) (HR : RowE enc size w A l)
    (b1 : n + l.length ≤ maxLen) (b2 : (n + l.length) * bytes ≤ 140737488355328) (hbase : base ≤ w.heap.size)
    (hK : ∀ v' w', w'.ownsRow base e size v' (n + l.length) (xs ++ l.flatMap enc) → w.grownBy w' v.ownBlock → K (a.put o.dst v') w') :
    if Region.wanted o (yielded ops a.tmps) = true then Oper.wp P o a w K Q else E := by
  cases A with
  | none =>
    obtain rfl := hA rfl
    have hl0 : l = [] := by
      cases l with
      | nil => rfl
      | cons y l =>
        obtain ⟨b, off, h, _⟩ := HR 0 y rfl
        cases h
    subst hl0
    have hw : Region.wanted o (yielded ops a.tmps) = true := by simp [Region.wanted, hg]
    rw [if_pos hw]
    have hrun := run_append_owned_none (P := P) (w := w) base t o.type e i size h1 h2 v n xs hown
    have hk := hK v w (by simpa using hown) (World.grownBy.refl _ _)
    simp only [List.length_nil] at hx
    unfold Oper.wp
    simp [execOp, hop, resolve, invoke, builtin, hs, hx, hrun, Result.andThen]
    exact hk
  | some ad =>
    have hcell : ∀ j u, (l.flatMap enc)[j]? = some u → w.cell? (ad.add j) = some u := by
      by_cases h0 : l = []
      · subst h0
        intro j u hj
        simp at hj
      · obtain ⟨b, off, hA', _, hc⟩ := RowE.cells hk h7 HR h0
        obtain rfl := Option.some.inj hA'
        intro j u hj
        rw [Addr.add_lit]
        exact hc j u hj
    have hlen : ∀ l : List α, (l.flatMap enc).length = l.length * size := by
      intro l
      induction l with
      | nil => simp
      | cons y l ih => rw [List.flatMap_cons, List.length_append, hk, ih, List.length_cons, Nat.add_mul]; omega
    exact step_append_own hg s x t hop base e i z size bytes h1 h2 h3 h4 h5 h6 h7 v n xs hs hown ad l.length c (l.flatMap enc) hx (hlen l) hcell (hone l) b1 b2 hbase hK
/-- A row where a block of the call's own has grown. -/
theorem rowE_grown {α : Type} {enc : α → List Value} {k : Nat} {w w1 : World} {row : Option Nat} {A : Option Addr} {l : List α} (h : RowE enc k w A l) (hg : w.grownBy w1 row) (hA : ∀ a, A = some a → some a.block ≠ row) : RowE enc k w1 A l := fun i x hi => by
  obtain ⟨b, off, rfl, hb, hc⟩ := h i x hi
  have e := hg.block b hb (hA _ rfl)
  exact ⟨b, off, rfl, Nat.lt_of_lt_of_le hb hg.size, fun j v hv q u hu => (World.cell?_of_block (a := ⟨b, _, none⟩) e).trans (hc j v hv q u hu)⟩
theorem rowE_set {α : Type} {enc : α → List Value} {k : Nat} {w : World} {A : Option Addr} {l : List α} (h : RowE enc k w A l) (p : Addr) (u : Value) (hA : ∀ a, A = some a → a.block ≠ p.block) : RowE enc k (w.setCell p u) A l := fun i x hi => by
  obtain ⟨b, off, rfl, hb, hc⟩ := h i x hi
  exact ⟨b, off, rfl, by simpa using hb, fun j v hv q u' hu => (World.cell?_of_block (a := ⟨b, _, none⟩) (heap_setCell_other w p b u (hA _ rfl))).trans (hc j v hv q u' hu)⟩
end Go.Proofs.Ytkecbghnapjecaa
