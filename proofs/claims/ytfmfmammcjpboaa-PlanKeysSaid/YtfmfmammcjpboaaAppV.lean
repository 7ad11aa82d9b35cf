/- 'append' of a row of values to a row of the call's own, as a step of a region that draws its order. -/
import Derived.Test.YtfmfmammcjpboaaEndW
import Derived.Test.YtfmfmammcjpboaaStep
import Derived.Laws.OwnMore
namespace Go.Proofs.Ytfmfmammcjpboaa
open Go.RowKit
set_option linter.unusedVariables false
set_option linter.unusedSimpArgs false
theorem encVal_one : ∀ (l : List V), ∀ u ∈ l.flatMap encVal, u.oneCell' = true := fun l u hu => by
  obtain ⟨x, _, hx⟩ := List.mem_flatMap.1 hu
  simp [encVal] at hx
  rcases hx with rfl | rfl | rfl <;> rfl
theorem flat_len3 : ∀ l : List V, (l.flatMap encVal).length = l.length * 3
  | [] => by simp
  | a :: l => by rw [List.flatMap_cons, List.length_append, encVal_len, flat_len3 l, List.length_cons, Nat.add_mul]; omega
/-- The cells of a slice that is not empty. -/
theorem rowE_cells {w : World} {A : Option Addr} {l : List V} (h : RowE encVal 3 w A l) (h0 : l ≠ []) : ∃ b off, A = some ⟨b, off, none⟩ ∧ b < w.heap.size ∧ ∀ j u, (l.flatMap encVal)[j]? = some u → w.cell? ⟨b, off + j, none⟩ = some u := by
  obtain ⟨x, hx⟩ : ∃ x, l[0]? = some x := ⟨_, List.getElem?_eq_getElem (List.length_pos_iff.2 h0)⟩
  obtain ⟨b, off, hA, hlt, hc⟩ := h 0 x hx
  refine ⟨b, off, hA, hlt, fun j u hu => ?_⟩
  have hj : j < (l.flatMap encVal).length := by
    rcases Nat.lt_or_ge j (l.flatMap encVal).length with h' | h'
    · exact h'
    · rw [List.getElem?_eq_none h'] at hu; cases hu
  rw [flat_len3] at hj
  obtain ⟨y, hy⟩ : ∃ y, l[j / 3]? = some y := ⟨_, List.getElem?_eq_getElem (by omega)⟩
  have e : j = j / 3 * 3 + j % 3 := by omega
  have hq : j % 3 < (encVal y).length := by rw [encVal_len]; omega
  obtain ⟨v, hv⟩ : ∃ v, (encVal y)[j % 3]? = some v := ⟨_, List.getElem?_eq_getElem hq⟩
  have h1 := flat_get encVal_len l (j / 3) y (j % 3) v hy hv
  rw [← e, hu] at h1
  obtain rfl := Option.some.inj h1
  have h2 := hc (j / 3) y hy (j % 3) u hv
  rw [e, ← Nat.add_assoc]; exact h2
theorem rowE_own {w : World} {base n : Nat} {e : TypeId} {v : Value} {l : List V} (h : w.ownsRow base e 3 v n (l.flatMap encVal)) : n = l.length ∧ ∃ A c, v = .slice A l.length c ∧ l.length ≤ c ∧ RowE encVal 3 w A l := by
  have hn : n = l.length := by have := h.1; rw [flat_len3] at this; omega
  refine ⟨hn, ?_⟩
  rcases h.2 with ⟨rfl, h0⟩ | ⟨g, cap, cur, rfl, _, _, hle, _⟩
  · have : l = [] := List.eq_nil_of_length_eq_zero (by omega)
    subst this
    exact ⟨none, 0, rfl, Nat.le_refl _, RowE.nil⟩
  · exact ⟨_, cap, by rw [hn], by omega, RowE.owned encVal_len h⟩
/-- append(one.., row..), as a step. -/
theorem step_append_vals {ops : Array Oper} {o : Oper} {a : Act} {w : World} {K : Act → World → Prop} {Q : Exit → Act → World → Prop} {E : Prop}
    (hg : o.guard = none) (s x : Operand) (hop : o.op = Op.call { callee := Callee.builtin Builtin.append, args := #[s, x], argTypes := #[58, 58] })
    (base : Nat) (v : Value) (m l : List V) (hs : a.eval s = v) (hown : w.ownsRow base 28 3 v m.length (m.flatMap encVal))
    (A : Option Addr) (c : Nat) (hx : a.eval x = .slice A l.length c) (hA : A = none → c = 0) (HR : RowE encVal 3 w A l) (hm : m.length ≤ 1000) (hl : l.length ≤ 1000) (hbase : base ≤ w.heap.size)
    (hK : ∀ A' c' w', RowE encVal 3 w' A' (m ++ l) → Below base w w' → K (a.put o.dst (.slice A' (m ++ l).length c')) w') :
    if Region.wanted o (yielded ops a.tmps) = true then Oper.wp Try.prog o a w K Q else E := by
  obtain ⟨i0, hi, hz0, hz1, hz2⟩ := info_parts (show (Try.prog.info? 28).map (fun i => (i.zero, i.size, i.bytes)) = some (some (.agg #[.int .i64 0, .int .i64 0, .string ⟨#[]⟩]), 3, 32) by kernel_rfl)
  have hbg : ∀ w', w.grownBy w' v.ownBlock → Below base w w' := fun w' hgr => (Below.refl base w).grown hgr hbase (by
    intro k hk
    rcases hown.2 with ⟨rfl, _⟩ | ⟨g, cap, cur, rfl, hge, _⟩
    · simp [Value.ownBlock] at hk
    · simp [Value.ownBlock] at hk
      omega)
  have hfin : ∀ v' w' n', w'.ownsRow base 28 3 v' n' ((m ++ l).flatMap encVal) → w.grownBy w' v.ownBlock → K (a.put o.dst v') w' := fun v' w' n' ho hgr => by
    obtain ⟨_, A', c', rfl, _, hR⟩ := rowE_own ho
    exact hK A' c' w' hR (hbg w' hgr)
  cases A with
  | none =>
    obtain rfl := hA rfl
    have hl0 : l = [] := by
      cases l with
      | nil => rfl
      | cons y l =>
        obtain ⟨b, off, h, _⟩ := HR 0 y rfl
        cases h
    subst hl0
    have hw : Region.wanted o (yielded ops a.tmps) = true := by simp [Region.wanted, hg]
    rw [if_pos hw]
    have hrun := run_append_owned_none (P := Try.prog) (w := w) base 58 o.type 28 i0 3 Try.underlying58 hi v _ _ hown
    have hown2 : w.ownsRow base 28 3 v m.length ((m ++ []).flatMap encVal) := by rw [List.append_nil]; exact hown
    have hk := hfin v w _ hown2 (World.grownBy.refl _ _)
    unfold Oper.wp
    simp only [List.length_nil] at hx
    simp [execOp, hop, resolve, invoke, builtin, hs, hx, hrun, Result.andThen]
    exact hk
  | some ad =>
    have hcell : ∀ j u, (l.flatMap encVal)[j]? = some u → w.cell? (ad.add j) = some u := by
      by_cases h0 : l = []
      · subst h0
        intro j u hj
        simp at hj
      · obtain ⟨b, off, hA', _, hc⟩ := rowE_cells HR h0
        obtain rfl := Option.some.inj hA'
        intro j u hj
        rw [Addr.add_lit]
        exact hc j u hj
    refine step_append_own hg s x 58 hop base 28 i0 (.agg #[.int .i64 0, .int .i64 0, .string ⟨#[]⟩]) 3 32 Try.underlying58 hi hz0 hz1 hz2 rfl (by decide) v m.length _ hs hown ad l.length c (l.flatMap encVal) hx (flat_len3 l) hcell (encVal_one l) (by simp only [maxLen]; omega) (by omega) hbase (fun v' w' ho hgr => ?_)
    refine hfin v' w' (m.length + l.length) ?_ hgr
    rw [List.flatMap_append]
    exact ho
end Go.Proofs.Ytfmfmammcjpboaa
