/- A map of numbers that the call makes: map[int]bool. -/
import Derived.Test.YtkecbghnapjecaaWithW
import Derived.Maps.OwnOps
import Derived.Maps.Views
import Derived.Maps.OwnSet
namespace Go.Proofs.Ytkecbghnapjecaa
open Go.RowKit
open Go.MapKept Go.ChangeMaps
set_option linter.unusedVariables false
set_option linter.unusedSimpArgs false
theorem bool_inv {H : Type} {P : Program} {e : TypeId} (he : P.underlying e = some .bool) {v : Value} {z : DataW H × List MemPlace} (h : plainElem P e v = some z) : ∃ x, v = .bool x ∧ z = (.lit (.bool x), []) := by
  unfold plainElem at h
  rw [he] at h
  cases v <;> simp at h
  exact ⟨_, rfl, h.symm⟩
theorem lit_bool {H : Type} {x y : Bool} (h : (DataW.lit (.bool x) : DataW H) = .lit (.bool y)) : x = y := by
  injection h with h
  injection h
def InR (n : Int) : Prop := -9223372036854775808 ≤ n ∧ n ≤ 9223372036854775807
theorem inR_lit {n : Int} (h : InR n) : (Lit.int .i64 n).wf = true := by
  have h1 := h.1; have h2 := h.2
  simp only [Lit.wf]
  simp only [Bool.and_eq_true, decide_eq_true_eq]
  exact h
/-- Block b holds the numbers l, each once. -/
def IntsAt (w : World) (b : Nat) (l : List Int) : Prop := ∃ (n : Nat) (D : DataW Unit), n ≤ l.length ∧ w.ownsMap Try.prog 3 (plainElem Try.prog 4) b n D ∧ Maps.Tidy D ∧ (∀ k : Int, D.atKey (.int .i64 k) (.lit (.bool false)) = .lit (.bool (l.contains k))) ∧ (∀ k : Int, Maps.has D (.int .i64 k) = l.contains k) ∧ Maps.size D = l.length
section
variable {w w' : World} {b : Nat} {l : List Int}
theorem IntsAt.lt (h : IntsAt w b l) : b < w.heap.size := by
  obtain ⟨n, D, _, ho, _⟩ := h
  exact ho.lt
theorem IntsAt.grown {row : Option Nat} (h : IntsAt w b l) (hg : w.grownBy w' row) (hne : some b ≠ row) : IntsAt w' b l := by
  obtain ⟨n, D, h1, ho, h2⟩ := h
  exact ⟨n, D, h1, ho.kept hg hne, h2⟩
theorem IntsAt.below (h : IntsAt w b l) (hb : Below w.heap.size w w') : IntsAt w' b l := by
  obtain ⟨n, D, h1, ho, h2⟩ := h
  exact ⟨n, D, h1, ho.kept (row := none) ⟨hb.os, hb.tape, hb.output, hb.size, fun k hk _ => hb.block k hk⟩ (by simp), h2⟩
theorem IntsAt.made (w : World) : IntsAt (w.alloc (.map #[] 0)) w.heap.size [] :=
  ⟨0, .map [], Nat.le_refl _, World.ownsMap_made w _ _ _, Maps.tidy_empty, fun s => rfl, fun s => rfl, rfl⟩
theorem key_int {k : Int} (hk : InR k) : keyOf Try.prog 3 (.int .i64 k) = some (.int .i64 k) := Maps.keyOf_int_mk Try.underlying3 (inR_lit hk)
theorem IntsAt.look (h : IntsAt w b l) {k : Int} (hk : InR k) : (Instr.lookup 95 (.map (some b)) (.int .i64 k) false).run Try.prog w = .ok (.bool (l.contains k)) w := by
  obtain ⟨n, D, h1, ho, h2, h3, _⟩ := h
  obtain ⟨v, ps, hrun, hv⟩ := ho.lookup (Maps.int_keyed Try.underlying3) Try.underlying95 (z := .bool false) (by exact Try.zeroValue4 w) (plainElem_bool Try.underlying4 false) (key_int hk)
  obtain ⟨x, rfl, hx⟩ := bool_inv Try.underlying4 hv
  rw [hrun]
  simp only [Prod.mk.injEq] at hx
  rw [h3 k] at hx
  have e : l.contains k = x := lit_bool hx.1
  rw [e]
theorem IntsAt.put {n : Nat} {D : DataW Unit} {k : Int} (h1 : n ≤ l.length) (h2 : Maps.Tidy D) (h3 : ∀ k : Int, D.atKey (.int .i64 k) (.lit (.bool false)) = .lit (.bool (l.contains k))) (h4 : ∀ k : Int, Maps.has D (.int .i64 k) = l.contains k) (h5 : Maps.size D = l.length) (hk : l.contains k = false)
    (ho : w'.ownsMap Try.prog 3 (plainElem Try.prog 4) b (n + 1) (D.put (.int .i64 k) (.lit (.bool true)))) : IntsAt w' b (k :: l) := by
  refine ⟨n + 1, _, by simp; omega, ho, h2.put (by trivial) _, fun t => ?_, fun t => ?_, ?_⟩
  · by_cases e : t = k
    · subst e
      rw [Maps.atKey_put_same h2.isMap (by trivial)]
      simp
    · rw [Maps.atKey_put_other (fun h => e (by simpa using h)), h3]
      congr 2
      rw [List.contains_cons]
      have : (t == k) = false := by rw [beq_eq_false_iff_ne]; exact e
      rw [this, Bool.false_or]
  · by_cases e : t = k
    · subst e
      rw [Maps.has_put_same h2.isMap (by trivial)]
      simp
    · rw [Maps.has_put_other (fun h => e (by simpa using h)), h4]
      rw [List.contains_cons]
      have : (t == k) = false := by rw [beq_eq_false_iff_ne]; exact e
      rw [this, Bool.false_or]
  · rw [Maps.size_put h2, h4, hk, h5]
    simp
theorem IntsAt.len (h : IntsAt w b l) (ty : TypeId) : (Builtin.len_ #[95] ty #[.map (some b)]).run Try.prog w = .ok (.int .i64 l.length) w := by
  obtain ⟨n, D, h1, ho, h2, h3, h4, h5⟩ := h
  rw [ho.len Try.underlying95 ty, h5]
end
end Go.Proofs.Ytkecbghnapjecaa
