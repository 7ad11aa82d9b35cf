/- A map of names that the call makes: map[string]bool. -/
import Derived.Test.YtfmfmammcjpboaaNameW
import Derived.Maps.OwnOps
import Derived.Maps.Views
namespace Go.Proofs.Ytfmfmammcjpboaa
open Go.RowKit
open Go.MapKept Go.ChangeMaps
set_option linter.unusedVariables false
set_option linter.unusedSimpArgs false
theorem bool_inv {H : Type} {P : Program} {e : TypeId} (he : P.underlying e = some .bool) {v : Value} {z : DataW H × List MemPlace} (h : plainElem P e v = some z) : ∃ x, v = .bool x ∧ z = (.lit (.bool x), []) := by
  unfold plainElem at h
  rw [he] at h
  cases v <;> simp at h
  exact ⟨_, rfl, h.symm⟩
theorem lit_bool {H : Type} {x y : Bool} (h : (DataW.lit (.bool x) : DataW H) = .lit (.bool y)) : x = y := by
  injection h with h
  injection h
/-- Block b holds the names l, and no others. -/
def NamesAt (w : World) (b : Nat) (l : List (List UInt8)) : Prop := ∃ (n : Nat) (D : DataW Unit), n ≤ l.length ∧ w.ownsMap Try.prog 9 (plainElem Try.prog 4) b n D ∧ Maps.IsMap D ∧ ∀ s : List UInt8, D.atKey (.string s) (.lit (.bool false)) = .lit (.bool (l.contains s))
section
variable {w w' : World} {b : Nat} {l : List (List UInt8)}
theorem NamesAt.lt (h : NamesAt w b l) : b < w.heap.size := by
  obtain ⟨n, D, _, ho, _⟩ := h
  exact ho.lt
theorem NamesAt.below (h : NamesAt w b l) (hb : Below w.heap.size w w') : NamesAt w' b l := by
  obtain ⟨n, D, h1, ho, h2⟩ := h
  exact ⟨n, D, h1, ho.kept (row := none) ⟨hb.os, hb.tape, hb.output, hb.size, fun k hk _ => hb.block k hk⟩ (by simp), h2⟩
theorem NamesAt.made (w : World) : NamesAt (w.alloc (.map #[] 0)) w.heap.size [] :=
  ⟨0, .map [], Nat.le_refl _, World.ownsMap_made w _ _ _, Maps.isMap_empty, fun s => rfl⟩
theorem key_text (s : ByteArray) (hs : s.size ≤ maxLen) : keyOf Try.prog 9 (.string s) = some (.string s.data.toList) := WideMaps.keyOf_string_mk Try.underlying9 hs
theorem NamesAt.look (h : NamesAt w b l) (s : ByteArray) (hs : s.size ≤ maxLen) : (Instr.lookup 108 (.map (some b)) (.string s) false).run Try.prog w = .ok (.bool (l.contains s.toList)) w := by
  obtain ⟨n, D, h1, ho, h2, h3⟩ := h
  obtain ⟨v, ps, hrun, hv⟩ := ho.lookup (Maps.string_keyed Try.underlying9) Try.underlying108 (z := .bool false) (by exact Try.zeroValue4 w) (plainElem_bool Try.underlying4 false) (key_text s hs)
  obtain ⟨x, rfl, hx⟩ := bool_inv Try.underlying4 hv
  rw [hrun]
  have h4 := h3 s.data.toList
  simp only [Prod.mk.injEq] at hx
  rw [h4] at hx
  rw [ByteArray.toList_eq]
  have e : l.contains s.data.toList = x := lit_bool hx.1
  rw [e]
theorem NamesAt.put {n : Nat} {D : DataW Unit} (h1 : n ≤ l.length) (h2 : Maps.IsMap D) (h3 : ∀ s : List UInt8, D.atKey (.string s) (.lit (.bool false)) = .lit (.bool (l.contains s))) {s : ByteArray} (ho : w'.ownsMap Try.prog 9 (plainElem Try.prog 4) b (n + 1) (D.put (.string s.data.toList) (.lit (.bool true)))) : NamesAt w' b (s.toList :: l) := by
  refine ⟨n + 1, _, by simp; omega, ho, h2.put _ _, fun t => ?_⟩
  rw [ByteArray.toList_eq]
  by_cases e : t = s.data.toList
  · subst e
    rw [Maps.atKey_put_same h2 (by trivial)]
    simp
  · rw [Maps.atKey_put_other (fun h => e (by simpa using h)), h3]
    congr 2
    rw [List.contains_cons]
    have : (t == s.data.toList) = false := by rw [beq_eq_false_iff_ne]; exact e
    rw [this, Bool.false_or]
theorem NamesAt.clear (h : NamesAt w b l) : ∃ w', (Builtin.clear_ #[108] 0 #[.map (some b)]).run Try.prog w = .ok (.tuple #[]) w' ∧ NamesAt w' b [] ∧ w.grownBy w' (some b) := by
  obtain ⟨n, D, h1, ⟨es, clock, hb, F, h4, h5⟩, h2, h3⟩ := h
  refine ⟨setBlock w b (.map #[] clock), ?_, ⟨0, .map [], Nat.le_refl _, ⟨#[], clock, heap_setBlock_same hb _, ⟨by simp, stamped_empty clock, by simp⟩, Nat.le_refl _, rfl⟩, Maps.isMap_empty, fun s => rfl⟩, rfl, rfl, rfl, by simp [setBlock], fun i _ hi => heap_setBlock_other hb _ (fun e => hi (by rw [e]))⟩
  simp [Builtin.clear_, run_underlying Try.underlying108, MapKept.run_getObj_map hb, MapKept.run_setObj_map _ hb, Result.andThen, setBlock]
end
end Go.Proofs.Ytfmfmammcjpboaa
