/- A map of the call's own, from int to bool, as a function of its keys. -/
import Derived.Test.YtdajginkipaghaaProg
import Derived.WalkKit
import Derived.Maps.Views
import Derived.Maps.OwnOps
import Derived.ProofKit
namespace Go.Proofs.Ytdajginkipaghaa
open Go.Maps Go.RowKit
set_option linter.unusedVariables false
set_option linter.unusedSimpArgs false
/-- Block b of w is a map of at most n keys that tells f. -/
def BMap (w : World) (b n : Nat) (f : Int → Bool) : Prop := ∃ D : DataW Unit, w.ownsMap Try.prog 3 (plainElem Try.prog 4) b n D ∧ IsMap D ∧ ∀ k, D.atKey (.int .i64 k) (.lit (.bool false)) = .lit (.bool (f k))
theorem BMap.made (w : World) : BMap (w.alloc (.map #[] 0)) w.heap.size 0 (fun _ => false) := ⟨.map [], World.ownsMap_made _ _ _ _, isMap_empty, fun _ => rfl⟩
theorem BMap.lt {w : World} {b n : Nat} {f : Int → Bool} (h : BMap w b n f) : b < w.heap.size := h.choose_spec.1.lt
theorem BMap.grown {w w' : World} {b n : Nat} {f : Int → Bool} {row : Option Nat} (h : BMap w b n f) (hg : w.grownBy w' row) (hne : some b ≠ row) : BMap w' b n f := by
  obtain ⟨D, h1, h2, h3⟩ := h
  exact ⟨D, h1.kept hg hne, h2, h3⟩
theorem BMap.alloc {w : World} {b n : Nat} {f : Int → Bool} (h : BMap w b n f) (o : Obj) : BMap (w.alloc o) b n f := by
  obtain ⟨D, h1, h2, h3⟩ := h
  exact ⟨D, h1.alloc o, h2, h3⟩
theorem BMap.drew {w : World} {b n : Nat} {f : Int → Bool} (h : BMap w b n f) : BMap w.drew b n f := h
theorem BMap.below {w w' : World} {b n : Nat} {f : Int → Bool} (h : BMap w b n f) {N : Nat} (hb : Below N w w') (hN : b < N) : BMap w' b n f := by
  obtain ⟨D, ⟨es, clock, e, r⟩, h2, h3⟩ := h
  exact ⟨D, ⟨es, clock, (hb.block b hN).trans e, r⟩, h2, h3⟩
theorem BMap.lookup {w : World} {b n : Nat} {f : Int → Bool} (h : BMap w b n f) (k : Int) (hk : (Lit.int .i64 k).wf = true) :
    (Instr.lookup 58 (.map (some b)) (.int .i64 k) false).run Try.prog w = .ok (.bool (f k)) w := by
  obtain ⟨D, h1, h2, h3⟩ := h
  have he : Try.prog.underlying 4 = some .bool := Try.underlying4
  obtain ⟨v, ps, hrun, hv⟩ := h1.lookup (t := 58) (e := 4) (int_keyed Try.underlying3) Try.underlying58 (z := .bool false) (by kernel_rfl) (plainElem_bool he false) (keyOf_int_mk Try.underlying3 hk)
  rw [h3] at hv
  have : v = .bool (f k) := by
    unfold plainElem at hv
    rw [he] at hv
    cases v <;> simp at hv
    exact congrArg _ hv.1
  rw [← this]; exact hrun
theorem BMap.update {w : World} {b n : Nat} {f : Int → Bool} (h : BMap w b n f) (hn : n < maxLen) (k : Int) (hk : (Lit.int .i64 k).wf = true) (x : Bool) :
    ∃ w', (Instr.mapUpdate 58 (.map (some b)) (.int .i64 k) (.bool x)).run Try.prog w = .ok () w' ∧ BMap w' b (n + 1) (fun j => if j = k then x else f j) ∧ w.grownBy w' (some b) := by
  obtain ⟨D, h1, h2, h3⟩ := h
  obtain ⟨w', r1, r2, r3⟩ := h1.update (t := 58) (e := 4) (int_keyed Try.underlying3) Try.underlying58 hn (keyOf_int_mk Try.underlying3 hk) (plainElem_bool Try.underlying4 x)
  refine ⟨w', r1, ⟨_, r2, h2.put _ _, fun j => ?_⟩, r3⟩
  by_cases e : j = k
  · subst e; simp only [if_pos rfl]; exact atKey_put_same h2 (by first | exact hk | simp [WideAt.IsKeyLit]) _ _
  · simp only [if_neg e]; rw [atKey_put_other (by intro h; exact e (by cases h; rfl)), h3]
end Go.Proofs.Ytdajginkipaghaa
