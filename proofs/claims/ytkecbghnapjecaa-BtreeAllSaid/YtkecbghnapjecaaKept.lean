/- What a call leaves as it was, but for some blocks; 'clear' on a slice of the call's own. -/
import Derived.Test.YtkecbghnapjecaaBox3
import Derived.Laws.IdiomCopy
import Derived.Tactics
namespace Go.Proofs.Ytkecbghnapjecaa
open Go.RowKit
set_option linter.unusedVariables false
set_option linter.unusedSimpArgs false
/-- All blocks under N but those of B lie as they lay. -/
structure Kept (N : Nat) (B : Nat → Prop) (w w' : World) : Prop where
  os : w'.os = w.os
  tape : w'.tape = w.tape
  output : w'.output = w.output
  size : w.heap.size ≤ w'.heap.size
  block : ∀ k, k < N → ¬ B k → w'.heap[k]? = w.heap[k]?
section
variable {N : Nat} {B : Nat → Prop} {w w' w'' : World}
theorem Kept.refl (N : Nat) (B : Nat → Prop) (w : World) : Kept N B w w := ⟨rfl, rfl, rfl, Nat.le_refl _, fun _ _ _ => rfl⟩
theorem Kept.trans (h : Kept N B w w') (k : Kept N B w' w'') : Kept N B w w'' :=
  ⟨k.os.trans h.os, k.tape.trans h.tape, k.output.trans h.output, Nat.le_trans h.size k.size, fun i hi hb => (k.block i hi hb).trans (h.block i hi hb)⟩
theorem Kept.mono {B' : Nat → Prop} (h : Kept N B w w') (hB : ∀ k, B k → B' k) : Kept N B' w w' := ⟨h.os, h.tape, h.output, h.size, fun k hk hb => h.block k hk (fun h => hb (hB k h))⟩
theorem Kept.of_below {M : Nat} (h : Below M w w') (hN : N ≤ M) : Kept N B w w' := ⟨h.os, h.tape, h.output, h.size, fun k hk _ => h.block k (Nat.lt_of_lt_of_le hk hN)⟩
theorem Kept.to_below {M : Nat} (h : Kept N B w w') (hN : M ≤ N) (hB : ∀ k, B k → M ≤ k) : Below M w w' :=
  ⟨h.os, h.tape, h.output, h.size, fun k hk => h.block k (Nat.lt_of_lt_of_le hk hN) (fun b => by have := hB k b; omega)⟩
theorem Kept.alloc (h : Kept N B w w') (hN : N ≤ w'.heap.size) (o : Obj) : Kept N B w (w'.alloc o) :=
  h.trans (Kept.of_below ((Below.refl _ w').alloc (Nat.le_refl _) o) hN)
theorem Kept.set (h : Kept N B w w') (a : Addr) (u : Value) (ha : N ≤ a.block ∨ B a.block) : Kept N B w (w'.setCell a u) :=
  h.trans ⟨rfl, rfl, rfl, by simp, fun k hk hb => heap_setCell_other w' a k u (fun e => by subst e; rcases ha with ha | ha; exact absurd hk (by omega); exact hb ha)⟩
theorem Kept.grown {row : Option Nat} (h : Kept N B w w') (hg : w'.grownBy w'' row) (hN : N ≤ w'.heap.size) (hr : ∀ k, row = some k → N ≤ k ∨ B k) : Kept N B w w'' :=
  h.trans ⟨hg.os, hg.tape, hg.output, hg.size, fun k hk hb => hg.block k (Nat.lt_of_lt_of_le hk hN) (fun e => by rcases hr k e.symm with q | q; omega; exact hb q)⟩
theorem Kept.cell (h : Kept N B w w') {p : Addr} (hp : p.block < N) (hb : ¬ B p.block) : w'.cell? p = w.cell? p := World.cell?_of_block (h.block _ hp hb)
theorem Kept.frozen (h : Kept N B w w') {p : Addr} (hp : p.block < N) (hb : ¬ B p.block) : w'.frozen? p = w.frozen? p := World.frozen?_of_block (h.block _ hp hb)
theorem Kept.box (h : Kept N B w w') {b : Nat} {x y z : Value} (hx : Box3 w b x y z) (hp : b < N) (hb : ¬ B b) : Box3 w' b x y z :=
  ⟨(h.cell (p := ⟨b, 0, none⟩) hp hb).trans hx.c0, (h.cell (p := ⟨b, 1, none⟩) hp hb).trans hx.c1, (h.cell (p := ⟨b, 2, none⟩) hp hb).trans hx.c2, (h.frozen (p := ⟨b, 0, none⟩) hp hb).trans hx.f0, (h.frozen (p := ⟨b, 1, none⟩) hp hb).trans hx.f1, (h.frozen (p := ⟨b, 2, none⟩) hp hb).trans hx.f2, Nat.lt_of_lt_of_le hx.lt h.size⟩
theorem Kept.own {base k : Nat} {e : TypeId} {v : Value} {n : Nat} {xs : List Value} (h : Kept N B w w') (ho : w.ownsRow base e k v n xs) (hv : ∀ g, v.ownBlock = some g → g < N ∧ ¬ B g) : w'.ownsRow base e k v n xs := by
  refine ⟨ho.1, ?_⟩
  rcases ho.2 with hn | ⟨g, cap, cur, rfl, h1, h2, rest⟩
  · exact .inl hn
  · have hv' := hv g rfl
    exact .inr ⟨g, cap, cur, rfl, h1, (h.block g hv'.1 hv'.2).trans h2, rest⟩
end
/-- Cells set one by one in a block: what lies ahead of them stays. -/
theorem heap_setCells : ∀ (vs : List Value) (w : World) (g o : Nat) (cur : Array Value) (T : TypeId), w.heap[g]? = some (.cells cur T (0, 0)) →
    ∃ cur', (w.setCells g o vs).heap[g]? = some (.cells cur' T (0, 0)) ∧ cur'.size = cur.size ∧ cur'.toList.take o = cur.toList.take o
  | [], w, g, o, cur, T, h => ⟨cur, h, rfl, rfl⟩
  | v :: vs, w, g, o, cur, T, h => by
    obtain ⟨cur', h1, h2, h3⟩ := heap_setCells vs (w.setCell ⟨g, o, none⟩ v) g (o + 1) _ T (heap_setCell_same w g o cur T v h)
    refine ⟨cur', h1, by simpa using h2, ?_⟩
    have := congrArg (List.take o) h3
    rw [List.take_take, List.take_take, Nat.min_eq_left (Nat.le_succ o), Array.toList_setIfInBounds] at this
    rw [this, List.take_set_of_le (Nat.le_refl _)]
theorem grown_trans {a b c : World} {row : Option Nat} (h : a.grownBy b row) (k : b.grownBy c row) : a.grownBy c row :=
  ⟨k.os.trans h.os, k.tape.trans h.tape, k.output.trans h.output, Nat.le_trans h.size k.size, fun i hi hr => (k.block i (Nat.lt_of_lt_of_le hi h.size) hr).trans (h.block i hi hr)⟩
theorem grown_setCells : ∀ (vs : List Value) (w : World) (g o : Nat), w.grownBy (w.setCells g o vs) (some g)
  | [], w, g, o => World.grownBy.refl w _
  | v :: vs, w, g, o => grown_trans (grown_set w ⟨g, o, none⟩ v) (grown_setCells vs (w.setCell ⟨g, o, none⟩ v) g (o + 1))
/-- 'clear(s[i:])' of a slice of the call's own. -/
theorem run_clear_own {P : Program} {w : World} {base e k g n cap : Nat} {xs : List Value} (t ty : TypeId) (z : Value) (i : Nat) (ht : P.underlying t = some (.slice e)) (hv : ∀ w, (zeroValue e).run P w = .ok z w) (hzk : z.cells.size = k)
    (h1 : ∀ u ∈ z.cells.toList, u.oneCell' = true) (hk0 : 0 < k) (hi : i < n) (ho : w.ownsRow base e k (.slice (some ⟨g, 0, none⟩) n cap) n xs) :
    ∃ w', (Builtin.clear_ #[t] ty #[.slice (some ⟨g, i * k, none⟩) (n - i) (cap - i)]).run P w = .ok (.tuple #[]) w' ∧ w'.ownsRow base e k (.slice (some ⟨g, 0, none⟩) i cap) i (xs.take (i * k)) ∧ w.grownBy w' (some g) := by
  have hlen : (Builtin.zeroCells z.cells (n - i)).toList.length = (n - i) * k := by simp [Builtin.zeroCells, hzk]
  have hin : ∀ u ∈ (Builtin.zeroCells z.cells (n - i)).toList, u.oneCell' = true := by
    intro u hu
    simp only [Builtin.zeroCells, Array.toList_map, List.mem_map] at hu
    obtain ⟨j, _, rfl⟩ := hu
    have hj : j % z.cells.size < z.cells.size := Nat.mod_lt _ (by omega)
    rw [getElem!_pos z.cells _ hj]
    exact h1 _ (by simp)
  have hnk : i * k + (n - i) * k = n * k := by rw [← Nat.add_mul]; congr 1; omega
  have hst := run_storeCells_cells (P := P) g (i * k) (Builtin.zeroCells z.cells (n - i)).toList 0 w (fun j hj => by
    rw [hlen] at hj
    rw [ho.cellAt _ (by omega), List.getElem?_eq_getElem (by have := ho.1; omega)]; rfl) (fun j _ => ho.frozenAt _) hin
  simp only [Nat.add_zero] at hst
  refine ⟨w.setCells g (i * k) (Builtin.zeroCells z.cells (n - i)).toList, ?_, ?_, grown_setCells _ _ _ (i * k)⟩
  · obtain ⟨m, hm⟩ : ∃ m, n - i = m + 1 := ⟨n - i - 1, by omega⟩
    rw [hm] at hst ⊢
    simp [Builtin.clear_, run_underlying ht, hv, hst]
  · rcases ho.2 with ⟨h', _⟩ | ⟨g', cap', cur, h', hb, hg, hnc, hcm, hcs, htake⟩
    · cases h'
    · obtain ⟨rfl, rfl⟩ : g = g' ∧ cap = cap' := by simpa using h'
      obtain ⟨cur', q1, q2, q3⟩ := heap_setCells (Builtin.zeroCells z.cells (n - i)).toList w g (i * k) cur e hg
      have hik : i * k ≤ n * k := Nat.mul_le_mul_right k (by omega)
      refine ⟨by rw [List.length_take, ho.1]; omega, .inr ⟨g, cap, cur', rfl, hb, q1, by omega, hcm, by rw [q2, hcs], ?_⟩⟩
      rw [q3, ← htake, List.take_take, Nat.min_eq_left hik]
end Go.Proofs.Ytkecbghnapjecaa
