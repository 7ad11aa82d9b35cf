/- Walks of the laws of layer 1: exact: what the two walks share. -/
import Derived.Test.YtekldpghidmeaaaAlive
import Derived.Test.YtekldpghidmeaaaRef1c
namespace Go.Proofs.Ytekldpghidmeaaa
open Go.RowKit
set_option linter.unusedVariables false
set_option linter.unusedSimpArgs false
attribute [local go_sem high] eqVal
theorem vreckon_num {op a b : Int} (h4 : 4 ≤ op) (h7 : op ≤ 7) : vreckon op ⟨1, a, ⟨#[]⟩⟩ ⟨1, b, ⟨#[]⟩⟩ = if (nreckon op a b).2 ≠ 0 then (.nul, (nreckon op a b).2) else (.num (nreckon op a b).1, 0) := by
  have hx : ¬ (op < 4 ∨ 13 < op) := by omega
  simp only [vreckon, if_neg hx, if_pos h7, vfit_two]
  simp [rfits, vcheck]
/-- value.Reckon of two numbers, where it has an answer. -/
theorem reckonN {op a b r : Int} (h4 : 4 ≤ op) (h7 : op ≤ 7) (ha : InR a) (hb : InR b) (h : nreckon op a b = (r, 0)) (w : World) :
    Calls Try.prog 18 #[.int .i64 op, .agg #[.int .i64 1, .int .i64 a, .string ⟨#[]⟩], .agg #[.int .i64 1, .int .i64 b, .string ⟨#[]⟩]] w fun e w' => e = .returned (.tuple #[.agg #[.int .i64 1, .int .i64 r, .string ⟨#[]⟩], .int .i64 0]) ∧ Below w.heap.size w w' := by
  have := Reckon_any op 1 a ⟨#[]⟩ 1 b ⟨#[]⟩ w ha hb
  rw [vreckon_num h4 h7, h] at this
  simpa [V.num] using this
theorem reckonE {op a b r c : Int} (h4 : 4 ≤ op) (h7 : op ≤ 7) (ha : InR a) (hb : InR b) (h : nreckon op a b = (r, c)) (hc : c ≠ 0) (w : World) :
    Calls Try.prog 18 #[.int .i64 op, .agg #[.int .i64 1, .int .i64 a, .string ⟨#[]⟩], .agg #[.int .i64 1, .int .i64 b, .string ⟨#[]⟩]] w fun e w' => e = .returned (.tuple #[.agg #[.int .i64 0, .int .i64 0, .string ⟨#[]⟩], .int .i64 c]) ∧ Below w.heap.size w w' := by
  have := Reckon_any op 1 a ⟨#[]⟩ 1 b ⟨#[]⟩ w ha hb
  rw [vreckon_num h4 h7, h] at this
  simpa [V.nul, hc] using this
theorem below_of_eq {w w' : World} (h : w = w') : Below w.heap.size w w' := h ▸ Below.refl _ _
/-- A value's three cells in block q. -/
structure Box (W : World) (q : Nat) (k n : Int) : Prop where
  c0 : W.cell? ⟨q, 0, none⟩ = some (.int .i64 k)
  c1 : W.cell? ⟨q, 1, none⟩ = some (.int .i64 n)
  c2 : W.cell? ⟨q, 2, none⟩ = some (.string ⟨#[]⟩)
theorem Box.lt {W : World} {q : Nat} {k n : Int} (h : Box W q k n) : q < W.heap.size := World.block_lt_of_cell? _ _ h.c0
theorem Box.below {W W' : World} {q : Nat} {k n : Int} (h : Box W q k n) (hb : Below W.heap.size W W') : Box W' q k n :=
  ⟨(hb.cell (p := ⟨q, 0, none⟩) h.lt).trans h.c0, (hb.cell (p := ⟨q, 1, none⟩) h.lt).trans h.c1, (hb.cell (p := ⟨q, 2, none⟩) h.lt).trans h.c2⟩
theorem Box.alloc {W : World} {q : Nat} {k n : Int} (h : Box W q k n) (o : Obj) : Box (W.alloc o) q k n := h.below ((Below.refl _ _).alloc (Nat.le_refl _) _)
theorem Box.drew {W : World} {q : Nat} {k n : Int} (h : Box W q k n) : Box W.drew q k n := ⟨h.c0, h.c1, h.c2⟩
/-- .. and free to be written. -/
structure Free (W : World) (q : Nat) : Prop where
  b : Box W q 0 0
  f0 : W.frozen? ⟨q, 0, none⟩ = false
  f1 : W.frozen? ⟨q, 1, none⟩ = false
  f2 : W.frozen? ⟨q, 2, none⟩ = false
theorem Free.new (W : World) : Free (W.alloc (.cells #[.int .i64 0, .int .i64 0, .string ⟨#[]⟩] 23)) W.heap.size :=
  ⟨⟨by go_simp, by go_simp, by go_simp⟩, by go_simp, by go_simp, by go_simp⟩
theorem Free.drew {W : World} {q : Nat} (h : Free W q) : Free W.drew q := ⟨h.b.drew, h.f0, h.f1, h.f2⟩
theorem Free.below {W W' : World} {q : Nat} (h : Free W q) (hb : Below W.heap.size W W') : Free W' q :=
  ⟨h.b.below hb, (hb.frozen (p := ⟨q, 0, none⟩) h.b.lt).trans h.f0, (hb.frozen (p := ⟨q, 1, none⟩) h.b.lt).trans h.f1, (hb.frozen (p := ⟨q, 2, none⟩) h.b.lt).trans h.f2⟩
theorem exact_rest {a b : Int} (ha : InR a) (hb : InR b) (h0 : b ≠ 0) (hm : ¬ (a = -9223372036854775808 ∧ b = -1)) : InR (a.tdiv b) ∧ InR (a.tdiv b * b) ∧ InR (a - a.tdiv b * b) ∧ (a - a.tdiv b * b < 0 ↔ (a < 0 ∧ a - a.tdiv b * b ≠ 0)) ∧ (a - a.tdiv b * b).natAbs < b.natAbs := by
  have h1 := ha.1; have h2 := ha.2; have h3 := hb.1; have h4 := hb.2
  have e : a - a.tdiv b * b = a.tmod b := by rw [Int.tmod_def, Int.mul_comm]
  have hq := tdiv_in ha h0 hm
  have ht : (a.tmod b).natAbs < b.natAbs := by rw [Int.natAbs_tmod]; exact Nat.mod_lt _ (by omega)
  have hs : a.tmod b < 0 ↔ (a < 0 ∧ a.tmod b ≠ 0) := by
    constructor
    · intro h
      refine ⟨?_, by omega⟩
      apply Decidable.byContradiction; intro hn
      have := Int.tmod_nonneg b (show 0 ≤ a by omega)
      omega
    · rintro ⟨hn, hz⟩
      have := Int.tmod_nonneg b (show 0 ≤ -a by omega)
      rw [Int.neg_tmod] at this
      omega
  have hle : (a.tmod b).natAbs ≤ a.natAbs := by rw [Int.natAbs_tmod]; exact Nat.mod_le _ _
  refine ⟨hq, ?_, ?_, ?_, ?_⟩
  · have : a.tdiv b * b = a - a.tmod b := by omega
    rw [this]
    by_cases hn : a < 0
    · have : a.tmod b ≤ 0 := by
        apply Decidable.byContradiction; intro q
        have := hs.2 ⟨hn, by omega⟩
        omega
      exact ⟨by omega, by omega⟩
    · have := Int.tmod_nonneg b (show 0 ≤ a by omega)
      exact ⟨by omega, by omega⟩
  · rw [e]; exact ⟨by omega, by omega⟩
  · rw [e]; exact hs
  · rw [e]; exact ht
end Go.Proofs.Ytekldpghidmeaaa
