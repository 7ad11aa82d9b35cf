/- Walks of the laws of layer 1: what is reckoned. -/
import Derived.Test.YtekldpghidmeaaaAlive
import Derived.Test.YtekldpghidmeaaaRef1c
namespace Go.Proofs.Ytekldpghidmeaaa
open Go.RowKit
set_option linter.unusedVariables false
set_option linter.unusedSimpArgs false
attribute [local go_sem high] eqVal
set_option maxRecDepth 100000 in
set_option maxHeartbeats 4000000 in
theorem reckons_any (op k n : Int) (s : ByteArray) (k' n' : Int) (s' : ByteArray) (w : World) (hn : InR n) (hn' : InR n') :
    Calls Try.prog 8 #[.int .i64 op, .agg #[.int .i64 k, .int .i64 n, .string s], .agg #[.int .i64 k', .int .i64 n', .string s']] w fun e w' => e = .returned (.bool true) ∧ Below w.heap.size w w' := by
  have HF := Below.refl w.heap.size w
  have c1 := fun W => Reckon_any op k n s k' n' s' W hn hn'
  have c2 := fun W => rReckon_any op k n s k' n' s' W hn hn'
  have c3 := fun W => neg_any k n s W hn
  have c4 := fun W => rneg_any k n s W hn
  generalize vreckon op ⟨k, n, s⟩ ⟨k', n', s'⟩ = R at *
  generalize vneg ⟨k, n, s⟩ = Q at *
  obtain ⟨⟨rk, rn, rs⟩, re⟩ := R
  obtain ⟨⟨qk, qn, qs⟩, qe⟩ := Q
  dsimp only at c1 c2 c3 c4
  have C1 := Lib.hid c1
  have C2 := Lib.hid c2
  have C3 := Lib.hid c3
  have C4 := Lib.hid c4
  clear c1 c2 c3 c4
  go_enter Try.func8, Try.ntmps8
  go_wp2_with fail
  refine (C1.out _).mono ?_; rintro e w1 ⟨rfl, h⟩
  have qa0 : w1.cell? ⟨w.heap.size, 0, none⟩ = some (.int .i64 k) := (h.cell (by simp <;> omega)).trans (by go_simp)
  have qa1 : w1.cell? ⟨w.heap.size, 1, none⟩ = some (.int .i64 n) := (h.cell (by simp <;> omega)).trans (by go_simp)
  have qa2 : w1.cell? ⟨w.heap.size, 2, none⟩ = some (.string s) := (h.cell (by simp <;> omega)).trans (by go_simp)
  have la : w.heap.size < w1.heap.size := Nat.lt_of_lt_of_le (by simp <;> omega) h.size
  have qb0 : w1.cell? ⟨w.heap.size + 1, 0, none⟩ = some (.int .i64 k') := (h.cell (by simp <;> omega)).trans (by go_simp)
  have qb1 : w1.cell? ⟨w.heap.size + 1, 1, none⟩ = some (.int .i64 n') := (h.cell (by simp <;> omega)).trans (by go_simp)
  have qb2 : w1.cell? ⟨w.heap.size + 1, 2, none⟩ = some (.string s') := (h.cell (by simp <;> omega)).trans (by go_simp)
  have lb : w.heap.size + 1 < w1.heap.size := Nat.lt_of_lt_of_le (by simp <;> omega) h.size
  have hh : Below w.heap.size w w1 := below_step (by repeat (first | (with_reducible exact Below.refl _ _) | apply below_alloc _ (Nat.le_refl _))) h
  replace HF := below_step HF hh
  clear h hh
  go_wp2_with fail
  refine (C2.out _).mono ?_; rintro e w2 ⟨rfl, h⟩
  have qx0 : w2.cell? ⟨w1.heap.size, 0, none⟩ = some (.int .i64 rk) := (h.cell (by simp <;> omega)).trans (by go_simp)
  have qx1 : w2.cell? ⟨w1.heap.size, 1, none⟩ = some (.int .i64 rn) := (h.cell (by simp <;> omega)).trans (by go_simp)
  have qx2 : w2.cell? ⟨w1.heap.size, 2, none⟩ = some (.string rs) := (h.cell (by simp <;> omega)).trans (by go_simp)
  have lx : w1.heap.size < w2.heap.size := Nat.lt_of_lt_of_le (by simp <;> omega) h.size
  have hh : Below w1.heap.size w1 w2 := below_step (by repeat (first | (with_reducible exact Below.refl _ _) | apply below_alloc _ (Nat.le_refl _))) h
  replace qa0 := (hh.cell (World.block_lt_of_cell? _ _ qa0)).trans qa0
  replace qa1 := (hh.cell (World.block_lt_of_cell? _ _ qa1)).trans qa1
  replace qa2 := (hh.cell (World.block_lt_of_cell? _ _ qa2)).trans qa2
  replace la := Nat.lt_of_lt_of_le la hh.size
  replace qb0 := (hh.cell (World.block_lt_of_cell? _ _ qb0)).trans qb0
  replace qb1 := (hh.cell (World.block_lt_of_cell? _ _ qb1)).trans qb1
  replace qb2 := (hh.cell (World.block_lt_of_cell? _ _ qb2)).trans qb2
  replace lb := Nat.lt_of_lt_of_le lb hh.size
  replace HF := below_step HF hh
  clear h hh
  go_wp2_with fail

  refine (C3.out _).mono ?_; rintro e w3 ⟨rfl, h⟩
  have qy0 : w3.cell? ⟨w2.heap.size, 0, none⟩ = some (.int .i64 rk) := (h.cell (by simp <;> omega)).trans (by go_simp)
  have qy1 : w3.cell? ⟨w2.heap.size, 1, none⟩ = some (.int .i64 rn) := (h.cell (by simp <;> omega)).trans (by go_simp)
  have qy2 : w3.cell? ⟨w2.heap.size, 2, none⟩ = some (.string rs) := (h.cell (by simp <;> omega)).trans (by go_simp)
  have ly : w2.heap.size < w3.heap.size := Nat.lt_of_lt_of_le (by simp <;> omega) h.size
  have hh : Below w2.heap.size w2 w3 := below_step (by repeat (first | (with_reducible exact Below.refl _ _) | apply below_alloc _ (Nat.le_refl _))) h
  replace qa0 := (hh.cell (World.block_lt_of_cell? _ _ qa0)).trans qa0
  replace qa1 := (hh.cell (World.block_lt_of_cell? _ _ qa1)).trans qa1
  replace qa2 := (hh.cell (World.block_lt_of_cell? _ _ qa2)).trans qa2
  replace la := Nat.lt_of_lt_of_le la hh.size
  replace qb0 := (hh.cell (World.block_lt_of_cell? _ _ qb0)).trans qb0
  replace qb1 := (hh.cell (World.block_lt_of_cell? _ _ qb1)).trans qb1
  replace qb2 := (hh.cell (World.block_lt_of_cell? _ _ qb2)).trans qb2
  replace lb := Nat.lt_of_lt_of_le lb hh.size
  replace qx0 := (hh.cell (World.block_lt_of_cell? _ _ qx0)).trans qx0
  replace qx1 := (hh.cell (World.block_lt_of_cell? _ _ qx1)).trans qx1
  replace qx2 := (hh.cell (World.block_lt_of_cell? _ _ qx2)).trans qx2
  replace lx := Nat.lt_of_lt_of_le lx hh.size
  replace HF := below_step HF hh
  clear h hh
  go_wp2_with fail
  refine (C4.out _).mono ?_; rintro e w4 ⟨rfl, h⟩
  have qp0 : w4.cell? ⟨w3.heap.size, 0, none⟩ = some (.int .i64 qk) := (h.cell (by simp <;> omega)).trans (by go_simp)
  have qp1 : w4.cell? ⟨w3.heap.size, 1, none⟩ = some (.int .i64 qn) := (h.cell (by simp <;> omega)).trans (by go_simp)
  have qp2 : w4.cell? ⟨w3.heap.size, 2, none⟩ = some (.string qs) := (h.cell (by simp <;> omega)).trans (by go_simp)
  have lp : w3.heap.size < w4.heap.size := Nat.lt_of_lt_of_le (by simp <;> omega) h.size
  have hh : Below w3.heap.size w3 w4 := below_step (by repeat (first | (with_reducible exact Below.refl _ _) | apply below_alloc _ (Nat.le_refl _))) h
  replace qa0 := (hh.cell (World.block_lt_of_cell? _ _ qa0)).trans qa0
  replace qa1 := (hh.cell (World.block_lt_of_cell? _ _ qa1)).trans qa1
  replace qa2 := (hh.cell (World.block_lt_of_cell? _ _ qa2)).trans qa2
  replace la := Nat.lt_of_lt_of_le la hh.size
  replace qb0 := (hh.cell (World.block_lt_of_cell? _ _ qb0)).trans qb0
  replace qb1 := (hh.cell (World.block_lt_of_cell? _ _ qb1)).trans qb1
  replace qb2 := (hh.cell (World.block_lt_of_cell? _ _ qb2)).trans qb2
  replace lb := Nat.lt_of_lt_of_le lb hh.size
  replace qx0 := (hh.cell (World.block_lt_of_cell? _ _ qx0)).trans qx0
  replace qx1 := (hh.cell (World.block_lt_of_cell? _ _ qx1)).trans qx1
  replace qx2 := (hh.cell (World.block_lt_of_cell? _ _ qx2)).trans qx2
  replace lx := Nat.lt_of_lt_of_le lx hh.size
  replace qy0 := (hh.cell (World.block_lt_of_cell? _ _ qy0)).trans qy0
  replace qy1 := (hh.cell (World.block_lt_of_cell? _ _ qy1)).trans qy1
  replace qy2 := (hh.cell (World.block_lt_of_cell? _ _ qy2)).trans qy2
  replace ly := Nat.lt_of_lt_of_le ly hh.size
  replace HF := below_step HF hh
  clear h hh

  have t1 : sameB rk rn rs rk rn rs = true := by simp [sameB]
  have t2 : sameB qk qn qs qk qn qs = true := by simp [sameB]
  go_wp2_with (go_at_call 12; refine (num_any _ _).mono ?_; rintro e w' ⟨rfl, rfl⟩)
  refine (alive_any _).mono ?_; rintro e w5 ⟨rfl, h⟩
  have hh : Below w4.heap.size w4 w5 := below_step (by repeat (first | (with_reducible exact Below.refl _ _) | apply below_alloc _ (Nat.le_refl _))) h
  replace HF := below_step HF hh
  clear h hh
  go_wp2
  go_ret
  exact ⟨by rfl, HF⟩
end Go.Proofs.Ytekldpghidmeaaa
