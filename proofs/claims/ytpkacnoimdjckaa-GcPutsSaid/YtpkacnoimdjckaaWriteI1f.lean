/- Package version: Write, where a new version comes ahead of the others: 1f. -/
import Derived.Test.YtpkacnoimdjckaaWriteI
namespace Go.Proofs.Ytpkacnoimdjckaa
open Go.RowKit
open Go.Shelf
set_option linter.unusedVariables false
set_option linter.unusedSimpArgs false
set_option maxHeartbeats 4000000 in
set_option maxRecDepth 100000 in
theorem write_ins1f (A : Option Addr) (c : Nat) (st tx' : Int) (g : Bool) (val' : ByteArray) (m : List Ver) (snap tx : Int) (val : ByteArray) (w : World) (HR : RowE encVer 4 w A (⟨st, tx', g, val'⟩ :: m)) (hn : A = none → c = 0)
    (k0 : chk (⟨st, tx', g, val'⟩ :: m) = 0) (k1a : ¬ tx < 1) (k1b : ¬ (1099511627776 : Int) < tx) (k2 : ¬ ((4096 : Int) < val.size ∨ (false = true ∧ val.toList.isEmpty = false))) (k3b : openB tx (⟨st, tx', g, val'⟩ :: m) = false) (k4b : clash snap (⟨st, tx', g, val'⟩ :: m) = false) (k5 : ¬ (⟨st, tx', g, val'⟩ :: m).length = 64) :
    Calls Try.prog 27 #[.slice A (⟨st, tx', g, val'⟩ :: m).length c, .int .i64 snap, .int .i64 tx, .bool false, .string val] w fun e w' => ∃ v, e = .returned (.tuple #[v, .int .i64 (write snap tx false val (⟨st, tx', g, val'⟩ :: m)).2]) ∧ SlV w.heap.size w' v (write snap tx false val (⟨st, tx', g, val'⟩ :: m)).1 ∧ Below w.heap.size w w' := by
  have hc := check_any A c (⟨st, tx', g, val'⟩ :: m) w HR
  have hlen := chk_len k0
  have e : write snap tx false val (⟨st, tx', g, val'⟩ :: m) = (⟨0, tx, false, val⟩ :: (⟨st, tx', g, val'⟩ :: m), 0) := by unfold write; rw [if_neg (by simp [k0]), if_neg (by omega), if_neg k2, if_neg (by simp [k3b]), if_neg (by simp [k4b]), if_neg k5]
  have E := Lib.hid e
  rw [k0] at hc
  clear e
  have k2a : ¬ (4096 : Int) < val.size := fun h => k2 (.inl h)
  have k5' : ¬ (((⟨st, tx', g, val'⟩ :: m).length : Int) = 64) := by omega
  have hop := fun (W : World) (h : Below w.heap.size w W) => open_any A c (⟨st, tx', g, val'⟩ :: m) tx W (HR.below h)
  rw [k3b] at hop
  have HOP := Lib.hid hop
  clear k2 hop k3b k5 k0
  have k6 : ¬ st = 0 ∧ st ≤ snap := by simpa [clash] using k4b
  have k6b : (st == 0) = false := by simpa using k6.1
  have k7 : ¬ snap < st := by omega
  go_enter Try.func27, Try.ntmps27
  go_wp2_with (go_at_call 41; refine hc.mono ?_; rintro e w1 ⟨rfl, h1⟩)
  have hba := h1.alloc h1.size (.cells #[.int .i64 0, .int .i64 tx, .bool false, .string val] 45)
  refine (HOP.out _ hba).mono ?_; rintro e w2 ⟨rfl, rfl⟩
  obtain ⟨b0, off, rfl, hb0, g0, g1, g2, g3⟩ := HR.four (j := 0) (x := ⟨st, tx', g, val'⟩) (B := 0) rfl hba
  simp only [Nat.zero_mul, Nat.add_zero] at g0 g1 g2 g3
  have hlp : (0 : Int) < (m.length : Int) + 1 := by omega
  have h64 : ¬ ((m.length : Int) + 1 = 64) := by simp at k5'; omega
  go_wp2_with fail
  have HRW := HR.below hba
  have bx : (w1.alloc (.cells #[.int .i64 0, .int .i64 tx, .bool false, .string val] 45)).heap[w1.heap.size]? = some (.cells #[.int .i64 0, .int .i64 tx, .bool false, .string val] 45 (0, 0)) := heap_alloc_new w1 _
  have bl : w1.heap.size < (w1.alloc (.cells #[.int .i64 0, .int .i64 tx, .bool false, .string val] 45)).heap.size := by simp
  clear g0 g1 g2 g3
  generalize (w1.alloc (.cells #[.int .i64 0, .int .i64 tx, .bool false, .string val] 45)) = W at *
  have HW : Below W.heap.size W W := Below.refl _ _
  have q0 : W.cell? ⟨w1.heap.size, 0, none⟩ = some (.int .i64 0) := by rw [Lib.cell_of_heap bx]; rfl
  have q1 : W.cell? ⟨w1.heap.size, 1, none⟩ = some (.int .i64 tx) := by rw [Lib.cell_of_heap bx]; rfl
  have q2 : W.cell? ⟨w1.heap.size, 2, none⟩ = some (.bool false) := by rw [Lib.cell_of_heap bx]; rfl
  have q3 : W.cell? ⟨w1.heap.size, 3, none⟩ = some (.string val) := by rw [Lib.cell_of_heap bx]; rfl
  generalize w1.heap.size = Q at *
  have CL := Lib.hid (clone_from _ c (⟨st, tx', g, val'⟩ :: m) W HRW hn (by omega))
  clear bx h1 HRW hn HOP
  go_region_with (first
    | (go_at_call 48; refine (CL.out W.drew (below_drew' HW)).mono ?_; rintro e wn ⟨v, rfl, hownA, hbb, hlt, HN⟩
       replace q0 := (hbb.cell (by simp <;> omega)).trans (show _ = _ from q0)
       replace q1 := (hbb.cell (by simp <;> omega)).trans (show _ = _ from q1)
       replace q2 := (hbb.cell (by simp <;> omega)).trans (show _ = _ from q2)
       replace q3 := (hbb.cell (by simp <;> omega)).trans (show _ = _ from q3))
    | (go_at_call 48; refine (CL.out (W.alloc (.cells #[.int .i64 0, .int .i64 tx, .bool false, .string val] 45)).drew (below_drew' (below_alloc HW (Nat.le_refl _) _))).mono ?_; rintro e wn ⟨v, rfl, hownB, hbb, hlt, HN⟩)
    | (go_at_call 52; refine (insert_any W.heap.size wn.heap.size v (⟨st, tx', g, val'⟩ :: m) ⟨0, tx, false, val⟩ (wn.alloc (.cells #[.int .i64 0, .int .i64 tx, .bool false, .string val] 45)) (by omega) (hownA.alloc _) (heap_alloc_new wn _) (by intro e; have := (hlt _ e).2; omega) (by have := HN.size; simp; omega)).mono ?_
       rintro e wm ⟨v', rfl, hown', hb'⟩
       have HZ : Below W.heap.size W wm := (HN.alloc HN.size _).trans hb')
    | (go_at_call 52; refine (insert_any W.heap.size W.heap.size v (⟨st, tx', g, val'⟩ :: m) ⟨0, tx, false, val⟩ wn (by omega) hownB (by exact (hbb.block W.heap.size (by simp)).trans (heap_alloc_new W _)) (by intro e; have := (hlt _ e).1; simp at this; omega) (by exact HN.size)).mono ?_
       rintro e wm ⟨v', rfl, hown', hb'⟩
       have HZ : Below W.heap.size W wm := HN.trans hb'))
  all_goals
    go_wp2
    go_ret2
    rw [E.out]
    exact ⟨_, rfl, (SlV.of_own hown').mono hba.size, hba.trans (HZ.mono hba.size)⟩
end Go.Proofs.Ytpkacnoimdjckaa
