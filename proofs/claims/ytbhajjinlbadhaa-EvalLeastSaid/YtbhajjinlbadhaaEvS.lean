/- Package eval: and, or that are told by what is ahead. -/
import Derived.Test.YtbhajjinlbadhaaVal2
import Derived.Test.YtbhajjinlbadhaaBox
import Derived.Test.YtbhajjinlbadhaaLater
import Derived.Test.YtbhajjinlbadhaaStep
import Derived.Lib.Walk
import Derived.Lib.Hide
namespace Go.Proofs.Ytbhajjinlbadhaa
open Go.RowKit
set_option linter.unusedVariables false
set_option linter.unusedSimpArgs false
attribute [local go_sem high] eqVal
def encU (v : V) : List Value := [.int .i64 v.k, .int .i64 v.n, .string v.s]
theorem encU_len (x : V) : (encU x).length = 3 := rfl
theorem encU_one : ∀ (l : List V), ∀ u ∈ l.flatMap encU, u.oneCell' = true := fun l u hu => by
  obtain ⟨x, _, hx⟩ := List.mem_flatMap.1 hu
  simp [encU] at hx
  rcases hx with rfl | rfl | rfl <;> rfl
theorem infoU : ∃ i0, Try.prog.info? 23 = some i0 ∧ i0.zero = some (.agg #[.int .i64 0, .int .i64 0, .string ⟨#[]⟩]) ∧ i0.size = 3 ∧ i0.bytes = 32 :=
  info_parts (show (Try.prog.info? 23).map (fun i => (i.zero, i.size, i.bytes)) = some (some (.agg #[.int .i64 0, .int .i64 0, .string ⟨#[]⟩]), 3, 32) by kernel_rfl)
theorem syn_lit (w : World) : Calls Try.prog 38 #[.int .i64 0] w fun e w' => e = .returned (.tuple #[.int .i64 0, .bool true]) ∧ w = w' := by
  go_enter Try.func38, Try.ntmps38
  go_wp2
  go_ret2
  exact ⟨rfl, rfl⟩
theorem syn_two (op : Int) (h : op = 14 ∨ op = 15) (w : World) : Calls Try.prog 38 #[.int .i64 op] w fun e w' => e = .returned (.tuple #[.int .i64 2, .bool true]) ∧ w = w' := by
  rcases h with rfl | rfl
  all_goals
    go_enter Try.func38, Try.ntmps38
    go_wp2
    go_ret2
    exact ⟨rfl, rfl⟩
set_option maxHeartbeats 2000000 in
set_option maxRecDepth 100000 in
theorem eval_lit (v : V) (t nm : ByteArray) (A : Option Addr) (n c : Nat) (lv : Int) (hlv : lv ≤ 12) (w : World) :
    Calls Try.prog 18 #[.agg #[.int .i64 0, .int .i64 v.k, .int .i64 v.n, .string v.s, .string t, .string nm, .slice none 0 0], .slice A n c, .int .i64 lv] w fun e w' => e = .returned (.tuple #[.agg #[.int .i64 v.k, .int .i64 v.n, .string v.s], .int .i64 0]) ∧ Below w.heap.size w w' := by
  obtain ⟨k, m, s⟩ := v
  dsimp only
  go_enter Try.func18, Try.ntmps18
  go_wp2_with (refine (syn_lit _).mono ?_; rintro e w' ⟨rfl, rfl⟩)
  exact bodyPost_ret (v := .tuple #[.agg #[.int .i64 k, .int .i64 m, .string s], .int .i64 0]) (by simp [results, Try.results18, go_sem]) rfl ⟨rfl, by repeat first | (with_reducible exact Below.refl _ _) | (with_reducible refine Below.setCell ?_ (by first | (simp; done) | (simp; omega)) _) | (with_reducible refine Below.alloc ?_ (by first | (simp; done) | (simp; omega)) _)⟩
end Go.Proofs.Ytbhajjinlbadhaa
