/- Package keycode: Decode's deferred closure. -/
import Derived.Test.YtinkmcbcfdlnjaaDecV
namespace Go.Proofs.Ytinkmcbcfdlnjaa
open Go.RowKit
set_option linter.unusedVariables false
set_option linter.unusedSimpArgs false
theorem assert_err (c : Int) (w : World) : (Instr.typeAssert (Value.iface 24 (.int .i64 c)) 20 24 true).run Try.prog w = .ok (.tuple #[.int .i64 c, .bool true]) w := by kernel_rfl
theorem assert_nil (w : World) : (Instr.typeAssert .nilIface 20 24 true).run Try.prog w = .ok (.tuple #[.int .i64 0, .bool false]) w := by kernel_rfl
set_option maxRecDepth 100000 in
theorem catch_panicking (l e : Addr) (x : Value) (y c : Int) (w : World) (hne : ¬ l = e) (hl : w.cell? l = some x) (he : w.cell? e = some (.int .i64 y)) (hfl : w.frozen? l = false) (hfe : w.frozen? e = false) :
    CallsD Try.prog 22 #[.pointer (some l), .pointer (some e)] (.panicking (pan c)) w fun r u' w' =>
      r = .returned (.tuple #[]) ∧ u' = .panicking [{ v := Value.iface 24 (Value.int IntKind.i64 c), recovered := true }] ∧ w' = (w.setCell l (.slice none 0 0)).setCell e (.int .i64 c) := by
  refine callsD_of_wpS Try.func22 rfl fun c₀ cs hu => ?_
  apply wpS_seq
  apply wpS_region
  simp [wpOpsS, assert_err, assert_nil, go_sem, recoverD, hu, Try.ntmps22, Exit.thenS]
  refine wpS_of_wp ?_
  simp only [Array.replicate, List.replicate, List.size_toArray, Array.setIfInBounds, List.length_cons, List.length_nil, Nat.reduceAdd, Nat.reduceLT, dite_true, List.setIfInBounds_toArray, List.set_toArray, List.set_cons_succ, List.set_cons_zero, List.append_toArray, List.cons_append, List.nil_append]
  go_wp2
  simp [bodyPostS, results, Try.results22, go_sem]
set_option maxRecDepth 100000 in
theorem catch_idle (l e : Addr) (w : World) :
    CallsD Try.prog 22 #[.pointer (some l), .pointer (some e)] .returning w fun r u' w' => r = .returned (.tuple #[]) ∧ u' = .returning ∧ w' = w := by
  refine callsD_of_wpS Try.func22 rfl fun c₀ cs hu => ?_
  apply wpS_seq
  apply wpS_region
  simp [wpOpsS, assert_err, assert_nil, go_sem, recoverD, hu, Try.ntmps22, Exit.thenS]
  refine wpS_of_wp ?_
  simp only [Array.replicate, List.replicate, List.size_toArray, Array.setIfInBounds, List.length_cons, List.length_nil, Nat.reduceAdd, Nat.reduceLT, dite_true, List.setIfInBounds_toArray, List.set_toArray, List.set_cons_succ, List.set_cons_zero, List.append_toArray, List.cons_append, List.nil_append]
  go_wp2
  cases c₀
  simp_all [bodyPostS, results, Try.results22, go_sem]
end Go.Proofs.Ytinkmcbcfdlnjaa
