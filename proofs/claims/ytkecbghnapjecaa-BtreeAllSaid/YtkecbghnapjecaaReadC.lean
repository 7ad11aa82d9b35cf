/- Package btree: read's deferred closure; panics lifted over a region that draws its order. -/
import Derived.Test.YtkecbghnapjecaaWithW
namespace Go.Proofs.Ytkecbghnapjecaa
open Go.RowKit
set_option linter.unusedVariables false
set_option linter.unusedSimpArgs false
theorem assert_err (c : Int) (w : World) : (Instr.typeAssert (Value.iface 29 (.int .i64 c)) 20 29 true).run Try.prog w = .ok (.tuple #[.int .i64 c, .bool true]) w := by kernel_rfl
theorem assert_nil (w : World) : (Instr.typeAssert .nilIface 20 29 true).run Try.prog w = .ok (.tuple #[.int .i64 0, .bool false]) w := by kernel_rfl
set_option maxRecDepth 100000 in
theorem catch_panicking (l d p e : Addr) (x y z : Value) (y0 c : Int) (w : World) (h1 : ¬ l = d) (h2 : ¬ l = p) (h3 : ¬ l = e) (h4 : ¬ d = p) (h5 : ¬ d = e) (h6 : ¬ p = e) (hl : w.cell? l = some x) (hd : w.cell? d = some y) (hp : w.cell? p = some z) (he : w.cell? e = some (.int .i64 y0)) (hfl : w.frozen? l = false) (hfd : w.frozen? d = false) (hfp : w.frozen? p = false) (hfe : w.frozen? e = false)
    (ho1 : x.oneCell' = true) (ho2 : y.oneCell' = true) (ho3 : z.oneCell' = true) :
    CallsD Try.prog 41 #[.pointer (some l), .pointer (some d), .pointer (some p), .pointer (some e)] (.panicking (pan c)) w fun r u' w' =>
      r = .returned (.tuple #[]) ∧ u' = .panicking [{ v := Value.iface 29 (Value.int IntKind.i64 c), recovered := true }] ∧ w' = (((w.setCell l (.pointer none)).setCell d (.int .i64 0)).setCell p (.int .i64 0)).setCell e (.int .i64 c) := by
  have h1' : ¬ d = l := fun h => h1 h.symm
  have h2' : ¬ p = l := fun h => h2 h.symm
  have h3' : ¬ e = l := fun h => h3 h.symm
  have h4' : ¬ p = d := fun h => h4 h.symm
  have h5' : ¬ e = d := fun h => h5 h.symm
  have h6' : ¬ e = p := fun h => h6 h.symm
  refine callsD_of_wpS Try.func41 rfl fun c₀ cs hu => ?_
  apply wpS_seq
  apply wpS_region
  simp [wpOpsS, assert_err, assert_nil, go_sem, recoverD, hu, Try.ntmps41, Exit.thenS]
  refine wpS_of_wp ?_
  simp only [Array.replicate, List.replicate, List.size_toArray, Array.setIfInBounds, List.length_cons, List.length_nil, Nat.reduceAdd, Nat.reduceLT, dite_true, List.setIfInBounds_toArray, List.set_toArray, List.set_cons_succ, List.set_cons_zero, List.append_toArray, List.cons_append, List.nil_append]
  go_wp2
  simp [bodyPostS, results, Try.results41, go_sem]
set_option maxRecDepth 100000 in
theorem catch_idle (l d p e : Addr) (w : World) :
    CallsD Try.prog 41 #[.pointer (some l), .pointer (some d), .pointer (some p), .pointer (some e)] .returning w fun r u' w' => r = .returned (.tuple #[]) ∧ u' = .returning ∧ w' = w := by
  refine callsD_of_wpS Try.func41 rfl fun c₀ cs hu => ?_
  apply wpS_seq
  apply wpS_region
  simp [wpOpsS, assert_err, assert_nil, go_sem, recoverD, hu, Try.ntmps41, Exit.thenS]
  refine wpS_of_wp ?_
  simp only [Array.replicate, List.replicate, List.size_toArray, Array.setIfInBounds, List.length_cons, List.length_nil, Nat.reduceAdd, Nat.reduceLT, dite_true, List.setIfInBounds_toArray, List.set_toArray, List.set_cons_succ, List.set_cons_zero, List.append_toArray, List.cons_append, List.nil_append]
  go_wp2
  cases c₀
  simp_all [bodyPostS, results, Try.results41, go_sem]
/-- Behind a panic all temporaries may be other ones, but for the first six. -/
def lift (Q : Exit → Act → World → Prop) (e : Exit) (a : Act) (w : World) : Prop :=
  match e with
  | .panic c => ∀ a' : Act, a'.defers = a.defers → (∀ i, i < 6 → a'.tmps[i]? = a.tmps[i]?) → Q (.panic c) a' w
  | e => Q e a w
theorem lift_put {Q : Exit → Act → World → Prop} {c : List PanicEntry} {a : Act} {w : World} {d : Nat} {v : Value} (h2 : 6 ≤ d) (h : lift Q (.panic c) (a.put (some d) v) w) : lift Q (.panic c) a w := fun a' hd q =>
  h a' hd (fun i hi => (q i hi).trans (by simp [Act.put, Array.getElem?_setIfInBounds]; omega))
theorem lift_normal {Q : Exit → Act → World → Prop} {a : Act} {w : World} (h : Q .normal a w) : lift Q .normal a w := h
theorem wp_lift {P : Program} {c : Code} {Q : Exit → Act → World → Prop} {a : Act} {w : World} (h : c.wp P (lift Q) a w) : c.wp P Q a w :=
  Code.wp_mono (fun e a w h => by cases e <;> first | exact h | exact h a rfl (fun _ _ => rfl)) h
end Go.Proofs.Ytkecbghnapjecaa
