/- The laws of layer 8: the example. -/
import Derived.Test.YtbhajjinlbadhaaFoldW
import Derived.Test.YtbhajjinlbadhaaEvA
namespace Go.Proofs.Ytbhajjinlbadhaa
open Go.RowKit
open Go.Shelf
set_option linter.unusedVariables false
set_option linter.unusedSimpArgs false
attribute [local go_sem high] eqVal
theorem num08_any (a : Int) (w : World) : Calls Try.prog 8 #[.int .i64 a] w fun e w' => e = .returned (.int .i64 a) ∧ w = w' := by
  go_enter Try.func8, Try.ntmps8
  go_wp2
  go_ret
  exact ⟨rfl, rfl⟩
theorem number_any (n : Int) (w : World) : Calls Try.prog 17 #[.int .i64 n] w fun e w' => e = .returned (.agg #[.int .i64 0, .int .i64 1, .int .i64 n, .string ⟨#[]⟩, .string ⟨#[]⟩, .string ⟨#[]⟩, .slice none 0 0]) ∧ Below w.heap.size w w' := by
  go_enter Try.func17, Try.ntmps17
  go_wp2
  exact bodyPost_ret (v := .agg #[.int .i64 0, .int .i64 1, .int .i64 n, .string ⟨#[]⟩, .string ⟨#[]⟩, .string ⟨#[]⟩, .slice none 0 0]) (by simp [results, Try.results17, go_sem]) rfl ⟨rfl, (by (repeat (first | (with_reducible exact Below.refl _ _) | apply below_alloc _ (Nat.le_refl _) | refine below_set ?_ (by first | exact Nat.le_refl _ | omega) | apply below_drewN | refine below_step ?_ HB)))⟩
theorem Box.take {w : World} {b : Nat} {vs us : List Value} (h : Box w b (vs ++ us)) : Box w b vs :=
  ⟨fun i v hv => h.c i v (by rw [List.getElem?_append_left (List.getElem?_eq_some_iff.1 hv).1]; exact hv), fun i hi => h.f i (by rw [List.length_append]; omega), h.lt⟩
set_option maxHeartbeats 4000000 in
set_option maxRecDepth 100000 in
theorem alive_any (w : World) : Calls Try.prog 6 #[] w fun e w' => e = .returned (.bool true) ∧ Below w.heap.size w w' := by
  go_enter Try.func6, Try.ntmps6
  go_wp2_with fail
  refine (number_any 1 _).mono ?_; rintro e w1 ⟨rfl, h1⟩
  go_wp2_with fail
  refine (number_any 0 _).mono ?_; rintro e w2 ⟨rfl, h2⟩
  have HF := Lib.hid (below_step' h1 h2)
  clear h1 h2
  have BX := Box.new (w2.alloc (.cells #[.int .i64 0, .int .i64 1, .int .i64 1, .string ⟨#[]⟩, .string ⟨#[]⟩, .string ⟨#[]⟩, .slice none 0 0, .int .i64 0, .int .i64 1, .int .i64 0, .string ⟨#[]⟩, .string ⟨#[]⟩, .string ⟨#[]⟩, .slice none 0 0] 26)) #[.int .i64 0, .int .i64 2, .int .i64 0, .string ⟨#[]⟩, .string ⟨#[]⟩, .string ⟨#[]⟩, .slice none 0 0, .int .i64 7, .int .i64 0, .int .i64 0, .string ⟨#[]⟩, .string ⟨#[]⟩, .string ⟨#[]⟩, .slice (some ⟨w2.heap.size, 0, none⟩) 2 2] 26
  simp only [World.size_alloc] at BX
  have hev := Eval_short 14 0 0 ⟨#[]⟩ ⟨#[]⟩ ⟨#[]⟩ (w2.heap.size + 1) none 0 0 _ false (.inl ⟨rfl, rfl⟩) (BX.take (vs := [.int .i64 0, .int .i64 2, .int .i64 0, .string ⟨#[]⟩, .string ⟨#[]⟩, .string ⟨#[]⟩, .slice none 0 0]))
  have hq : (vbool false).n = 0 := rfl
  rw [hq] at hev
  clear BX hq
  go_wp2_with fail
  refine hev.mono ?_; rintro e w3 ⟨rfl, h3⟩
  have HF3 := Lib.hid (((HF.out.alloc HF.out.size _).alloc (by have := HF.out.size; simp; omega) _).trans (h3.mono (by have := HF.out.size; simp; omega)))
  have B1 := Lib.hid (Box.new w3 #[.int .i64 2, .int .i64 0, .string ⟨#[]⟩] 23)
  clear hev h3 HF
  have hz3 := HF3.out.size
  have HR := Lib.hid (RowE.lit encU_len (heap_alloc_new (w3.alloc (.cells #[.int .i64 2, .int .i64 0, .string ⟨#[]⟩] 23)) (.cells #[.int .i64 1, .int .i64 2, .string ⟨#[]⟩, .int .i64 0, .int .i64 0, .string ⟨#[]⟩, .int .i64 1, .int .i64 3, .string ⟨#[]⟩] 23)) (l := sumL) rfl)
  have hfo := foldS_any _ 3 _ HR.out (fun h => by cases h)
  simp only [World.size_alloc] at hfo
  have B1' := Lib.hid (B1.out.alloc (.cells #[.int .i64 1, .int .i64 2, .string ⟨#[]⟩, .int .i64 0, .int .i64 0, .string ⟨#[]⟩, .int .i64 1, .int .i64 3, .string ⟨#[]⟩] 23))
  clear HR B1
  go_wp2_with fail
  refine hfo.mono ?_; rintro e w4 ⟨rfl, h4⟩
  have B14 := Lib.hid ((B1'.out.below h4 (by omega)).alloc (.cells #[.int .i64 1, .int .i64 5, .string ⟨#[]⟩] 23))
  have HF4 := Lib.hid (((HF3.out.alloc hz3 _).alloc (by simp; omega) _).trans (h4.mono (by first | omega | (simp; done) | (simp; omega))))
  have hz4 := HF4.out.size
  have hs1 : sameB 2 0 ⟨#[]⟩ 2 0 ⟨#[]⟩ = true := by simp [sameB]
  have hs2 : sameB 1 5 ⟨#[]⟩ 1 5 ⟨#[]⟩ = true := by simp [sameB]
  clear hfo h4 B1'
  have cB140 := B14.out.c 0 _ rfl; have fB140 := B14.out.f 0 (by simp); have cB141 := B14.out.c 1 _ rfl; have fB141 := B14.out.f 1 (by simp); have cB142 := B14.out.c 2 _ rfl; have fB142 := B14.out.f 2 (by simp); have lB14 := B14.out.lt
  go_wp2_with (refine (num08_any _ _).mono ?_; rintro e wn ⟨rfl, rfl⟩)
  go_ret
  exact ⟨rfl, HF4.out.alloc hz4 _⟩
end Go.Proofs.Ytbhajjinlbadhaa
