/- The law EvalShort: its walk. -/
import Derived.Test.YtbhajjinlbadhaaAliveE
namespace Go.Proofs.Ytbhajjinlbadhaa
open Go.RowKit
open Go.Shelf
set_option linter.unusedVariables false
set_option linter.unusedSimpArgs false
attribute [local go_sem high] eqVal
set_option maxHeartbeats 4000000 in
set_option maxRecDepth 100000 in
theorem short_law (op k n : Int) (s t nm : ByteArray) (Aa : Option Addr) (na ca : Nat) (A : Option Addr) (m c : Nat) (w : World) :
    Calls Try.prog 3 #[.agg #[.int .i64 op, .int .i64 k, .int .i64 n, .string s, .string t, .string nm, .slice Aa na ca], .slice A m c] w fun e w' => e = .returned (.bool true) ∧ Below w.heap.size w w' := by
  have BE := Lib.hid (Box.new w #[.int .i64 op, .int .i64 k, .int .i64 n, .string s, .string t, .string nm, .slice Aa na ca] 26)
  have HF := Lib.hid ((Below.refl w.heap.size w).alloc (Nat.le_refl _) (.cells #[.int .i64 op, .int .i64 k, .int .i64 n, .string s, .string t, .string nm, .slice Aa na ca] 26))
  go_enter Try.func3, Try.ntmps3
  go_wp2_with fail
  refine (alive_any _).mono ?_; rintro e w1 ⟨rfl, h1⟩
  replace BE := Lib.hid (BE.out.step h1)
  replace HF := Lib.hid (below_step' HF.out h1)
  clear h1
  have hz1 := HF.out.size
  have BX := Box.new w1 #[.int .i64 0, .int .i64 2, .int .i64 0, .string ⟨#[]⟩, .string ⟨#[]⟩, .string ⟨#[]⟩, .slice none 0 0, .int .i64 op, .int .i64 k, .int .i64 n, .string s, .string t, .string nm, .slice Aa na ca] 26
  have hev := Eval_short 14 0 0 ⟨#[]⟩ ⟨#[]⟩ ⟨#[]⟩ w1.heap.size A m c _ false (.inl ⟨rfl, rfl⟩) (BX.take (vs := [.int .i64 0, .int .i64 2, .int .i64 0, .string ⟨#[]⟩, .string ⟨#[]⟩, .string ⟨#[]⟩, .slice none 0 0]))
  have hq : (vbool false).n = 0 := rfl
  rw [hq] at hev
  clear BX hq
  have BE1 := Lib.hid (BE.out.alloc (.cells #[.int .i64 0, .int .i64 2, .int .i64 0, .string ⟨#[]⟩, .string ⟨#[]⟩, .string ⟨#[]⟩, .slice none 0 0, .int .i64 op, .int .i64 k, .int .i64 n, .string s, .string t, .string nm, .slice Aa na ca] 26))
  have cBE0 := BE.out.c 0 _ rfl; have fBE0 := BE.out.f 0 (by simp); have cBE1 := BE.out.c 1 _ rfl; have fBE1 := BE.out.f 1 (by simp); have cBE2 := BE.out.c 2 _ rfl; have fBE2 := BE.out.f 2 (by simp); have cBE3 := BE.out.c 3 _ rfl; have fBE3 := BE.out.f 3 (by simp); have cBE4 := BE.out.c 4 _ rfl; have fBE4 := BE.out.f 4 (by simp); have cBE5 := BE.out.c 5 _ rfl; have fBE5 := BE.out.f 5 (by simp); have cBE6 := BE.out.c 6 _ rfl; have fBE6 := BE.out.f 6 (by simp); have lBE := BE.out.lt
  go_wp2_with fail
  refine hev.mono ?_; rintro e w2 ⟨rfl, h2⟩
  clear cBE0 fBE0 cBE1 fBE1 cBE2 fBE2 cBE3 fBE3 cBE4 fBE4 cBE5 fBE5 cBE6 fBE6 lBE
  replace BE := Lib.hid ((BE1.out.step h2).alloc (.cells #[.int .i64 2, .int .i64 0, .string ⟨#[]⟩] 23))
  have B5 := Lib.hid (Box.new w2 #[.int .i64 2, .int .i64 0, .string ⟨#[]⟩] 23)
  replace HF := Lib.hid (((HF.out.alloc hz1 _).trans (h2.mono (by simp; omega))).alloc (by have := h2.size; simp at this; omega) (.cells #[.int .i64 2, .int .i64 0, .string ⟨#[]⟩] 23))
  clear hev h2 BE1
  have hz2 := HF.out.size
  go_upto_region 4 with (fail)
  generalize hb5 : w2.heap.size = b5 at *
  clear hb5
  generalize w2.alloc (.cells #[.int .i64 2, .int .i64 0, .string ⟨#[]⟩] 23) = w3 at *
  have BX := Box.new w3 #[.int .i64 0, .int .i64 2, .int .i64 1, .string ⟨#[]⟩, .string ⟨#[]⟩, .string ⟨#[]⟩, .slice none 0 0, .int .i64 op, .int .i64 k, .int .i64 n, .string s, .string t, .string nm, .slice Aa na ca] 26
  have hev := Eval_short 15 0 0 ⟨#[]⟩ ⟨#[]⟩ ⟨#[]⟩ w3.heap.size A m c _ true (.inr ⟨rfl, rfl⟩) (BX.take (vs := [.int .i64 0, .int .i64 2, .int .i64 1, .string ⟨#[]⟩, .string ⟨#[]⟩, .string ⟨#[]⟩, .slice none 0 0]))
  have hq : (vbool true).n = 1 := rfl
  rw [hq] at hev
  clear BX hq
  have B51 := Lib.hid (B5.out.alloc (.cells #[.int .i64 0, .int .i64 2, .int .i64 1, .string ⟨#[]⟩, .string ⟨#[]⟩, .string ⟨#[]⟩, .slice none 0 0, .int .i64 op, .int .i64 k, .int .i64 n, .string s, .string t, .string nm, .slice Aa na ca] 26))
  have cBE0 := BE.out.c 0 _ rfl; have fBE0 := BE.out.f 0 (by simp); have cBE1 := BE.out.c 1 _ rfl; have fBE1 := BE.out.f 1 (by simp); have cBE2 := BE.out.c 2 _ rfl; have fBE2 := BE.out.f 2 (by simp); have cBE3 := BE.out.c 3 _ rfl; have fBE3 := BE.out.f 3 (by simp); have cBE4 := BE.out.c 4 _ rfl; have fBE4 := BE.out.f 4 (by simp); have cBE5 := BE.out.c 5 _ rfl; have fBE5 := BE.out.f 5 (by simp); have cBE6 := BE.out.c 6 _ rfl; have fBE6 := BE.out.f 6 (by simp); have lBE := BE.out.lt
  go_wp2_with fail
  refine hev.mono ?_; rintro e w4 ⟨rfl, h4⟩
  clear cBE0 fBE0 cBE1 fBE1 cBE2 fBE2 cBE3 fBE3 cBE4 fBE4 cBE5 fBE5 cBE6 fBE6 lBE
  have B54 := Lib.hid ((B51.out.step h4).alloc (.cells #[.int .i64 2, .int .i64 1, .string ⟨#[]⟩] 23))
  have HF4 := Lib.hid ((HF.out.alloc hz2 _).trans (h4.mono (by simp; omega)))
  clear hev h4 B5 B51 HF
  have hz4 := HF4.out.size
  have hs1 : sameB 2 0 ⟨#[]⟩ 2 0 ⟨#[]⟩ = true := by simp [sameB]
  have hs2 : sameB 2 1 ⟨#[]⟩ 2 1 ⟨#[]⟩ = true := by simp [sameB]
  have cB540 := B54.out.c 0 _ rfl; have fB540 := B54.out.f 0 (by simp); have cB541 := B54.out.c 1 _ rfl; have fB541 := B54.out.f 1 (by simp); have cB542 := B54.out.c 2 _ rfl; have fB542 := B54.out.f 2 (by simp); have lB54 := B54.out.lt
  go_wp2_with (refine (num08_any _ _).mono ?_; rintro e wn ⟨rfl, rfl⟩)
  go_ret
  exact ⟨rfl, HF4.out.alloc hz4 _⟩
end Go.Proofs.Ytbhajjinlbadhaa
