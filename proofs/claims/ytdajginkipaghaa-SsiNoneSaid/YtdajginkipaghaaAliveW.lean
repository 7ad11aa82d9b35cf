/- The law's small functions; its example. -/
import Derived.Test.YtdajginkipaghaaOfW
import Derived.Test.YtdajginkipaghaaPut3
namespace Go.Proofs.Ytdajginkipaghaa
open Go.RowKit
open Go.Shelf
set_option linter.unusedVariables false
set_option linter.unusedSimpArgs false
theorem num_any (a : Int) (w : World) : Calls Try.prog 13 #[.int .i64 a] w fun e w' => e = .returned (.int .i64 a) ∧ w = w' := by
  go_enter Try.func13, Try.ntmps13
  go_wp2
  go_ret
  exact ⟨rfl, rfl⟩
def St.new : St := ⟨[], 0, 1⟩
theorem new_any (w : World) : Calls Try.prog 8 #[] w fun e w' => e = .returned (.agg #[.slice none 0 0, .int .i64 0, .int .i64 1]) ∧ Below w.heap.size w w' := by
  go_enter Try.func8, Try.ntmps8
  go_wp2
  refine bodyPost_ret (v := .agg #[.slice none 0 0, .int .i64 0, .int .i64 1]) (by simp [results, Try.results8, go_sem]) rfl ⟨rfl, ?_⟩
  repeat first | (with_reducible exact Below.refl _ _) | (with_reducible refine Below.setCell ?_ (by simp) _) | (with_reducible refine Below.alloc ?_ (by simp) _)
def ex1 : St := ⟨[⟨1, 0, 0, false, false⟩], 0, 2⟩
def ex2 : St := ⟨[⟨1, 0, 0, false, false⟩, ⟨2, 0, 0, false, false⟩], 0, 3⟩
def ex3 : St := ⟨[⟨1, 0, 0, false, true⟩, ⟨2, 0, 0, true, false⟩], 0, 3⟩
theorem ex_1 : beginR St.new = (ex1, 1, 0) := by rfl
theorem ex_2 : beginR ex1 = (ex2, 2, 0) := by rfl
theorem ex_3 : edgeR ex2 1 2 = (ex3, [], 0) := by rfl
theorem ex_4 : (edgeR ex3 2 1).2 = ([2, 1], 0) := by rfl
set_option maxHeartbeats 4000000 in
set_option maxRecDepth 100000 in
theorem alive_any (w : World) : Calls Try.prog 7 #[] w fun e w' => e = .returned (.bool true) ∧ Below w.heap.size w w' := by
  go_enter Try.func7, Try.ntmps7
  go_wp2_with fail
  refine (new_any w).mono ?_; rintro e w1 ⟨rfl, h1⟩
  go_wp2_with fail
  refine (begin_any none 0 St.new w1 RowE.nil (fun _ => rfl) (by simp [St.new])).mono ?_; rintro e w2 ⟨v1, rfl, hv1, h2⟩
  rw [ex_1] at hv1 ⊢
  dsimp only at hv1 ⊢
  obtain ⟨A1, c1, rfl, hr1, hn1, hN1, _⟩ := hv1.out
  have z1 := Nat.le_trans h1.size h2.size
  have h12 := below_step' h1 h2
  have hr1' := (hr1.below ((Below.refl w2.heap.size w2).alloc (Nat.le_refl _) (.cells #[.slice A1 ex1.l.length c1, .int .i64 ex1.clk, .int .i64 ex1.nxt] 26)))
  have HB := Box3.new w2 (.slice A1 ex1.l.length c1) (.int .i64 ex1.clk) (.int .i64 ex1.nxt) 26
  have HF := h12.alloc z1 (.cells #[.slice A1 ex1.l.length c1, .int .i64 ex1.clk, .int .i64 ex1.nxt] 26)
  clear hv1 h1 h2 hN1 hr1 h12
  have hc2 := begin_any A1 c1 ex1 _ hr1' hn1 (by decide)
  rw [ex_2] at hc2
  dsimp only at hc2
  clear hr1' hn1
  go_wp2_with fail
  refine hc2.mono ?_; rintro e w3 ⟨v2, rfl, hv2, h3⟩
  obtain ⟨A2, c2, rfl, hr2, hn2, hN2, _⟩ := hv2.out
  have HB3 := HB.below h3 HB.lt
  have HF3 := HF.trans (h3.mono (by simp; omega))
  simp only [World.size_alloc] at hN2
  have hr4 := Lib.hid (put3_row (b := w2.heap.size) hr2 hN2 (by omega) (.slice A2 ex2.l.length c2) (.int .i64 ex2.clk) (.int .i64 ex2.nxt))
  have HB4 := Lib.hid (put3_box (x' := .slice A2 ex2.l.length c2) (y' := .int .i64 ex2.clk) (z' := .int .i64 ex2.nxt) HB3)
  have HF4 := Lib.hid (put3_below HF3 z1 (.slice A2 ex2.l.length c2) (.int .i64 ex2.clk) (.int .i64 ex2.nxt))
  obtain ⟨c00, c01, c02, f00, f01, f02, l0⟩ := HB3
  clear HF HF3 hc2 hv2 h3 HB hr2 hN2
  go_wp2_with fail
  dsimp only [put3] at hr4 HB4 HF4
  generalize hW : ((w3.setCell ⟨w2.heap.size, 0, none⟩ (.slice A2 ex2.l.length c2)).setCell ⟨w2.heap.size, 1, none⟩ (.int .i64 ex2.clk)).setCell ⟨w2.heap.size, 2, none⟩ (.int .i64 ex2.nxt) = w4 at *
  clear hW c00 c01 c02 f00 f01 f02 l0
  have hc3 := edge_any A2 c2 ex2 1 2 w4 hr4.out hn2 (by decide) (wf64 (by decide) (by decide)) (wf64 (by decide) (by decide))
  rw [ex_3] at hc3
  dsimp only at hc3
  refine hc3.mono ?_; rintro e w5 ⟨v3, u3, rfl, hv3, hu3, h5⟩
  obtain ⟨A3, c3, rfl, hr3, hn3, hN3, _⟩ := hv3.out
  have z4 := HB4.out.lt
  have HB5 := HB4.out.below h5 z4
  have HF5 := HF4.out.trans (h5.mono (by omega))
  have hr6 := Lib.hid (put3_row (b := w2.heap.size) hr3 hN3 z4 (.slice A3 ex3.l.length c3) (.int .i64 ex3.clk) (.int .i64 ex3.nxt))
  have HB6 := Lib.hid (put3_box (x' := .slice A3 ex3.l.length c3) (y' := .int .i64 ex3.clk) (z' := .int .i64 ex3.nxt) HB5)
  have HF6 := Lib.hid (put3_below HF5 z1 (.slice A3 ex3.l.length c3) (.int .i64 ex3.clk) (.int .i64 ex3.nxt))
  obtain ⟨c00, c01, c02, f00, f01, f02, l0⟩ := HB5
  clear HF5 HF4 hc3 hv3 hu3 h5 hr3 hN3 hr4 HB4
  go_wp2_with fail
  dsimp only [put3] at hr6 HB6 HF6
  generalize hW : ((w5.setCell ⟨w2.heap.size, 0, none⟩ (.slice A3 ex3.l.length c3)).setCell ⟨w2.heap.size, 1, none⟩ (.int .i64 ex3.clk)).setCell ⟨w2.heap.size, 2, none⟩ (.int .i64 ex3.nxt) = w6 at *
  clear hW c00 c01 c02 f00 f01 f02 l0
  have hc4 := edge_any A3 c3 ex3 2 1 w6 hr6.out hn3 (by decide) (wf64 (by decide) (by decide)) (wf64 (by decide) (by decide))
  have e4 : (edgeR ex3 2 1).2.1 = [2, 1] := congrArg (·.1) ex_4
  have e5 : (edgeR ex3 2 1).2.2 = 0 := congrArg (·.2) ex_4
  rw [e4, e5] at hc4
  refine hc4.mono ?_; rintro e w7 ⟨v4, u4, rfl, hv4, hu4, h7⟩
  obtain ⟨A4, c4, rfl, _, _, _, _⟩ := hv4.out
  obtain ⟨A5, c5, rfl, _⟩ := hu4
  have HF7 := HF6.out.trans (h7.mono (by have := HB6.out.lt; omega))
  have z7 := h7.size
  have z6 := HB6.out.lt
  clear hc4 hv4 h7 e4 e5 HF6 HB6 hr6
  go_wp2_with (refine (num_any _ _).mono ?_; rintro e wn ⟨rfl, rfl⟩)
  go_ret
  exact ⟨rfl, HF7.alloc (by omega) _⟩
end Go.Proofs.Ytdajginkipaghaa
