/- Package ssi: Edge's closure. (Printed by gen17b.py.) -/
import Derived.Test.YtdajginkipaghaaSsi2
import Derived.Test.YtdajginkipaghaaKept
import Derived.Test.YtdajginkipaghaaBMap
import Derived.Test.YtdajginkipaghaaTail
namespace Go.Proofs.Ytdajginkipaghaa
open Go.RowKit
set_option linter.unusedVariables false
set_option linter.unusedSimpArgs false
def mrk (b : Bool) (x y : Tx) (f : Int → Bool) : Int → Bool := if b then (if x.en = 0 then fun k => if k = x.id then true else f k else fun k => if k = y.id then (f y.id || y.en == 0) else f k) else f
set_option maxHeartbeats 4000000 in
set_option maxRecDepth 100000 in
theorem mark4_any (g cap B mb n i j b0 : Nat) (m : List Tx) (x y : Tx) (f : Int → Bool) (w : World) (HO : w.ownsRow b0 40 5 (.slice (some ⟨g, 0, none⟩) m.length cap) m.length (m.flatMap encT)) (hx : m[i]? = some x) (hy : m[j]? = some y) (hij : i ≠ j) (hB : w.cell? ⟨B, 0, none⟩ = some (.map (some mb))) (HM : BMap w mb n f) (hn : n ≤ 10) (hgB : B ≠ g) (hgm : mb ≠ g) (hBm : B ≠ mb) (hwx : (Lit.int .i64 x.id).wf = true) (hwy : (Lit.int .i64 y.id).wf = true) :
    Calls Try.prog 20 #[.pointer (some ⟨g, i * 5, none⟩), .pointer (some ⟨g, j * 5, none⟩), .pointer (some ⟨g, i * 5 + 4, none⟩), .pointer (some ⟨B, 0, none⟩)] w fun e w' =>
      e = .returned (.tuple #[]) ∧ Kept w.heap.size (fun k => k = g ∨ k = mb) w w' ∧ w'.ownsRow b0 40 5 (.slice (some ⟨g, 0, none⟩) m.length cap) m.length ((m.set i (rdr x)).flatMap encT) ∧ ∃ n', n' ≤ n + 1 ∧ BMap w' mb n' (mrk x.inn x y f) := by
  have hil := lt_of_get hx
  have hjl := lt_of_get hy
  have x0 : w.cell? ⟨g, i * 5, none⟩ = some (.int .i64 x.id) := (HO.cellAt _ (by omega)).trans (flat_get encT_len m i x 0 _ hx rfl)
  have x2 : w.cell? ⟨g, i * 5 + 2, none⟩ = some (.int .i64 x.en) := (HO.cellAt _ (by omega)).trans (flat_get encT_len m i x 2 _ hx rfl)
  have x3 : w.cell? ⟨g, i * 5 + 3, none⟩ = some (.bool x.inn) := (HO.cellAt _ (by omega)).trans (flat_get encT_len m i x 3 _ hx rfl)
  have x4 : w.cell? ⟨g, i * 5 + 4, none⟩ = some (.bool x.out) := (HO.cellAt _ (by omega)).trans (flat_get encT_len m i x 4 _ hx rfl)
  have y0 : w.cell? ⟨g, j * 5, none⟩ = some (.int .i64 y.id) := (HO.cellAt _ (by omega)).trans (flat_get encT_len m j y 0 _ hy rfl)
  have y2 : w.cell? ⟨g, j * 5 + 2, none⟩ = some (.int .i64 y.en) := (HO.cellAt _ (by omega)).trans (flat_get encT_len m j y 2 _ hy rfl)
  have fq := HO.frozenAt (i * 5 + 4)
  have hlt := (HO.lt g rfl).2
  have HO1 := Lib.hid (HO.stored (i * 5 + 4) (.bool true)).1
  have FS := Lib.hid (fun z u h => flat_set encT_len m i x z 4 u hx (by decide) h)
  have K1 : Kept w.heap.size (fun k => k = g ∨ k = mb) w (w.setCell ⟨g, i * 5 + 4, none⟩ (.bool true)) := (Kept.refl _ _ w).set _ _ (.inr (.inl rfl))
  have M1 : BMap (w.setCell ⟨g, i * 5 + 4, none⟩ (.bool true)) mb n f := HM.grown (grown_set w _ _) (by intro h; exact hgm (Option.some.inj h))
  have hx' := Lib.hid hx
  clear HO hx hy HM
  obtain ⟨xid, xst, xen, xinn, xout⟩ := x
  obtain ⟨yid, yst, yen, yinn, yout⟩ := y
  dsimp only at *
  cases xinn with
  | false =>
    have R : Hid ((m.set i (rdr ⟨xid, xst, xen, false, xout⟩)).flatMap encT = (m.flatMap encT).set (i * 5 + 4) (.bool true)) := Lib.hid (FS.out _ _ (by simp [encT, rdr, Tx.outs])).symm
    clear FS
    go_enter Try.func20, Try.ntmps20
    go_wp2
    go_end0
    exact ⟨rfl, K1, by rw [R.out]; exact HO1.out, n, by omega, by simpa [mrk] using M1⟩
  | true =>
    by_cases q0 : xen = 0
    · subst q0
      have R : Hid ((m.set i (rdr ⟨xid, xst, 0, true, xout⟩)).flatMap encT = (m.flatMap encT).set (i * 5 + 4) (.bool true)) := Lib.hid (FS.out _ _ (by simp [encT, rdr, Tx.outs])).symm
      clear FS
      obtain ⟨w5, hup, HM5, hg5⟩ := BMap.update (BMap.drew M1) (by unfold maxLen; omega) xid hwx true
      have K5 : Kept w.heap.size (fun k => k = g ∨ k = mb) w w5 := K1.trans ⟨hg5.os, hg5.tape, hg5.output, hg5.size, fun k hk hb => hg5.block k (by simpa using hk) (by intro h; exact hb (.inr (Option.some.inj h)))⟩
      have HO5 := Lib.hid (((HO1.out).drew).kept hg5 (.inr (by intro h; exact hgm (Option.some.inj h).symm)))
      have HM5' := Lib.hid HM5
      clear HM5 hg5 HO1 M1 K1
      go_enter Try.func20, Try.ntmps20
      go_wp2_with fail
      go_region_with (fail)
      all_goals go_wp2
      all_goals go_end0
      all_goals exact ⟨rfl, K5, by rw [R.out]; exact HO5.out, n + 1, by omega, by simpa [mrk] using HM5'.out⟩
    · have HO2 := Lib.hid ((HO1.out).stored (i * 5 + 4) (.bool xout)).1
      have R : Hid ((m.set i (rdr ⟨xid, xst, xen, true, xout⟩)).flatMap encT = ((m.flatMap encT).set (i * 5 + 4) (.bool true)).set (i * 5 + 4) (.bool xout)) := Lib.hid (by rw [List.set_set]; exact (FS.out _ _ (by simp [encT, rdr, q0])).symm)
      have M3 : BMap ((w.setCell ⟨g, i * 5 + 4, none⟩ (.bool true)).setCell ⟨g, i * 5 + 4, none⟩ (.bool xout)) mb n f := M1.grown (grown_set _ _ _) (by intro h; exact hgm (Option.some.inj h))
      have K3 : Kept w.heap.size (fun k => k = g ∨ k = mb) w ((w.setCell ⟨g, i * 5 + 4, none⟩ (.bool true)).setCell ⟨g, i * 5 + 4, none⟩ (.bool xout)) := K1.set _ _ (.inr (.inl rfl))
      clear FS HO1 M1 K1
      have hlk := BMap.lookup (BMap.drew M3) yid hwy
      obtain ⟨w5, hup, HM5, hg5⟩ := BMap.update (BMap.drew M3) (by unfold maxLen; omega) yid hwy (f yid || yen == 0)
      have K5 : Kept w.heap.size (fun k => k = g ∨ k = mb) w w5 := K3.trans ⟨hg5.os, hg5.tape, hg5.output, hg5.size, fun k hk hb => hg5.block k (by simpa using hk) (by intro h; exact hb (.inr (Option.some.inj h)))⟩
      have HO5 := Lib.hid (((HO2.out).drew).kept hg5 (.inr (by intro h; exact hgm (Option.some.inj h).symm)))
      have HM5' : Hid (BMap w5 mb (n + 1) (mrk true ⟨xid, xst, xen, true, xout⟩ ⟨yid, yst, yen, yinn, yout⟩ f)) := Lib.hid (by simpa [mrk, q0] using HM5)
      have n0 : j * 5 ≠ i * 5 + 4 := by omega
      have n2 : j * 5 + 2 ≠ i * 5 + 4 := by omega
      clear HM5 hg5 HO2 M3 K3
      have q0' : (xen == 0) = false := by simpa using q0
      generalize hf : f yid = fy at *
      clear hf
      cases fy with
      | false =>
        simp only [Bool.false_or] at hup
        generalize hye : (yen == 0) = ye at *
        go_enter Try.func20, Try.ntmps20
        go_wp2_with fail
        refine still_tail 18 (by kernel_rfl) (by kernel_rfl) ?_
        simp only [List.take_succ_cons, List.take_zero, List.drop_succ_cons, List.drop_zero]
        repeat still_step
        refine wpStill_nil ?_
        go_wp2
        go_end0
        exact ⟨rfl, K5, by rw [R.out]; exact HO5.out, n + 1, by omega, HM5'.out⟩
      | true =>
        simp only [Bool.true_or] at hup
        go_enter Try.func20, Try.ntmps20
        go_wp2_with fail
        refine still_tail 18 (by kernel_rfl) (by kernel_rfl) ?_
        simp only [List.take_succ_cons, List.take_zero, List.drop_succ_cons, List.drop_zero]
        repeat still_step
        refine wpStill_nil ?_
        go_wp2
        go_end0
        exact ⟨rfl, K5, by rw [R.out]; exact HO5.out, n + 1, by omega, HM5'.out⟩
set_option maxHeartbeats 4000000 in
set_option maxRecDepth 100000 in
theorem mark3_any (g cap B mb n i j b0 : Nat) (m : List Tx) (x y : Tx) (f : Int → Bool) (w : World) (HO : w.ownsRow b0 40 5 (.slice (some ⟨g, 0, none⟩) m.length cap) m.length (m.flatMap encT)) (hx : m[i]? = some x) (hy : m[j]? = some y) (hij : i ≠ j) (hB : w.cell? ⟨B, 0, none⟩ = some (.map (some mb))) (HM : BMap w mb n f) (hn : n ≤ 10) (hgB : B ≠ g) (hgm : mb ≠ g) (hBm : B ≠ mb) (hwx : (Lit.int .i64 x.id).wf = true) (hwy : (Lit.int .i64 y.id).wf = true) :
    Calls Try.prog 20 #[.pointer (some ⟨g, i * 5, none⟩), .pointer (some ⟨g, j * 5, none⟩), .pointer (some ⟨g, i * 5 + 3, none⟩), .pointer (some ⟨B, 0, none⟩)] w fun e w' =>
      e = .returned (.tuple #[]) ∧ Kept w.heap.size (fun k => k = g ∨ k = mb) w w' ∧ w'.ownsRow b0 40 5 (.slice (some ⟨g, 0, none⟩) m.length cap) m.length ((m.set i (wtr x)).flatMap encT) ∧ ∃ n', n' ≤ n + 1 ∧ BMap w' mb n' (mrk x.out x y f) := by
  have hil := lt_of_get hx
  have hjl := lt_of_get hy
  have x0 : w.cell? ⟨g, i * 5, none⟩ = some (.int .i64 x.id) := (HO.cellAt _ (by omega)).trans (flat_get encT_len m i x 0 _ hx rfl)
  have x2 : w.cell? ⟨g, i * 5 + 2, none⟩ = some (.int .i64 x.en) := (HO.cellAt _ (by omega)).trans (flat_get encT_len m i x 2 _ hx rfl)
  have x3 : w.cell? ⟨g, i * 5 + 3, none⟩ = some (.bool x.inn) := (HO.cellAt _ (by omega)).trans (flat_get encT_len m i x 3 _ hx rfl)
  have x4 : w.cell? ⟨g, i * 5 + 4, none⟩ = some (.bool x.out) := (HO.cellAt _ (by omega)).trans (flat_get encT_len m i x 4 _ hx rfl)
  have y0 : w.cell? ⟨g, j * 5, none⟩ = some (.int .i64 y.id) := (HO.cellAt _ (by omega)).trans (flat_get encT_len m j y 0 _ hy rfl)
  have y2 : w.cell? ⟨g, j * 5 + 2, none⟩ = some (.int .i64 y.en) := (HO.cellAt _ (by omega)).trans (flat_get encT_len m j y 2 _ hy rfl)
  have fq := HO.frozenAt (i * 5 + 3)
  have hlt := (HO.lt g rfl).2
  have HO1 := Lib.hid (HO.stored (i * 5 + 3) (.bool true)).1
  have FS := Lib.hid (fun z u h => flat_set encT_len m i x z 3 u hx (by decide) h)
  have K1 : Kept w.heap.size (fun k => k = g ∨ k = mb) w (w.setCell ⟨g, i * 5 + 3, none⟩ (.bool true)) := (Kept.refl _ _ w).set _ _ (.inr (.inl rfl))
  have M1 : BMap (w.setCell ⟨g, i * 5 + 3, none⟩ (.bool true)) mb n f := HM.grown (grown_set w _ _) (by intro h; exact hgm (Option.some.inj h))
  have hx' := Lib.hid hx
  clear HO hx hy HM
  obtain ⟨xid, xst, xen, xinn, xout⟩ := x
  obtain ⟨yid, yst, yen, yinn, yout⟩ := y
  dsimp only at *
  cases xout with
  | false =>
    have R : Hid ((m.set i (wtr ⟨xid, xst, xen, xinn, false⟩)).flatMap encT = (m.flatMap encT).set (i * 5 + 3) (.bool true)) := Lib.hid (FS.out _ _ (by simp [encT, wtr, Tx.inns])).symm
    clear FS
    go_enter Try.func20, Try.ntmps20
    go_wp2
    go_end0
    exact ⟨rfl, K1, by rw [R.out]; exact HO1.out, n, by omega, by simpa [mrk] using M1⟩
  | true =>
    by_cases q0 : xen = 0
    · subst q0
      have R : Hid ((m.set i (wtr ⟨xid, xst, 0, xinn, true⟩)).flatMap encT = (m.flatMap encT).set (i * 5 + 3) (.bool true)) := Lib.hid (FS.out _ _ (by simp [encT, wtr, Tx.inns])).symm
      clear FS
      obtain ⟨w5, hup, HM5, hg5⟩ := BMap.update (BMap.drew M1) (by unfold maxLen; omega) xid hwx true
      have K5 : Kept w.heap.size (fun k => k = g ∨ k = mb) w w5 := K1.trans ⟨hg5.os, hg5.tape, hg5.output, hg5.size, fun k hk hb => hg5.block k (by simpa using hk) (by intro h; exact hb (.inr (Option.some.inj h)))⟩
      have HO5 := Lib.hid (((HO1.out).drew).kept hg5 (.inr (by intro h; exact hgm (Option.some.inj h).symm)))
      have HM5' := Lib.hid HM5
      clear HM5 hg5 HO1 M1 K1
      go_enter Try.func20, Try.ntmps20
      go_wp2_with fail
      go_region_with (fail)
      all_goals go_wp2
      all_goals go_end0
      all_goals exact ⟨rfl, K5, by rw [R.out]; exact HO5.out, n + 1, by omega, by simpa [mrk] using HM5'.out⟩
    · have HO2 := Lib.hid ((HO1.out).stored (i * 5 + 3) (.bool xinn)).1
      have R : Hid ((m.set i (wtr ⟨xid, xst, xen, xinn, true⟩)).flatMap encT = ((m.flatMap encT).set (i * 5 + 3) (.bool true)).set (i * 5 + 3) (.bool xinn)) := Lib.hid (by rw [List.set_set]; exact (FS.out _ _ (by simp [encT, wtr, q0])).symm)
      have M3 : BMap ((w.setCell ⟨g, i * 5 + 3, none⟩ (.bool true)).setCell ⟨g, i * 5 + 3, none⟩ (.bool xinn)) mb n f := M1.grown (grown_set _ _ _) (by intro h; exact hgm (Option.some.inj h))
      have K3 : Kept w.heap.size (fun k => k = g ∨ k = mb) w ((w.setCell ⟨g, i * 5 + 3, none⟩ (.bool true)).setCell ⟨g, i * 5 + 3, none⟩ (.bool xinn)) := K1.set _ _ (.inr (.inl rfl))
      clear FS HO1 M1 K1
      have hlk := BMap.lookup (BMap.drew M3) yid hwy
      obtain ⟨w5, hup, HM5, hg5⟩ := BMap.update (BMap.drew M3) (by unfold maxLen; omega) yid hwy (f yid || yen == 0)
      have K5 : Kept w.heap.size (fun k => k = g ∨ k = mb) w w5 := K3.trans ⟨hg5.os, hg5.tape, hg5.output, hg5.size, fun k hk hb => hg5.block k (by simpa using hk) (by intro h; exact hb (.inr (Option.some.inj h)))⟩
      have HO5 := Lib.hid (((HO2.out).drew).kept hg5 (.inr (by intro h; exact hgm (Option.some.inj h).symm)))
      have HM5' : Hid (BMap w5 mb (n + 1) (mrk true ⟨xid, xst, xen, xinn, true⟩ ⟨yid, yst, yen, yinn, yout⟩ f)) := Lib.hid (by simpa [mrk, q0] using HM5)
      have n0 : j * 5 ≠ i * 5 + 3 := by omega
      have n2 : j * 5 + 2 ≠ i * 5 + 3 := by omega
      clear HM5 hg5 HO2 M3 K3
      have q0' : (xen == 0) = false := by simpa using q0
      generalize hf : f yid = fy at *
      clear hf
      cases fy with
      | false =>
        simp only [Bool.false_or] at hup
        generalize hye : (yen == 0) = ye at *
        go_enter Try.func20, Try.ntmps20
        go_wp2_with fail
        refine still_tail 18 (by kernel_rfl) (by kernel_rfl) ?_
        simp only [List.take_succ_cons, List.take_zero, List.drop_succ_cons, List.drop_zero]
        repeat still_step
        refine wpStill_nil ?_
        go_wp2
        go_end0
        exact ⟨rfl, K5, by rw [R.out]; exact HO5.out, n + 1, by omega, HM5'.out⟩
      | true =>
        simp only [Bool.true_or] at hup
        go_enter Try.func20, Try.ntmps20
        go_wp2_with fail
        refine still_tail 18 (by kernel_rfl) (by kernel_rfl) ?_
        simp only [List.take_succ_cons, List.take_zero, List.drop_succ_cons, List.drop_zero]
        repeat still_step
        refine wpStill_nil ?_
        go_wp2
        go_end0
        exact ⟨rfl, K5, by rw [R.out]; exact HO5.out, n + 1, by omega, HM5'.out⟩
end Go.Proofs.Ytdajginkipaghaa
