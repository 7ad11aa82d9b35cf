/- plan.asks, where (the other side) a column is held against a number. -/
import Derived.Test.YtfmfmammcjpboaaPartsW
import Derived.Test.YtfmfmammcjpboaaHasW
import Derived.Test.YtfmfmammcjpboaaAsksW
namespace Go.Proofs.Ytfmfmammcjpboaa
open Go.RowKit
set_option linter.unusedVariables false
set_option linter.unusedSimpArgs false
set_option maxHeartbeats 8000000 in
set_option maxRecDepth 100000 in
theorem asks_upto (n : Int) (b0 off c : Nat) (w : World)
    (HA : Box w b0 []) (hA : ∀ j v, (cellsE ⟨1, ⟨1, 0, nos⟩, nos, nos, none, 0, 0⟩ ++ cellsE ⟨0, ⟨1, n, nos⟩, nos, nos, none, 0, 0⟩)[j]? = some v → w.cell? ⟨b0, off + j, none⟩ = some v) :
    Calls Try.prog 52 #[aggE ⟨11, ⟨0, 0, nos⟩, nos, nos, some ⟨b0, off, none⟩, 2, c⟩, .int .i64 0, .int .i64 1] w fun e w' => e = .returned (.tuple #[aggP ⟨0, openB, ⟨false, ⟨1, n, nos⟩, true⟩, false⟩, .bool true]) ∧ Below w.heap.size w w' := by
  unfold aggE
  dsimp only
  have hb0 := HA.lt
  have a0 : w.cell? ⟨b0, off, none⟩ = some (.int .i64 1) := hA 0 _ rfl
  have a1 : w.cell? ⟨b0, off + 1, none⟩ = some (.int .i64 1) := hA 1 _ rfl
  have a2 : w.cell? ⟨b0, off + 2, none⟩ = some (.int .i64 0) := hA 2 _ rfl
  have a3 : w.cell? ⟨b0, off + 3, none⟩ = some (.string nos) := hA 3 _ rfl
  have a4 : w.cell? ⟨b0, off + 4, none⟩ = some (.string nos) := hA 4 _ rfl
  have a5 : w.cell? ⟨b0, off + 5, none⟩ = some (.string nos) := hA 5 _ rfl
  have a6 : w.cell? ⟨b0, off + 6, none⟩ = some (.slice none 0 0) := hA 6 _ rfl
  have a7 : w.cell? ⟨b0, off + 7, none⟩ = some (.int .i64 0) := hA 7 _ rfl
  have a8 : w.cell? ⟨b0, off + 8, none⟩ = some (.int .i64 1) := hA 8 _ rfl
  have a9 : w.cell? ⟨b0, off + 9, none⟩ = some (.int .i64 n) := hA 9 _ rfl
  have a10 : w.cell? ⟨b0, off + 10, none⟩ = some (.string nos) := hA 10 _ rfl
  have a11 : w.cell? ⟨b0, off + 11, none⟩ = some (.string nos) := hA 11 _ rfl
  have a12 : w.cell? ⟨b0, off + 12, none⟩ = some (.string nos) := hA 12 _ rfl
  have a13 : w.cell? ⟨b0, off + 13, none⟩ = some (.slice none 0 0) := hA 13 _ rfl
  clear hA HA
  have hb1 : b0 < w.heap.size + 1 := by omega
  have hb2 : b0 < w.heap.size + 1 + 1 := by omega
  have hb3 : b0 < w.heap.size + 1 + 1 + 1 := by omega
  have hn0 : ¬ b0 = w.heap.size := by omega
  have hn1 : ¬ b0 = w.heap.size + 1 := by omega
  have hn2 : ¬ b0 = w.heap.size + 1 + 1 := by omega
  have hn3 : ¬ b0 = w.heap.size + 1 + 1 + 1 := by omega
  go_enter Try.func52, Try.ntmps52
  go_wp2_with fail
  go_cut [8, 9, 10] (fun p q o wx => ∃ g h, p = .pointer (some ⟨g, 0, none⟩) ∧ q = .pointer (some ⟨h, 0, none⟩) ∧ o = .int .i64 11 ∧ Hid (Box wx g (cellsE ⟨1, ⟨1, 0, nos⟩, nos, nos, none, 0, 0⟩)) ∧ Hid (Box wx h (cellsE ⟨0, ⟨1, n, nos⟩, nos, nos, none, 0, 0⟩)) ∧ g ≠ h ∧ w.heap.size + 2 ≤ g ∧ w.heap.size + 2 ≤ h ∧ Hid (Box wx (w.heap.size + 1) [.int .i64 0, .bool false, .int .i64 0, .int .i64 0, .string ⟨#[]⟩, .bool false, .bool false, .int .i64 0, .int .i64 0, .string ⟨#[]⟩, .bool false, .bool false]) ∧ Hid (Below w.heap.size w wx))
  case first =>
    go_region
    all_goals
      go_wp2_with fail
      go_meet
      exact ⟨_, _, rfl, rfl, rfl, Lib.hid (by first | exact (box_at (by simp)).drew | exact ((box_at (by simp)).alloc _).drew), Lib.hid (by first | exact (box_at (by simp)).drew | exact ((box_at (by simp)).alloc _).drew), by omega, by omega, by omega, Lib.hid (((box_at (by simp)).alloc _).alloc _).drew, Lib.hid (by (repeat (first | (with_reducible exact Below.refl _ _) | apply below_alloc _ (Nat.le_refl _) | refine below_set ?_ (by first | exact Nat.le_refl _ | omega) | apply below_drewN | refine below_step ?_ HB)))⟩
  case rest =>
    obtain ⟨g, h, rfl, rfl, rfl, HG, HH, hgh, hg, hh, HR, HF⟩ := hcut
    clear a0 a1 a2 a3 a4 a5 a6 a7 a8 a9 a10 a11 a12 a13 hb0 hb1 hb2 hb3 hn0 hn1 hn2 hn3
    unfold cellsE at HG HH
    dsimp only at HG HH
    have hal := fun W => all_any 0 W
    unfold aggP at hal
    dsimp only at hal
    have hne : ¬ g = h := hgh
    have hne2 : ¬ h = g := fun e => hgh e.symm
    have cHG0 := HG.out.c 0 _ rfl; have fHG0 := HG.out.f 0 (by simp); have cHG1 := HG.out.c 1 _ rfl; have fHG1 := HG.out.f 1 (by simp); have cHG2 := HG.out.c 2 _ rfl; have fHG2 := HG.out.f 2 (by simp); have cHG3 := HG.out.c 3 _ rfl; have fHG3 := HG.out.f 3 (by simp); have cHG4 := HG.out.c 4 _ rfl; have fHG4 := HG.out.f 4 (by simp); have cHG5 := HG.out.c 5 _ rfl; have fHG5 := HG.out.f 5 (by simp); have cHG6 := HG.out.c 6 _ rfl; have fHG6 := HG.out.f 6 (by simp); have lHG := HG.out.lt; have cHH0 := HH.out.c 0 _ rfl; have fHH0 := HH.out.f 0 (by simp); have cHH1 := HH.out.c 1 _ rfl; have fHH1 := HH.out.f 1 (by simp); have cHH2 := HH.out.c 2 _ rfl; have fHH2 := HH.out.f 2 (by simp); have cHH3 := HH.out.c 3 _ rfl; have fHH3 := HH.out.f 3 (by simp); have cHH4 := HH.out.c 4 _ rfl; have fHH4 := HH.out.f 4 (by simp); have cHH5 := HH.out.c 5 _ rfl; have fHH5 := HH.out.f 5 (by simp); have cHH6 := HH.out.c 6 _ rfl; have fHH6 := HH.out.f 6 (by simp); have lHH := HH.out.lt
    go_wp2_with fail
    clear cHG0 fHG0 cHG1 fHG1 cHG2 fHG2 cHG3 fHG3 cHG4 fHG4 cHG5 fHG5 cHG6 fHG6 lHG; clear cHH0 fHH0 cHH1 fHH1 cHH2 fHH2 cHH3 fHH3 cHH4 fHH4 cHH5 fHH5 cHH6 fHH6 lHH
    refine (hal _).mono ?_; rintro e w4 ⟨rfl, h4⟩
    replace HH := Lib.hid (HH.out.below h4 HH.out.lt); replace HR := Lib.hid (HR.out.below h4 HR.out.lt); replace HF := Lib.hid (below_step' HF.out h4)
    clear h4 hal HG
    have hlt := HR.out.lt
    have hl2 := HH.out.lt
    have q1 := HH.out.c 1 _ rfl
    have q2 := HH.out.c 2 _ rfl
    have q3 := HH.out.c 3 _ rfl
    have qr := fun j hj => HR.out.f j hj
    have r0 := HR.out.f 0 (by simp)
    have r1 := HR.out.f 1 (by simp)
    have r2 := HR.out.f 2 (by simp)
    have r3 := HR.out.f 3 (by simp)
    have r4 := HR.out.f 4 (by simp)
    have r5 := HR.out.f 5 (by simp)
    have r6 := HR.out.f 6 (by simp)
    have r7 := HR.out.f 7 (by simp)
    have r8 := HR.out.f 8 (by simp)
    have r9 := HR.out.f 9 (by simp)
    have r10 := HR.out.f 10 (by simp)
    have r11 := HR.out.f 11 (by simp)
    have s0 := HR.out.c 0 _ rfl
    have s1 := HR.out.c 1 _ rfl
    have s2 := HR.out.c 2 _ rfl
    have s3 := HR.out.c 3 _ rfl
    have s4 := HR.out.c 4 _ rfl
    have s5 := HR.out.c 5 _ rfl
    have s6 := HR.out.c 6 _ rfl
    have s7 := HR.out.c 7 _ rfl
    have s8 := HR.out.c 8 _ rfl
    have s9 := HR.out.c 9 _ rfl
    have s10 := HR.out.c 10 _ rfl
    have s11 := HR.out.c 11 _ rfl
    clear qr
    have k0 : w.heap.size + 1 < w4.heap.size + 1 := by omega
    have k1 : ¬ w.heap.size + 1 = w4.heap.size := by omega
    have k2 : ¬ w.heap.size + 1 = w4.heap.size + 1 := by omega
    have k3 : ¬ w4.heap.size = w.heap.size + 1 := by omega
    have k4 : ¬ w4.heap.size + 1 = w.heap.size + 1 := by omega
    clear s0 s1 s2 s3 s4 s5 s6 s7 s8 s9 s10 s11 r0 r1 r2 r3 r4 r5 r6 r7 r8 r9 r10 r11
    go_upto_region 20 with (fail)
    have HP5 := Lib.hid ((box_at (W := w4) (cs := #[.int .i64 0, .bool true, .int .i64 0, .int .i64 0, .string nos, .bool false, .bool false, .int .i64 1, .int .i64 n, .string nos, .bool true, .bool false]) (T := 32) rfl).alloc (.cells #[.bool false, .int .i64 1, .int .i64 n, .string nos, .bool true] 30))
    have HR5 := Lib.hid ((HR.out.alloc (.cells #[.int .i64 0, .bool true, .int .i64 0, .int .i64 0, .string nos, .bool false, .bool false, .int .i64 1, .int .i64 n, .string nos, .bool true, .bool false] 32)).alloc (.cells #[.bool false, .int .i64 1, .int .i64 n, .string nos, .bool true] 30))
    have HF5 : Hid (Below w.heap.size w ((w4.alloc (.cells #[.int .i64 0, .bool true, .int .i64 0, .int .i64 0, .string nos, .bool false, .bool false, .int .i64 1, .int .i64 n, .string nos, .bool true, .bool false] 32)).alloc (.cells #[.bool false, .int .i64 1, .int .i64 n, .string nos, .bool true] 30))) := Lib.hid ((HF.out.alloc HF.out.size _).alloc (by have := HF.out.size; simp; omega) _)
    generalize ((w4.alloc (.cells #[.int .i64 0, .bool true, .int .i64 0, .int .i64 0, .string nos, .bool false, .bool false, .int .i64 1, .int .i64 n, .string nos, .bool true, .bool false] 32)).alloc (.cells #[.bool false, .int .i64 1, .int .i64 n, .string nos, .bool true] 30)) = w5 at *
    generalize w4.heap.size = G at *
    clear HR HF HH q1 q2 q3 hlt hl2 k0
    have HFo := HF5.out
    dsimp only at HP5
    have cHP50 := HP5.out.c 0 _ rfl; have fHP50 := HP5.out.f 0 (by simp); have cHP51 := HP5.out.c 1 _ rfl; have fHP51 := HP5.out.f 1 (by simp); have cHP52 := HP5.out.c 2 _ rfl; have fHP52 := HP5.out.f 2 (by simp); have cHP53 := HP5.out.c 3 _ rfl; have fHP53 := HP5.out.f 3 (by simp); have cHP54 := HP5.out.c 4 _ rfl; have fHP54 := HP5.out.f 4 (by simp); have cHP55 := HP5.out.c 5 _ rfl; have fHP55 := HP5.out.f 5 (by simp); have cHP56 := HP5.out.c 6 _ rfl; have fHP56 := HP5.out.f 6 (by simp); have cHP57 := HP5.out.c 7 _ rfl; have fHP57 := HP5.out.f 7 (by simp); have cHP58 := HP5.out.c 8 _ rfl; have fHP58 := HP5.out.f 8 (by simp); have cHP59 := HP5.out.c 9 _ rfl; have fHP59 := HP5.out.f 9 (by simp); have cHP510 := HP5.out.c 10 _ rfl; have fHP510 := HP5.out.f 10 (by simp); have cHP511 := HP5.out.c 11 _ rfl; have fHP511 := HP5.out.f 11 (by simp); have lHP5 := HP5.out.lt; have cHR50 := HR5.out.c 0 _ rfl; have fHR50 := HR5.out.f 0 (by simp); have cHR51 := HR5.out.c 1 _ rfl; have fHR51 := HR5.out.f 1 (by simp); have cHR52 := HR5.out.c 2 _ rfl; have fHR52 := HR5.out.f 2 (by simp); have cHR53 := HR5.out.c 3 _ rfl; have fHR53 := HR5.out.f 3 (by simp); have cHR54 := HR5.out.c 4 _ rfl; have fHR54 := HR5.out.f 4 (by simp); have cHR55 := HR5.out.c 5 _ rfl; have fHR55 := HR5.out.f 5 (by simp); have cHR56 := HR5.out.c 6 _ rfl; have fHR56 := HR5.out.f 6 (by simp); have cHR57 := HR5.out.c 7 _ rfl; have fHR57 := HR5.out.f 7 (by simp); have cHR58 := HR5.out.c 8 _ rfl; have fHR58 := HR5.out.f 8 (by simp); have cHR59 := HR5.out.c 9 _ rfl; have fHR59 := HR5.out.f 9 (by simp); have cHR510 := HR5.out.c 10 _ rfl; have fHR510 := HR5.out.f 10 (by simp); have cHR511 := HR5.out.c 11 _ rfl; have fHR511 := HR5.out.f 11 (by simp); have lHR5 := HR5.out.lt
    go_wp2
    refine bodyPost_ret (by simp [results, Try.results52, go_sem, cHR50, cHR51, cHR52, cHR53, cHR54, cHR55, cHR56, cHR57, cHR58, cHR59, cHR510, cHR511]; rfl) rfl ?_
    exact ⟨rfl, (by repeat (first | (with_reducible exact HFo) | refine below_set ?_ (by first | exact Nat.le_refl _ | omega)))⟩
end Go.Proofs.Ytfmfmammcjpboaa
