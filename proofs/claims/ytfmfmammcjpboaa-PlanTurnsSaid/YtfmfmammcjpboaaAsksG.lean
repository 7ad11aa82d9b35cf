/- plan.asks of any condition. -/
import Derived.Test.YtfmfmammcjpboaaPartsW
import Derived.Test.YtfmfmammcjpboaaHasW
import Derived.Test.YtfmfmammcjpboaaPuts
namespace Go.Proofs.Ytfmfmammcjpboaa
open Go.RowKit
set_option linter.unusedVariables false
set_option linter.unusedSimpArgs false
def opnB : Bd := ⟨true, ⟨0, 0, nos⟩, false⟩
def turnI (op : Int) : Int := if op = 10 then 12 else if op = 11 then 13 else if op = 12 then 10 else if op = 13 then 11 else op
def zeroP : Pl := ⟨0, ⟨false, ⟨0, 0, nos⟩, false⟩, ⟨false, ⟨0, 0, nos⟩, false⟩, false⟩
def plan1 (op : Int) (v : V) : Pl := ⟨0, if op = 8 ∨ 12 ≤ op then ⟨false, v, decide (op ≠ 12)⟩ else opnB, if op ≤ 11 then ⟨false, v, decide (op ≠ 10)⟩ else opnB, decide (v.k = 0)⟩
def asks0 (op : Int) (x y : Eh) (at1 kind : Int) : Pl × Bool :=
  if x.op ≠ 1 ∨ y.op ≠ 0 ∨ x.v.n ≠ at1 ∨ (y.v.k ≠ 0 ∧ y.v.k ≠ kind) then (zeroP, false) else (plan1 op y.v, true)
def asksP (op : Int) (x y : Eh) (at1 kind : Int) : Pl × Bool := if x.op = 0 ∧ y.op = 1 then asks0 (turnI op) y x at1 kind else asks0 op x y at1 kind
def asking (op : Int) (len : Nat) : Bool := !(decide (op < 8) || decide (13 < op) || decide (op = 9) || decide (len ≠ 2))
theorem xr0 : wrap64 (10 + bits BinOp.xor IntKind.i64 0 2) = 12 := by decide +kernel
theorem xr1 : wrap64 (10 + bits BinOp.xor IntKind.i64 1 2) = 13 := by decide +kernel
theorem xr2 : wrap64 (10 + bits BinOp.xor IntKind.i64 2 2) = 10 := by decide +kernel
theorem xr3 : wrap64 (10 + bits BinOp.xor IntKind.i64 3 2) = 11 := by decide +kernel
theorem asking_op {op : Int} {n : Nat} (h : asking op n = true) : n = 2 ∧ (op = 8 ∨ op = 10 ∨ op = 11 ∨ op = 12 ∨ op = 13) := by
  unfold asking at h
  simp at h
  omega
set_option maxHeartbeats 4000000 in
set_option maxRecDepth 100000 in
theorem asks_any (hd x y : Eh) (at1 kind : Int) (w : World) (hA : hd.len = 2 → ∃ b0 off, hd.A = some ⟨b0, off, none⟩ ∧ b0 < w.heap.size ∧ ∀ j v, (cellsE x ++ cellsE y)[j]? = some v → w.cell? ⟨b0, off + j, none⟩ = some v) :
    Calls Try.prog 52 #[aggE hd, .int .i64 at1, .int .i64 kind] w fun e w' => e = .returned (.tuple #[aggP (if asking hd.op hd.len = true then asksP hd.op x y at1 kind else (zeroP, false)).1, .bool (if asking hd.op hd.len = true then asksP hd.op x y at1 kind else (zeroP, false)).2]) ∧ Below w.heap.size w w' := by
  obtain ⟨op, v, tb, nm, A, len, c⟩ := hd
  dsimp only at hA ⊢
  unfold aggE
  dsimp only
  have HO := Lib.hid ((Box.new w #[.int .i64 op, .int .i64 v.k, .int .i64 v.n, .string v.s, .string tb, .string nm, .slice A len c] 51).alloc (.cells #[.int .i64 0, .bool false, .int .i64 0, .int .i64 0, .string ⟨#[]⟩, .bool false, .bool false, .int .i64 0, .int .i64 0, .string ⟨#[]⟩, .bool false, .bool false] 32))
  have HR := Lib.hid (Box.new (w.alloc (.cells #[.int .i64 op, .int .i64 v.k, .int .i64 v.n, .string v.s, .string tb, .string nm, .slice A len c] 51)) #[.int .i64 0, .bool false, .int .i64 0, .int .i64 0, .string ⟨#[]⟩, .bool false, .bool false, .int .i64 0, .int .i64 0, .string ⟨#[]⟩, .bool false, .bool false] 32)
  simp only [World.size_alloc] at HR
  have HF : Hid (Below w.heap.size w ((w.alloc (.cells #[.int .i64 op, .int .i64 v.k, .int .i64 v.n, .string v.s, .string tb, .string nm, .slice A len c] 51)).alloc (.cells #[.int .i64 0, .bool false, .int .i64 0, .int .i64 0, .string ⟨#[]⟩, .bool false, .bool false, .int .i64 0, .int .i64 0, .string ⟨#[]⟩, .bool false, .bool false] 32))) := Lib.hid (by (repeat (first | (with_reducible exact Below.refl _ _) | apply below_alloc _ (Nat.le_refl _) | refine below_set ?_ (by first | exact Nat.le_refl _ | omega) | apply below_drewN | refine below_step ?_ HB)))
  have HA := Lib.hid hA
  clear hA
  obtain ⟨RR, hRR⟩ : ∃ RR, (if asking op len = true then asksP op x y at1 kind else (zeroP, false)) = RR := ⟨_, rfl⟩
  rw [hRR]
  have HRR := Lib.hid hRR
  clear hRR
  go_enter Try.func52, Try.ntmps52
  go_upto_region 1 with (fail)
  have hsz : ((w.alloc (.cells #[.int .i64 op, .int .i64 v.k, .int .i64 v.n, .string v.s, .string tb, .string nm, .slice A len c] 51)).alloc (.cells #[.int .i64 0, .bool false, .int .i64 0, .int .i64 0, .string ⟨#[]⟩, .bool false, .bool false, .int .i64 0, .int .i64 0, .string ⟨#[]⟩, .bool false, .bool false] 32)).heap.size = w.heap.size + 2 := by simp
  have HSZ := Lib.hid hsz
  clear hsz
  generalize ((w.alloc (.cells #[.int .i64 op, .int .i64 v.k, .int .i64 v.n, .string v.s, .string tb, .string nm, .slice A len c] 51)).alloc (.cells #[.int .i64 0, .bool false, .int .i64 0, .int .i64 0, .string ⟨#[]⟩, .bool false, .bool false, .int .i64 0, .int .i64 0, .string ⟨#[]⟩, .bool false, .bool false] 32)) = w2 at *
  generalize (Value.agg #[.int .i64 op, .int .i64 v.k, .int .i64 v.n, .string v.s, .string tb, .string nm, .slice A len c]) = ae
  go_cut [31] (fun q wx => q = .bool (!(asking op len)) ∧ wx = w2)
  case first =>
    have c0 := HO.out.c 0 _ rfl
    have c6 := HO.out.c 6 _ rfl
    clear HO HR HF HA HRR
    go_wp2_with fail
    all_goals (go_meet; refine ⟨congrArg Value.bool ?_, rfl⟩; rw [Bool.eq_iff_iff]; simp [asking] <;> omega)
  obtain ⟨rfl, hw⟩ := hcut
  subst hw
  generalize wc = w2 at *
  cases hask : asking op len
  · rw [if_neg (by rw [hask]; simp)] at HRR
    obtain rfl := HRR.out
    clear HA HRR HO
    have cHR0 := HR.out.c 0 _ rfl; have fHR0 := HR.out.f 0 (by simp); have cHR1 := HR.out.c 1 _ rfl; have fHR1 := HR.out.f 1 (by simp); have cHR2 := HR.out.c 2 _ rfl; have fHR2 := HR.out.f 2 (by simp); have cHR3 := HR.out.c 3 _ rfl; have fHR3 := HR.out.f 3 (by simp); have cHR4 := HR.out.c 4 _ rfl; have fHR4 := HR.out.f 4 (by simp); have cHR5 := HR.out.c 5 _ rfl; have fHR5 := HR.out.f 5 (by simp); have cHR6 := HR.out.c 6 _ rfl; have fHR6 := HR.out.f 6 (by simp); have cHR7 := HR.out.c 7 _ rfl; have fHR7 := HR.out.f 7 (by simp); have cHR8 := HR.out.c 8 _ rfl; have fHR8 := HR.out.f 8 (by simp); have cHR9 := HR.out.c 9 _ rfl; have fHR9 := HR.out.f 9 (by simp); have cHR10 := HR.out.c 10 _ rfl; have fHR10 := HR.out.f 10 (by simp); have cHR11 := HR.out.c 11 _ rfl; have fHR11 := HR.out.f 11 (by simp); have lHR := HR.out.lt
    go_wp2
    clear cHR0 fHR0 cHR1 fHR1 cHR2 fHR2 cHR3 fHR3 cHR4 fHR4 cHR5 fHR5 cHR6 fHR6 cHR7 fHR7 cHR8 fHR8 cHR9 fHR9 cHR10 fHR10 cHR11 fHR11 lHR
    have HP := Lib.hid (puts12 HR.out (.int .i64 0) (.bool false) (.int .i64 0) (.int .i64 0) (.string ⟨#[]⟩) (.bool false) (.bool false) (.int .i64 0) (.int .i64 0) (.string ⟨#[]⟩) (.bool false) (.bool false))
    replace HF := Lib.hid (puts12_below HF.out (show w.heap.size ≤ w.heap.size + 1 by omega) (.int .i64 0) (.bool false) (.int .i64 0) (.int .i64 0) (.string ⟨#[]⟩) (.bool false) (.bool false) (.int .i64 0) (.int .i64 0) (.string ⟨#[]⟩) (.bool false) (.bool false))
    clear HR
    generalize ((((((((((((w2.setCell ⟨w.heap.size + 1, 0, none⟩ (.int .i64 0)).setCell ⟨w.heap.size + 1, 1, none⟩ (.bool false)).setCell ⟨w.heap.size + 1, 2, none⟩ (.int .i64 0)).setCell ⟨w.heap.size + 1, 3, none⟩ (.int .i64 0)).setCell ⟨w.heap.size + 1, 4, none⟩ (.string ⟨#[]⟩)).setCell ⟨w.heap.size + 1, 5, none⟩ (.bool false)).setCell ⟨w.heap.size + 1, 6, none⟩ (.bool false)).setCell ⟨w.heap.size + 1, 7, none⟩ (.int .i64 0)).setCell ⟨w.heap.size + 1, 8, none⟩ (.int .i64 0)).setCell ⟨w.heap.size + 1, 9, none⟩ (.string ⟨#[]⟩)).setCell ⟨w.heap.size + 1, 10, none⟩ (.bool false)).setCell ⟨w.heap.size + 1, 11, none⟩ (.bool false)) = w9 at *
    have cHP0 := HP.out.c 0 _ rfl; have fHP0 := HP.out.f 0 (by simp); have cHP1 := HP.out.c 1 _ rfl; have fHP1 := HP.out.f 1 (by simp); have cHP2 := HP.out.c 2 _ rfl; have fHP2 := HP.out.f 2 (by simp); have cHP3 := HP.out.c 3 _ rfl; have fHP3 := HP.out.f 3 (by simp); have cHP4 := HP.out.c 4 _ rfl; have fHP4 := HP.out.f 4 (by simp); have cHP5 := HP.out.c 5 _ rfl; have fHP5 := HP.out.f 5 (by simp); have cHP6 := HP.out.c 6 _ rfl; have fHP6 := HP.out.f 6 (by simp); have cHP7 := HP.out.c 7 _ rfl; have fHP7 := HP.out.f 7 (by simp); have cHP8 := HP.out.c 8 _ rfl; have fHP8 := HP.out.f 8 (by simp); have cHP9 := HP.out.c 9 _ rfl; have fHP9 := HP.out.f 9 (by simp); have cHP10 := HP.out.c 10 _ rfl; have fHP10 := HP.out.f 10 (by simp); have cHP11 := HP.out.c 11 _ rfl; have fHP11 := HP.out.f 11 (by simp); have lHP := HP.out.lt
    refine bodyPost_ret (by simp [results, Try.results52, go_sem, cHP0, cHP1, cHP2, cHP3, cHP4, cHP5, cHP6, cHP7, cHP8, cHP9, cHP10, cHP11]; rfl) rfl ?_
    exact ⟨rfl, HF.out⟩
  · rw [if_pos hask] at HRR
    obtain ⟨hlen, hops⟩ := asking_op hask
    subst hlen
    obtain ⟨b0, off, rfl, hb, hA⟩ := HA.out rfl
    have hA' := fun j v hj => (HF.out.cell (p := ⟨b0, off + j, none⟩) hb).trans (hA j v hj)
    clear hA HA hask
    have hA := hA'
    clear hA'
    have hs2 := HSZ.out
    have a0 : w2.cell? ⟨b0, off, none⟩ = some (.int .i64 x.op) := hA 0 _ rfl
    have a1 : w2.cell? ⟨b0, off + 1, none⟩ = some (.int .i64 x.v.k) := hA 1 _ rfl
    have a2 : w2.cell? ⟨b0, off + 2, none⟩ = some (.int .i64 x.v.n) := hA 2 _ rfl
    have a3 : w2.cell? ⟨b0, off + 3, none⟩ = some (.string x.v.s) := hA 3 _ rfl
    have a4 : w2.cell? ⟨b0, off + 4, none⟩ = some (.string x.tb) := hA 4 _ rfl
    have a5 : w2.cell? ⟨b0, off + 5, none⟩ = some (.string x.nm) := hA 5 _ rfl
    have a6 : w2.cell? ⟨b0, off + 6, none⟩ = some (.slice x.A x.len x.c) := hA 6 _ rfl
    have a7 : w2.cell? ⟨b0, off + 7, none⟩ = some (.int .i64 y.op) := hA 7 _ rfl
    have a8 : w2.cell? ⟨b0, off + 8, none⟩ = some (.int .i64 y.v.k) := hA 8 _ rfl
    have a9 : w2.cell? ⟨b0, off + 9, none⟩ = some (.int .i64 y.v.n) := hA 9 _ rfl
    have a10 : w2.cell? ⟨b0, off + 10, none⟩ = some (.string y.v.s) := hA 10 _ rfl
    have a11 : w2.cell? ⟨b0, off + 11, none⟩ = some (.string y.tb) := hA 11 _ rfl
    have a12 : w2.cell? ⟨b0, off + 12, none⟩ = some (.string y.nm) := hA 12 _ rfl
    have a13 : w2.cell? ⟨b0, off + 13, none⟩ = some (.slice y.A y.len y.c) := hA 13 _ rfl
    clear hA
    have hb2 : b0 < w2.heap.size := by omega
    have hb3 : b0 < w2.heap.size + 1 := by omega
    have hn0 : ¬ b0 = w2.heap.size := by omega
    have hn1 : ¬ b0 = w2.heap.size + 1 := by omega
    have hn2 : ¬ b0 = w.heap.size := by omega
    have o0 := HO.out.c 0 _ rfl
    have o6 := HO.out.c 6 _ rfl
    have lO : w.heap.size < w2.heap.size := HO.out.lt
    have lO1 : w.heap.size < w2.heap.size + 1 := by omega
    clear HO hs2
    go_upto_region 3 with (fail)
    go_cut [8, 9, 10] (fun p q o wx => ∃ g h, p = .pointer (some ⟨g, 0, none⟩) ∧ q = .pointer (some ⟨h, 0, none⟩) ∧ o = .int .i64 op ∧ Hid (Box wx g [.int .i64 x.op, .int .i64 x.v.k, .int .i64 x.v.n, .string x.v.s, .string x.tb, .string x.nm, .slice x.A x.len x.c]) ∧ Hid (Box wx h [.int .i64 y.op, .int .i64 y.v.k, .int .i64 y.v.n, .string y.v.s, .string y.tb, .string y.nm, .slice y.A y.len y.c]) ∧ g ≠ h ∧ w.heap.size + 2 ≤ g ∧ w.heap.size + 2 ≤ h ∧ Hid (Box wx (w.heap.size + 1) [.int .i64 0, .bool false, .int .i64 0, .int .i64 0, .string ⟨#[]⟩, .bool false, .bool false, .int .i64 0, .int .i64 0, .string ⟨#[]⟩, .bool false, .bool false]) ∧ Hid (Below w.heap.size w wx))
    case first =>
      go_region
      all_goals
        go_wp2_with fail
        go_meet
        have hs2 := HSZ.out
        exact ⟨_, _, rfl, rfl, rfl, Lib.hid (by first | exact (box_at (by simp)).drew | exact ((box_at (by simp)).alloc _).drew), Lib.hid (by first | exact (box_at (by simp)).drew | exact ((box_at (by simp)).alloc _).drew), by omega, by omega, by omega, Lib.hid (((HR.out.alloc _).alloc _).drew), Lib.hid (Below.drew ((HF.out.alloc HF.out.size _).alloc (by have := HF.out.size; simp; omega) _))⟩
    clear a0 a1 a2 a3 a4 a5 a6 a7 a8 a9 a10 a11 a12 a13 hb2 hb3 hn0 hn1 hn2 o0 o6 lO lO1 HR HF hb HSZ
    obtain ⟨g, h, rfl, rfl, rfl, HG, HH, hgh, hg, hh, HR, HF⟩ := hcut
    generalize wc = w3 at *
    rename_i Kz az
    refine az _ _ ?_
    clear az
    apply wp_seq_k
    intro _ _
    go_cut [10] (fun o wx => ∃ (x' y' : Eh) (op' : Int), o = .int .i64 op' ∧ Hid (Box wx g [.int .i64 x'.op, .int .i64 x'.v.k, .int .i64 x'.v.n, .string x'.v.s, .string x'.tb, .string x'.nm, .slice x'.A x'.len x'.c]) ∧ Hid (Box wx h [.int .i64 y'.op, .int .i64 y'.v.k, .int .i64 y'.v.n, .string y'.v.s, .string y'.tb, .string y'.nm, .slice y'.A y'.len y'.c]) ∧ Hid (Box wx (w.heap.size + 1) [.int .i64 0, .bool false, .int .i64 0, .int .i64 0, .string ⟨#[]⟩, .bool false, .bool false, .int .i64 0, .int .i64 0, .string ⟨#[]⟩, .bool false, .bool false]) ∧ Hid (Below w.heap.size w wx) ∧ Hid (op' = 8 ∨ op' = 10 ∨ op' = 11 ∨ op' = 12 ∨ op' = 13) ∧ Hid (RR = asks0 op' x' y' at1 kind))
    case first =>
      by_cases hs : x.op = 0 ∧ y.op = 1
      · obtain ⟨xo, xv, xtb, xnm, xA, xl, xc⟩ := x
        obtain ⟨yo, yv, ytb, ynm, yA, yl, yc⟩ := y
        dsimp only at hs HG HH HRR
        obtain ⟨rfl, rfl⟩ := hs
        have hne : ¬ g = h := hgh
        have hne2 : ¬ h = g := fun e => hgh e.symm
        have hRR : RR = asks0 (turnI op) ⟨1, yv, ytb, ynm, yA, yl, yc⟩ ⟨0, xv, xtb, xnm, xA, xl, xc⟩ at1 kind := by
          rw [← HRR.out]
          unfold asksP
          rw [if_pos ⟨rfl, rfl⟩]
        have hP1 := Lib.hid (puts7_other (puts7 HG.out (.int .i64 1) (.int .i64 yv.k) (.int .i64 yv.n) (.string yv.s) (.string ytb) (.string ynm) (.slice yA yl yc)) (show h ≠ g from hne2) (.int .i64 0) (.int .i64 xv.k) (.int .i64 xv.n) (.string xv.s) (.string xtb) (.string xnm) (.slice xA xl xc))
        have hP2 := Lib.hid (puts7 (puts7_other HH.out hgh (.int .i64 1) (.int .i64 yv.k) (.int .i64 yv.n) (.string yv.s) (.string ytb) (.string ynm) (.slice yA yl yc)) (.int .i64 0) (.int .i64 xv.k) (.int .i64 xv.n) (.string xv.s) (.string xtb) (.string xnm) (.slice xA xl xc))
        have hP3 := Lib.hid (puts7_other (puts7_other HR.out (show g ≠ w.heap.size + 1 by omega) (.int .i64 1) (.int .i64 yv.k) (.int .i64 yv.n) (.string yv.s) (.string ytb) (.string ynm) (.slice yA yl yc)) (show h ≠ w.heap.size + 1 by omega) (.int .i64 0) (.int .i64 xv.k) (.int .i64 xv.n) (.string xv.s) (.string xtb) (.string xnm) (.slice xA xl xc))
        have hP4 := Lib.hid (puts7_below (puts7_below HF.out (show w.heap.size ≤ g by omega) (.int .i64 1) (.int .i64 yv.k) (.int .i64 yv.n) (.string yv.s) (.string ytb) (.string ynm) (.slice yA yl yc)) (show w.heap.size ≤ h by omega) (.int .i64 0) (.int .i64 xv.k) (.int .i64 xv.n) (.string xv.s) (.string xtb) (.string xnm) (.slice xA xl xc))
        have HRR2 := Lib.hid hRR
        clear hRR HRR HR HF
        rcases hops with rfl | rfl | rfl | rfl | rfl
        all_goals
          have cHG0 := HG.out.c 0 _ rfl; have fHG0 := HG.out.f 0 (by simp); have cHG1 := HG.out.c 1 _ rfl; have fHG1 := HG.out.f 1 (by simp); have cHG2 := HG.out.c 2 _ rfl; have fHG2 := HG.out.f 2 (by simp); have cHG3 := HG.out.c 3 _ rfl; have fHG3 := HG.out.f 3 (by simp); have cHG4 := HG.out.c 4 _ rfl; have fHG4 := HG.out.f 4 (by simp); have cHG5 := HG.out.c 5 _ rfl; have fHG5 := HG.out.f 5 (by simp); have cHG6 := HG.out.c 6 _ rfl; have fHG6 := HG.out.f 6 (by simp); have lHG := HG.out.lt; have cHH0 := HH.out.c 0 _ rfl; have fHH0 := HH.out.f 0 (by simp); have cHH1 := HH.out.c 1 _ rfl; have fHH1 := HH.out.f 1 (by simp); have cHH2 := HH.out.c 2 _ rfl; have fHH2 := HH.out.f 2 (by simp); have cHH3 := HH.out.c 3 _ rfl; have fHH3 := HH.out.f 3 (by simp); have cHH4 := HH.out.c 4 _ rfl; have fHH4 := HH.out.f 4 (by simp); have cHH5 := HH.out.c 5 _ rfl; have fHH5 := HH.out.f 5 (by simp); have cHH6 := HH.out.c 6 _ rfl; have fHH6 := HH.out.f 6 (by simp); have lHH := HH.out.lt
          go_wp2_with fail
          clear cHG0 fHG0 cHG1 fHG1 cHG2 fHG2 cHG3 fHG3 cHG4 fHG4 cHG5 fHG5 cHG6 fHG6 lHG; clear cHH0 fHH0 cHH1 fHH1 cHH2 fHH2 cHH3 fHH3 cHH4 fHH4 cHH5 fHH5 cHH6 fHH6 lHH
          go_meet
          first | rw [xr0] | rw [xr1] | rw [xr2] | rw [xr3] | skip
          exact ⟨⟨1, yv, ytb, ynm, yA, yl, yc⟩, ⟨0, xv, xtb, xnm, xA, xl, xc⟩, _, rfl, hP1, hP2, hP3, hP4, Lib.hid (by decide), Lib.hid HRR2.out⟩
      · have hRR : RR = asks0 op x y at1 kind := by
          rw [← HRR.out]
          unfold asksP
          rw [if_neg hs]
        have HRR2 := Lib.hid hRR
        have HOPS := Lib.hid hops
        clear hRR HRR hops
        have c0 := HG.out.c 0 _ rfl
        have d0 := HH.out.c 0 _ rfl
        by_cases h1 : x.op = 0
        · have h2 : ¬ y.op = 1 := fun e => hs ⟨h1, e⟩
          clear hs
          go_wp2_with fail
          go_meet
          exact ⟨x, y, op, rfl, HG, HH, HR, HF, HOPS, HRR2⟩
        · clear hs
          go_wp2_with fail
          go_meet
          exact ⟨x, y, op, rfl, HG, HH, HR, HF, HOPS, HRR2⟩
    clear HG HH HR HF HRR hops hgh
    obtain ⟨x2, y2, op2, rfl, HG, HH, HR, HF, HOPS, HRR⟩ := hcut
    generalize wc = w4 at *
    go_upto_region 8 with (fail)
    go_cut [86] (fun q wx => ∃ b : Bool, q = .bool b ∧ wx = w4 ∧ Hid (b = true ↔ (x2.op ≠ 1 ∨ y2.op ≠ 0 ∨ x2.v.n ≠ at1 ∨ (y2.v.k ≠ 0 ∧ y2.v.k ≠ kind))))
    case first =>
      have c0 := HG.out.c 0 _ rfl
      have c2 := HG.out.c 2 _ rfl
      have d0 := HH.out.c 0 _ rfl
      have d1 := HH.out.c 1 _ rfl
      clear HG HH HR HF HRR HOPS
      go_wp2_with fail
      all_goals (go_meet; exact ⟨_, rfl, rfl, Lib.hid (by simp_all)⟩)
    obtain ⟨b, rfl, hw, hb⟩ := hcut
    subst hw
    generalize wc = w4 at *
    have HBB := Lib.hid hb.out
    clear hb
    cases b
    · have hRR : RR = (plan1 op2 y2.v, true) := by
        have q := HBB.out
        rw [HRR.out]
        unfold asks0
        rw [if_neg (fun h => by have := q.2 h; cases this)]
      clear HRR HBB HG
      subst hRR
      have hops := HOPS.out
      clear HOPS
      have hal := fun W => all_any 0 W
      unfold aggP at hal
      dsimp only at hal
      rcases hops with rfl | rfl | rfl | rfl | rfl
      · have cHH0 := HH.out.c 0 _ rfl; have fHH0 := HH.out.f 0 (by simp); have cHH1 := HH.out.c 1 _ rfl; have fHH1 := HH.out.f 1 (by simp); have cHH2 := HH.out.c 2 _ rfl; have fHH2 := HH.out.f 2 (by simp); have cHH3 := HH.out.c 3 _ rfl; have fHH3 := HH.out.f 3 (by simp); have cHH4 := HH.out.c 4 _ rfl; have fHH4 := HH.out.f 4 (by simp); have cHH5 := HH.out.c 5 _ rfl; have fHH5 := HH.out.f 5 (by simp); have cHH6 := HH.out.c 6 _ rfl; have fHH6 := HH.out.f 6 (by simp); have lHH := HH.out.lt
        go_wp2_with fail
        clear cHH0 fHH0 cHH1 fHH1 cHH2 fHH2 cHH3 fHH3 cHH4 fHH4 cHH5 fHH5 cHH6 fHH6 lHH
        refine (hal _).mono ?_; rintro e w5 ⟨rfl, h5⟩
        replace HH := Lib.hid (HH.out.below h5 HH.out.lt); replace HR := Lib.hid (HR.out.below h5 HR.out.lt); replace HF := Lib.hid (below_step' HF.out h5)
        clear h5 hal
        have hlt := HR.out.lt
        have hl2 := HH.out.lt
        have q1 := HH.out.c 1 _ rfl
        have q2 := HH.out.c 2 _ rfl
        have q3 := HH.out.c 3 _ rfl
        have k0 : w.heap.size + 1 < w5.heap.size + 1 := by omega
        have k1 : ¬ w.heap.size + 1 = w5.heap.size := by omega
        have k2 : ¬ w.heap.size + 1 = w5.heap.size + 1 := by omega
        have k3 : ¬ w5.heap.size = w.heap.size + 1 := by omega
        have k4 : ¬ w5.heap.size + 1 = w.heap.size + 1 := by omega
        have k5 : ¬ h = w5.heap.size := by omega
        have k6 : ¬ h = w5.heap.size + 1 := by omega
        have k7 : h < w5.heap.size + 1 := by omega
        go_upto_region 15 with (fail)
        go_region
        go_upto_region 20 with (fail)
        have HP5 := Lib.hid (((box_at (W := w5) (cs := #[.int .i64 0, .bool false, .int .i64 y2.v.k, .int .i64 y2.v.n, .string y2.v.s, .bool true, .bool false, .int .i64 y2.v.k, .int .i64 y2.v.n, .string y2.v.s, .bool true, .bool (y2.v.k == 0)]) (T := 32) rfl).alloc (.cells #[.bool false, .int .i64 y2.v.k, .int .i64 y2.v.n, .string y2.v.s, .bool true] 30)).drew)
        have HR5 := Lib.hid (((HR.out.alloc (.cells #[.int .i64 0, .bool false, .int .i64 y2.v.k, .int .i64 y2.v.n, .string y2.v.s, .bool true, .bool false, .int .i64 y2.v.k, .int .i64 y2.v.n, .string y2.v.s, .bool true, .bool (y2.v.k == 0)] 32)).alloc (.cells #[.bool false, .int .i64 y2.v.k, .int .i64 y2.v.n, .string y2.v.s, .bool true] 30)).drew)
        have HF5 : Hid (Below w.heap.size w ((w5.alloc (.cells #[.int .i64 0, .bool false, .int .i64 y2.v.k, .int .i64 y2.v.n, .string y2.v.s, .bool true, .bool false, .int .i64 y2.v.k, .int .i64 y2.v.n, .string y2.v.s, .bool true, .bool (y2.v.k == 0)] 32)).alloc (.cells #[.bool false, .int .i64 y2.v.k, .int .i64 y2.v.n, .string y2.v.s, .bool true] 30)).drew) := Lib.hid (Below.drew ((HF.out.alloc HF.out.size _).alloc (by have := HF.out.size; simp; omega) _))
        dsimp only at HP5
        generalize ((w5.alloc (.cells #[.int .i64 0, .bool false, .int .i64 y2.v.k, .int .i64 y2.v.n, .string y2.v.s, .bool true, .bool false, .int .i64 y2.v.k, .int .i64 y2.v.n, .string y2.v.s, .bool true, .bool (y2.v.k == 0)] 32)).alloc (.cells #[.bool false, .int .i64 y2.v.k, .int .i64 y2.v.n, .string y2.v.s, .bool true] 30)).drew = w6 at *
        generalize w5.heap.size = G at *
        clear HR HF HH q1 q2 q3 hlt hl2 k0 k5 k6 k7
        have cHP50 := HP5.out.c 0 _ rfl; have fHP50 := HP5.out.f 0 (by simp); have cHP51 := HP5.out.c 1 _ rfl; have fHP51 := HP5.out.f 1 (by simp); have cHP52 := HP5.out.c 2 _ rfl; have fHP52 := HP5.out.f 2 (by simp); have cHP53 := HP5.out.c 3 _ rfl; have fHP53 := HP5.out.f 3 (by simp); have cHP54 := HP5.out.c 4 _ rfl; have fHP54 := HP5.out.f 4 (by simp); have cHP55 := HP5.out.c 5 _ rfl; have fHP55 := HP5.out.f 5 (by simp); have cHP56 := HP5.out.c 6 _ rfl; have fHP56 := HP5.out.f 6 (by simp); have cHP57 := HP5.out.c 7 _ rfl; have fHP57 := HP5.out.f 7 (by simp); have cHP58 := HP5.out.c 8 _ rfl; have fHP58 := HP5.out.f 8 (by simp); have cHP59 := HP5.out.c 9 _ rfl; have fHP59 := HP5.out.f 9 (by simp); have cHP510 := HP5.out.c 10 _ rfl; have fHP510 := HP5.out.f 10 (by simp); have cHP511 := HP5.out.c 11 _ rfl; have fHP511 := HP5.out.f 11 (by simp); have lHP5 := HP5.out.lt; have cHR50 := HR5.out.c 0 _ rfl; have fHR50 := HR5.out.f 0 (by simp); have cHR51 := HR5.out.c 1 _ rfl; have fHR51 := HR5.out.f 1 (by simp); have cHR52 := HR5.out.c 2 _ rfl; have fHR52 := HR5.out.f 2 (by simp); have cHR53 := HR5.out.c 3 _ rfl; have fHR53 := HR5.out.f 3 (by simp); have cHR54 := HR5.out.c 4 _ rfl; have fHR54 := HR5.out.f 4 (by simp); have cHR55 := HR5.out.c 5 _ rfl; have fHR55 := HR5.out.f 5 (by simp); have cHR56 := HR5.out.c 6 _ rfl; have fHR56 := HR5.out.f 6 (by simp); have cHR57 := HR5.out.c 7 _ rfl; have fHR57 := HR5.out.f 7 (by simp); have cHR58 := HR5.out.c 8 _ rfl; have fHR58 := HR5.out.f 8 (by simp); have cHR59 := HR5.out.c 9 _ rfl; have fHR59 := HR5.out.f 9 (by simp); have cHR510 := HR5.out.c 10 _ rfl; have fHR510 := HR5.out.f 10 (by simp); have cHR511 := HR5.out.c 11 _ rfl; have fHR511 := HR5.out.f 11 (by simp); have lHR5 := HR5.out.lt
        go_wp2
        clear cHP50 fHP50 cHP51 fHP51 cHP52 fHP52 cHP53 fHP53 cHP54 fHP54 cHP55 fHP55 cHP56 fHP56 cHP57 fHP57 cHP58 fHP58 cHP59 fHP59 cHP510 fHP510 cHP511 fHP511 lHP5; clear cHR50 fHR50 cHR51 fHR51 cHR52 fHR52 cHR53 fHR53 cHR54 fHR54 cHR55 fHR55 cHR56 fHR56 cHR57 fHR57 cHR58 fHR58 cHR59 fHR59 cHR510 fHR510 cHR511 fHR511 lHR5
        have HP := Lib.hid (puts12 HR5.out (.int .i64 0) (.bool false) (.int .i64 y2.v.k) (.int .i64 y2.v.n) (.string y2.v.s) (.bool true) (.bool false) (.int .i64 y2.v.k) (.int .i64 y2.v.n) (.string y2.v.s) (.bool true) (.bool (y2.v.k == 0)))
        replace HF5 := Lib.hid (puts12_below HF5.out (show w.heap.size ≤ w.heap.size + 1 by omega) (.int .i64 0) (.bool false) (.int .i64 y2.v.k) (.int .i64 y2.v.n) (.string y2.v.s) (.bool true) (.bool false) (.int .i64 y2.v.k) (.int .i64 y2.v.n) (.string y2.v.s) (.bool true) (.bool (y2.v.k == 0)))
        clear HR5 HP5
        generalize ((((((((((((w6.setCell ⟨w.heap.size + 1, 0, none⟩ (.int .i64 0)).setCell ⟨w.heap.size + 1, 1, none⟩ (.bool false)).setCell ⟨w.heap.size + 1, 2, none⟩ (.int .i64 y2.v.k)).setCell ⟨w.heap.size + 1, 3, none⟩ (.int .i64 y2.v.n)).setCell ⟨w.heap.size + 1, 4, none⟩ (.string y2.v.s)).setCell ⟨w.heap.size + 1, 5, none⟩ (.bool true)).setCell ⟨w.heap.size + 1, 6, none⟩ (.bool false)).setCell ⟨w.heap.size + 1, 7, none⟩ (.int .i64 y2.v.k)).setCell ⟨w.heap.size + 1, 8, none⟩ (.int .i64 y2.v.n)).setCell ⟨w.heap.size + 1, 9, none⟩ (.string y2.v.s)).setCell ⟨w.heap.size + 1, 10, none⟩ (.bool true)).setCell ⟨w.heap.size + 1, 11, none⟩ (.bool (y2.v.k == 0))) = w9 at *
        have cHP0 := HP.out.c 0 _ rfl; have fHP0 := HP.out.f 0 (by simp); have cHP1 := HP.out.c 1 _ rfl; have fHP1 := HP.out.f 1 (by simp); have cHP2 := HP.out.c 2 _ rfl; have fHP2 := HP.out.f 2 (by simp); have cHP3 := HP.out.c 3 _ rfl; have fHP3 := HP.out.f 3 (by simp); have cHP4 := HP.out.c 4 _ rfl; have fHP4 := HP.out.f 4 (by simp); have cHP5 := HP.out.c 5 _ rfl; have fHP5 := HP.out.f 5 (by simp); have cHP6 := HP.out.c 6 _ rfl; have fHP6 := HP.out.f 6 (by simp); have cHP7 := HP.out.c 7 _ rfl; have fHP7 := HP.out.f 7 (by simp); have cHP8 := HP.out.c 8 _ rfl; have fHP8 := HP.out.f 8 (by simp); have cHP9 := HP.out.c 9 _ rfl; have fHP9 := HP.out.f 9 (by simp); have cHP10 := HP.out.c 10 _ rfl; have fHP10 := HP.out.f 10 (by simp); have cHP11 := HP.out.c 11 _ rfl; have fHP11 := HP.out.f 11 (by simp); have lHP := HP.out.lt
        refine bodyPost_ret (by simp [results, Try.results52, go_sem, cHP0, cHP1, cHP2, cHP3, cHP4, cHP5, cHP6, cHP7, cHP8, cHP9, cHP10, cHP11]; rfl) rfl ?_
        exact ⟨rfl, HF5.out⟩
      · have cHH0 := HH.out.c 0 _ rfl; have fHH0 := HH.out.f 0 (by simp); have cHH1 := HH.out.c 1 _ rfl; have fHH1 := HH.out.f 1 (by simp); have cHH2 := HH.out.c 2 _ rfl; have fHH2 := HH.out.f 2 (by simp); have cHH3 := HH.out.c 3 _ rfl; have fHH3 := HH.out.f 3 (by simp); have cHH4 := HH.out.c 4 _ rfl; have fHH4 := HH.out.f 4 (by simp); have cHH5 := HH.out.c 5 _ rfl; have fHH5 := HH.out.f 5 (by simp); have cHH6 := HH.out.c 6 _ rfl; have fHH6 := HH.out.f 6 (by simp); have lHH := HH.out.lt
        go_wp2_with fail
        clear cHH0 fHH0 cHH1 fHH1 cHH2 fHH2 cHH3 fHH3 cHH4 fHH4 cHH5 fHH5 cHH6 fHH6 lHH
        refine (hal _).mono ?_; rintro e w5 ⟨rfl, h5⟩
        replace HH := Lib.hid (HH.out.below h5 HH.out.lt); replace HR := Lib.hid (HR.out.below h5 HR.out.lt); replace HF := Lib.hid (below_step' HF.out h5)
        clear h5 hal
        have hlt := HR.out.lt
        have hl2 := HH.out.lt
        have q1 := HH.out.c 1 _ rfl
        have q2 := HH.out.c 2 _ rfl
        have q3 := HH.out.c 3 _ rfl
        have k0 : w.heap.size + 1 < w5.heap.size + 1 := by omega
        have k1 : ¬ w.heap.size + 1 = w5.heap.size := by omega
        have k2 : ¬ w.heap.size + 1 = w5.heap.size + 1 := by omega
        have k3 : ¬ w5.heap.size = w.heap.size + 1 := by omega
        have k4 : ¬ w5.heap.size + 1 = w.heap.size + 1 := by omega
        have k5 : ¬ h = w5.heap.size := by omega
        have k6 : ¬ h = w5.heap.size + 1 := by omega
        have k7 : h < w5.heap.size + 1 := by omega
        go_upto_region 20 with (fail)
        have HP5 := Lib.hid (((box_at (W := w5) (cs := #[.int .i64 0, .bool true, .int .i64 0, .int .i64 0, .string nos, .bool false, .bool false, .int .i64 y2.v.k, .int .i64 y2.v.n, .string y2.v.s, .bool false, .bool (y2.v.k == 0)]) (T := 32) rfl).alloc (.cells #[.bool false, .int .i64 y2.v.k, .int .i64 y2.v.n, .string y2.v.s, .bool false] 30)))
        have HR5 := Lib.hid (((HR.out.alloc (.cells #[.int .i64 0, .bool true, .int .i64 0, .int .i64 0, .string nos, .bool false, .bool false, .int .i64 y2.v.k, .int .i64 y2.v.n, .string y2.v.s, .bool false, .bool (y2.v.k == 0)] 32)).alloc (.cells #[.bool false, .int .i64 y2.v.k, .int .i64 y2.v.n, .string y2.v.s, .bool false] 30)))
        have HF5 : Hid (Below w.heap.size w ((w5.alloc (.cells #[.int .i64 0, .bool true, .int .i64 0, .int .i64 0, .string nos, .bool false, .bool false, .int .i64 y2.v.k, .int .i64 y2.v.n, .string y2.v.s, .bool false, .bool (y2.v.k == 0)] 32)).alloc (.cells #[.bool false, .int .i64 y2.v.k, .int .i64 y2.v.n, .string y2.v.s, .bool false] 30))) := Lib.hid (((HF.out.alloc HF.out.size _).alloc (by have := HF.out.size; simp; omega) _))
        dsimp only at HP5
        generalize ((w5.alloc (.cells #[.int .i64 0, .bool true, .int .i64 0, .int .i64 0, .string nos, .bool false, .bool false, .int .i64 y2.v.k, .int .i64 y2.v.n, .string y2.v.s, .bool false, .bool (y2.v.k == 0)] 32)).alloc (.cells #[.bool false, .int .i64 y2.v.k, .int .i64 y2.v.n, .string y2.v.s, .bool false] 30)) = w6 at *
        generalize w5.heap.size = G at *
        clear HR HF HH q1 q2 q3 hlt hl2 k0 k5 k6 k7
        have cHP50 := HP5.out.c 0 _ rfl; have fHP50 := HP5.out.f 0 (by simp); have cHP51 := HP5.out.c 1 _ rfl; have fHP51 := HP5.out.f 1 (by simp); have cHP52 := HP5.out.c 2 _ rfl; have fHP52 := HP5.out.f 2 (by simp); have cHP53 := HP5.out.c 3 _ rfl; have fHP53 := HP5.out.f 3 (by simp); have cHP54 := HP5.out.c 4 _ rfl; have fHP54 := HP5.out.f 4 (by simp); have cHP55 := HP5.out.c 5 _ rfl; have fHP55 := HP5.out.f 5 (by simp); have cHP56 := HP5.out.c 6 _ rfl; have fHP56 := HP5.out.f 6 (by simp); have cHP57 := HP5.out.c 7 _ rfl; have fHP57 := HP5.out.f 7 (by simp); have cHP58 := HP5.out.c 8 _ rfl; have fHP58 := HP5.out.f 8 (by simp); have cHP59 := HP5.out.c 9 _ rfl; have fHP59 := HP5.out.f 9 (by simp); have cHP510 := HP5.out.c 10 _ rfl; have fHP510 := HP5.out.f 10 (by simp); have cHP511 := HP5.out.c 11 _ rfl; have fHP511 := HP5.out.f 11 (by simp); have lHP5 := HP5.out.lt; have cHR50 := HR5.out.c 0 _ rfl; have fHR50 := HR5.out.f 0 (by simp); have cHR51 := HR5.out.c 1 _ rfl; have fHR51 := HR5.out.f 1 (by simp); have cHR52 := HR5.out.c 2 _ rfl; have fHR52 := HR5.out.f 2 (by simp); have cHR53 := HR5.out.c 3 _ rfl; have fHR53 := HR5.out.f 3 (by simp); have cHR54 := HR5.out.c 4 _ rfl; have fHR54 := HR5.out.f 4 (by simp); have cHR55 := HR5.out.c 5 _ rfl; have fHR55 := HR5.out.f 5 (by simp); have cHR56 := HR5.out.c 6 _ rfl; have fHR56 := HR5.out.f 6 (by simp); have cHR57 := HR5.out.c 7 _ rfl; have fHR57 := HR5.out.f 7 (by simp); have cHR58 := HR5.out.c 8 _ rfl; have fHR58 := HR5.out.f 8 (by simp); have cHR59 := HR5.out.c 9 _ rfl; have fHR59 := HR5.out.f 9 (by simp); have cHR510 := HR5.out.c 10 _ rfl; have fHR510 := HR5.out.f 10 (by simp); have cHR511 := HR5.out.c 11 _ rfl; have fHR511 := HR5.out.f 11 (by simp); have lHR5 := HR5.out.lt
        go_wp2
        clear cHP50 fHP50 cHP51 fHP51 cHP52 fHP52 cHP53 fHP53 cHP54 fHP54 cHP55 fHP55 cHP56 fHP56 cHP57 fHP57 cHP58 fHP58 cHP59 fHP59 cHP510 fHP510 cHP511 fHP511 lHP5; clear cHR50 fHR50 cHR51 fHR51 cHR52 fHR52 cHR53 fHR53 cHR54 fHR54 cHR55 fHR55 cHR56 fHR56 cHR57 fHR57 cHR58 fHR58 cHR59 fHR59 cHR510 fHR510 cHR511 fHR511 lHR5
        have HP := Lib.hid (puts12 HR5.out (.int .i64 0) (.bool true) (.int .i64 0) (.int .i64 0) (.string nos) (.bool false) (.bool false) (.int .i64 y2.v.k) (.int .i64 y2.v.n) (.string y2.v.s) (.bool false) (.bool (y2.v.k == 0)))
        replace HF5 := Lib.hid (puts12_below HF5.out (show w.heap.size ≤ w.heap.size + 1 by omega) (.int .i64 0) (.bool true) (.int .i64 0) (.int .i64 0) (.string nos) (.bool false) (.bool false) (.int .i64 y2.v.k) (.int .i64 y2.v.n) (.string y2.v.s) (.bool false) (.bool (y2.v.k == 0)))
        clear HR5 HP5
        generalize ((((((((((((w6.setCell ⟨w.heap.size + 1, 0, none⟩ (.int .i64 0)).setCell ⟨w.heap.size + 1, 1, none⟩ (.bool true)).setCell ⟨w.heap.size + 1, 2, none⟩ (.int .i64 0)).setCell ⟨w.heap.size + 1, 3, none⟩ (.int .i64 0)).setCell ⟨w.heap.size + 1, 4, none⟩ (.string nos)).setCell ⟨w.heap.size + 1, 5, none⟩ (.bool false)).setCell ⟨w.heap.size + 1, 6, none⟩ (.bool false)).setCell ⟨w.heap.size + 1, 7, none⟩ (.int .i64 y2.v.k)).setCell ⟨w.heap.size + 1, 8, none⟩ (.int .i64 y2.v.n)).setCell ⟨w.heap.size + 1, 9, none⟩ (.string y2.v.s)).setCell ⟨w.heap.size + 1, 10, none⟩ (.bool false)).setCell ⟨w.heap.size + 1, 11, none⟩ (.bool (y2.v.k == 0))) = w9 at *
        have cHP0 := HP.out.c 0 _ rfl; have fHP0 := HP.out.f 0 (by simp); have cHP1 := HP.out.c 1 _ rfl; have fHP1 := HP.out.f 1 (by simp); have cHP2 := HP.out.c 2 _ rfl; have fHP2 := HP.out.f 2 (by simp); have cHP3 := HP.out.c 3 _ rfl; have fHP3 := HP.out.f 3 (by simp); have cHP4 := HP.out.c 4 _ rfl; have fHP4 := HP.out.f 4 (by simp); have cHP5 := HP.out.c 5 _ rfl; have fHP5 := HP.out.f 5 (by simp); have cHP6 := HP.out.c 6 _ rfl; have fHP6 := HP.out.f 6 (by simp); have cHP7 := HP.out.c 7 _ rfl; have fHP7 := HP.out.f 7 (by simp); have cHP8 := HP.out.c 8 _ rfl; have fHP8 := HP.out.f 8 (by simp); have cHP9 := HP.out.c 9 _ rfl; have fHP9 := HP.out.f 9 (by simp); have cHP10 := HP.out.c 10 _ rfl; have fHP10 := HP.out.f 10 (by simp); have cHP11 := HP.out.c 11 _ rfl; have fHP11 := HP.out.f 11 (by simp); have lHP := HP.out.lt
        refine bodyPost_ret (by simp [results, Try.results52, go_sem, cHP0, cHP1, cHP2, cHP3, cHP4, cHP5, cHP6, cHP7, cHP8, cHP9, cHP10, cHP11]; rfl) rfl ?_
        exact ⟨rfl, HF5.out⟩
      · have cHH0 := HH.out.c 0 _ rfl; have fHH0 := HH.out.f 0 (by simp); have cHH1 := HH.out.c 1 _ rfl; have fHH1 := HH.out.f 1 (by simp); have cHH2 := HH.out.c 2 _ rfl; have fHH2 := HH.out.f 2 (by simp); have cHH3 := HH.out.c 3 _ rfl; have fHH3 := HH.out.f 3 (by simp); have cHH4 := HH.out.c 4 _ rfl; have fHH4 := HH.out.f 4 (by simp); have cHH5 := HH.out.c 5 _ rfl; have fHH5 := HH.out.f 5 (by simp); have cHH6 := HH.out.c 6 _ rfl; have fHH6 := HH.out.f 6 (by simp); have lHH := HH.out.lt
        go_wp2_with fail
        clear cHH0 fHH0 cHH1 fHH1 cHH2 fHH2 cHH3 fHH3 cHH4 fHH4 cHH5 fHH5 cHH6 fHH6 lHH
        refine (hal _).mono ?_; rintro e w5 ⟨rfl, h5⟩
        replace HH := Lib.hid (HH.out.below h5 HH.out.lt); replace HR := Lib.hid (HR.out.below h5 HR.out.lt); replace HF := Lib.hid (below_step' HF.out h5)
        clear h5 hal
        have hlt := HR.out.lt
        have hl2 := HH.out.lt
        have q1 := HH.out.c 1 _ rfl
        have q2 := HH.out.c 2 _ rfl
        have q3 := HH.out.c 3 _ rfl
        have k0 : w.heap.size + 1 < w5.heap.size + 1 := by omega
        have k1 : ¬ w.heap.size + 1 = w5.heap.size := by omega
        have k2 : ¬ w.heap.size + 1 = w5.heap.size + 1 := by omega
        have k3 : ¬ w5.heap.size = w.heap.size + 1 := by omega
        have k4 : ¬ w5.heap.size + 1 = w.heap.size + 1 := by omega
        have k5 : ¬ h = w5.heap.size := by omega
        have k6 : ¬ h = w5.heap.size + 1 := by omega
        have k7 : h < w5.heap.size + 1 := by omega
        go_upto_region 20 with (fail)
        have HP5 := Lib.hid (((box_at (W := w5) (cs := #[.int .i64 0, .bool true, .int .i64 0, .int .i64 0, .string nos, .bool false, .bool false, .int .i64 y2.v.k, .int .i64 y2.v.n, .string y2.v.s, .bool true, .bool (y2.v.k == 0)]) (T := 32) rfl).alloc (.cells #[.bool false, .int .i64 y2.v.k, .int .i64 y2.v.n, .string y2.v.s, .bool true] 30)))
        have HR5 := Lib.hid (((HR.out.alloc (.cells #[.int .i64 0, .bool true, .int .i64 0, .int .i64 0, .string nos, .bool false, .bool false, .int .i64 y2.v.k, .int .i64 y2.v.n, .string y2.v.s, .bool true, .bool (y2.v.k == 0)] 32)).alloc (.cells #[.bool false, .int .i64 y2.v.k, .int .i64 y2.v.n, .string y2.v.s, .bool true] 30)))
        have HF5 : Hid (Below w.heap.size w ((w5.alloc (.cells #[.int .i64 0, .bool true, .int .i64 0, .int .i64 0, .string nos, .bool false, .bool false, .int .i64 y2.v.k, .int .i64 y2.v.n, .string y2.v.s, .bool true, .bool (y2.v.k == 0)] 32)).alloc (.cells #[.bool false, .int .i64 y2.v.k, .int .i64 y2.v.n, .string y2.v.s, .bool true] 30))) := Lib.hid (((HF.out.alloc HF.out.size _).alloc (by have := HF.out.size; simp; omega) _))
        dsimp only at HP5
        generalize ((w5.alloc (.cells #[.int .i64 0, .bool true, .int .i64 0, .int .i64 0, .string nos, .bool false, .bool false, .int .i64 y2.v.k, .int .i64 y2.v.n, .string y2.v.s, .bool true, .bool (y2.v.k == 0)] 32)).alloc (.cells #[.bool false, .int .i64 y2.v.k, .int .i64 y2.v.n, .string y2.v.s, .bool true] 30)) = w6 at *
        generalize w5.heap.size = G at *
        clear HR HF HH q1 q2 q3 hlt hl2 k0 k5 k6 k7
        have cHP50 := HP5.out.c 0 _ rfl; have fHP50 := HP5.out.f 0 (by simp); have cHP51 := HP5.out.c 1 _ rfl; have fHP51 := HP5.out.f 1 (by simp); have cHP52 := HP5.out.c 2 _ rfl; have fHP52 := HP5.out.f 2 (by simp); have cHP53 := HP5.out.c 3 _ rfl; have fHP53 := HP5.out.f 3 (by simp); have cHP54 := HP5.out.c 4 _ rfl; have fHP54 := HP5.out.f 4 (by simp); have cHP55 := HP5.out.c 5 _ rfl; have fHP55 := HP5.out.f 5 (by simp); have cHP56 := HP5.out.c 6 _ rfl; have fHP56 := HP5.out.f 6 (by simp); have cHP57 := HP5.out.c 7 _ rfl; have fHP57 := HP5.out.f 7 (by simp); have cHP58 := HP5.out.c 8 _ rfl; have fHP58 := HP5.out.f 8 (by simp); have cHP59 := HP5.out.c 9 _ rfl; have fHP59 := HP5.out.f 9 (by simp); have cHP510 := HP5.out.c 10 _ rfl; have fHP510 := HP5.out.f 10 (by simp); have cHP511 := HP5.out.c 11 _ rfl; have fHP511 := HP5.out.f 11 (by simp); have lHP5 := HP5.out.lt; have cHR50 := HR5.out.c 0 _ rfl; have fHR50 := HR5.out.f 0 (by simp); have cHR51 := HR5.out.c 1 _ rfl; have fHR51 := HR5.out.f 1 (by simp); have cHR52 := HR5.out.c 2 _ rfl; have fHR52 := HR5.out.f 2 (by simp); have cHR53 := HR5.out.c 3 _ rfl; have fHR53 := HR5.out.f 3 (by simp); have cHR54 := HR5.out.c 4 _ rfl; have fHR54 := HR5.out.f 4 (by simp); have cHR55 := HR5.out.c 5 _ rfl; have fHR55 := HR5.out.f 5 (by simp); have cHR56 := HR5.out.c 6 _ rfl; have fHR56 := HR5.out.f 6 (by simp); have cHR57 := HR5.out.c 7 _ rfl; have fHR57 := HR5.out.f 7 (by simp); have cHR58 := HR5.out.c 8 _ rfl; have fHR58 := HR5.out.f 8 (by simp); have cHR59 := HR5.out.c 9 _ rfl; have fHR59 := HR5.out.f 9 (by simp); have cHR510 := HR5.out.c 10 _ rfl; have fHR510 := HR5.out.f 10 (by simp); have cHR511 := HR5.out.c 11 _ rfl; have fHR511 := HR5.out.f 11 (by simp); have lHR5 := HR5.out.lt
        go_wp2
        clear cHP50 fHP50 cHP51 fHP51 cHP52 fHP52 cHP53 fHP53 cHP54 fHP54 cHP55 fHP55 cHP56 fHP56 cHP57 fHP57 cHP58 fHP58 cHP59 fHP59 cHP510 fHP510 cHP511 fHP511 lHP5; clear cHR50 fHR50 cHR51 fHR51 cHR52 fHR52 cHR53 fHR53 cHR54 fHR54 cHR55 fHR55 cHR56 fHR56 cHR57 fHR57 cHR58 fHR58 cHR59 fHR59 cHR510 fHR510 cHR511 fHR511 lHR5
        have HP := Lib.hid (puts12 HR5.out (.int .i64 0) (.bool true) (.int .i64 0) (.int .i64 0) (.string nos) (.bool false) (.bool false) (.int .i64 y2.v.k) (.int .i64 y2.v.n) (.string y2.v.s) (.bool true) (.bool (y2.v.k == 0)))
        replace HF5 := Lib.hid (puts12_below HF5.out (show w.heap.size ≤ w.heap.size + 1 by omega) (.int .i64 0) (.bool true) (.int .i64 0) (.int .i64 0) (.string nos) (.bool false) (.bool false) (.int .i64 y2.v.k) (.int .i64 y2.v.n) (.string y2.v.s) (.bool true) (.bool (y2.v.k == 0)))
        clear HR5 HP5
        generalize ((((((((((((w6.setCell ⟨w.heap.size + 1, 0, none⟩ (.int .i64 0)).setCell ⟨w.heap.size + 1, 1, none⟩ (.bool true)).setCell ⟨w.heap.size + 1, 2, none⟩ (.int .i64 0)).setCell ⟨w.heap.size + 1, 3, none⟩ (.int .i64 0)).setCell ⟨w.heap.size + 1, 4, none⟩ (.string nos)).setCell ⟨w.heap.size + 1, 5, none⟩ (.bool false)).setCell ⟨w.heap.size + 1, 6, none⟩ (.bool false)).setCell ⟨w.heap.size + 1, 7, none⟩ (.int .i64 y2.v.k)).setCell ⟨w.heap.size + 1, 8, none⟩ (.int .i64 y2.v.n)).setCell ⟨w.heap.size + 1, 9, none⟩ (.string y2.v.s)).setCell ⟨w.heap.size + 1, 10, none⟩ (.bool true)).setCell ⟨w.heap.size + 1, 11, none⟩ (.bool (y2.v.k == 0))) = w9 at *
        have cHP0 := HP.out.c 0 _ rfl; have fHP0 := HP.out.f 0 (by simp); have cHP1 := HP.out.c 1 _ rfl; have fHP1 := HP.out.f 1 (by simp); have cHP2 := HP.out.c 2 _ rfl; have fHP2 := HP.out.f 2 (by simp); have cHP3 := HP.out.c 3 _ rfl; have fHP3 := HP.out.f 3 (by simp); have cHP4 := HP.out.c 4 _ rfl; have fHP4 := HP.out.f 4 (by simp); have cHP5 := HP.out.c 5 _ rfl; have fHP5 := HP.out.f 5 (by simp); have cHP6 := HP.out.c 6 _ rfl; have fHP6 := HP.out.f 6 (by simp); have cHP7 := HP.out.c 7 _ rfl; have fHP7 := HP.out.f 7 (by simp); have cHP8 := HP.out.c 8 _ rfl; have fHP8 := HP.out.f 8 (by simp); have cHP9 := HP.out.c 9 _ rfl; have fHP9 := HP.out.f 9 (by simp); have cHP10 := HP.out.c 10 _ rfl; have fHP10 := HP.out.f 10 (by simp); have cHP11 := HP.out.c 11 _ rfl; have fHP11 := HP.out.f 11 (by simp); have lHP := HP.out.lt
        refine bodyPost_ret (by simp [results, Try.results52, go_sem, cHP0, cHP1, cHP2, cHP3, cHP4, cHP5, cHP6, cHP7, cHP8, cHP9, cHP10, cHP11]; rfl) rfl ?_
        exact ⟨rfl, HF5.out⟩
      · have cHH0 := HH.out.c 0 _ rfl; have fHH0 := HH.out.f 0 (by simp); have cHH1 := HH.out.c 1 _ rfl; have fHH1 := HH.out.f 1 (by simp); have cHH2 := HH.out.c 2 _ rfl; have fHH2 := HH.out.f 2 (by simp); have cHH3 := HH.out.c 3 _ rfl; have fHH3 := HH.out.f 3 (by simp); have cHH4 := HH.out.c 4 _ rfl; have fHH4 := HH.out.f 4 (by simp); have cHH5 := HH.out.c 5 _ rfl; have fHH5 := HH.out.f 5 (by simp); have cHH6 := HH.out.c 6 _ rfl; have fHH6 := HH.out.f 6 (by simp); have lHH := HH.out.lt
        go_wp2_with fail
        clear cHH0 fHH0 cHH1 fHH1 cHH2 fHH2 cHH3 fHH3 cHH4 fHH4 cHH5 fHH5 cHH6 fHH6 lHH
        refine (hal _).mono ?_; rintro e w5 ⟨rfl, h5⟩
        replace HH := Lib.hid (HH.out.below h5 HH.out.lt); replace HR := Lib.hid (HR.out.below h5 HR.out.lt); replace HF := Lib.hid (below_step' HF.out h5)
        clear h5 hal
        have hlt := HR.out.lt
        have hl2 := HH.out.lt
        have q1 := HH.out.c 1 _ rfl
        have q2 := HH.out.c 2 _ rfl
        have q3 := HH.out.c 3 _ rfl
        have k0 : w.heap.size + 1 < w5.heap.size + 1 := by omega
        have k1 : ¬ w.heap.size + 1 = w5.heap.size := by omega
        have k2 : ¬ w.heap.size + 1 = w5.heap.size + 1 := by omega
        have k3 : ¬ w5.heap.size = w.heap.size + 1 := by omega
        have k4 : ¬ w5.heap.size + 1 = w.heap.size + 1 := by omega
        have k5 : ¬ h = w5.heap.size := by omega
        have k6 : ¬ h = w5.heap.size + 1 := by omega
        have k7 : h < w5.heap.size + 1 := by omega
        go_upto_region 20 with (fail)
        have HP5 := Lib.hid (((box_at (W := w5) (cs := #[.int .i64 0, .bool false, .int .i64 y2.v.k, .int .i64 y2.v.n, .string y2.v.s, .bool false, .bool true, .int .i64 0, .int .i64 0, .string nos, .bool false, .bool (y2.v.k == 0)]) (T := 32) rfl).alloc (.cells #[.bool false, .int .i64 y2.v.k, .int .i64 y2.v.n, .string y2.v.s, .bool false] 30)))
        have HR5 := Lib.hid (((HR.out.alloc (.cells #[.int .i64 0, .bool false, .int .i64 y2.v.k, .int .i64 y2.v.n, .string y2.v.s, .bool false, .bool true, .int .i64 0, .int .i64 0, .string nos, .bool false, .bool (y2.v.k == 0)] 32)).alloc (.cells #[.bool false, .int .i64 y2.v.k, .int .i64 y2.v.n, .string y2.v.s, .bool false] 30)))
        have HF5 : Hid (Below w.heap.size w ((w5.alloc (.cells #[.int .i64 0, .bool false, .int .i64 y2.v.k, .int .i64 y2.v.n, .string y2.v.s, .bool false, .bool true, .int .i64 0, .int .i64 0, .string nos, .bool false, .bool (y2.v.k == 0)] 32)).alloc (.cells #[.bool false, .int .i64 y2.v.k, .int .i64 y2.v.n, .string y2.v.s, .bool false] 30))) := Lib.hid (((HF.out.alloc HF.out.size _).alloc (by have := HF.out.size; simp; omega) _))
        dsimp only at HP5
        generalize ((w5.alloc (.cells #[.int .i64 0, .bool false, .int .i64 y2.v.k, .int .i64 y2.v.n, .string y2.v.s, .bool false, .bool true, .int .i64 0, .int .i64 0, .string nos, .bool false, .bool (y2.v.k == 0)] 32)).alloc (.cells #[.bool false, .int .i64 y2.v.k, .int .i64 y2.v.n, .string y2.v.s, .bool false] 30)) = w6 at *
        generalize w5.heap.size = G at *
        clear HR HF HH q1 q2 q3 hlt hl2 k0 k5 k6 k7
        have cHP50 := HP5.out.c 0 _ rfl; have fHP50 := HP5.out.f 0 (by simp); have cHP51 := HP5.out.c 1 _ rfl; have fHP51 := HP5.out.f 1 (by simp); have cHP52 := HP5.out.c 2 _ rfl; have fHP52 := HP5.out.f 2 (by simp); have cHP53 := HP5.out.c 3 _ rfl; have fHP53 := HP5.out.f 3 (by simp); have cHP54 := HP5.out.c 4 _ rfl; have fHP54 := HP5.out.f 4 (by simp); have cHP55 := HP5.out.c 5 _ rfl; have fHP55 := HP5.out.f 5 (by simp); have cHP56 := HP5.out.c 6 _ rfl; have fHP56 := HP5.out.f 6 (by simp); have cHP57 := HP5.out.c 7 _ rfl; have fHP57 := HP5.out.f 7 (by simp); have cHP58 := HP5.out.c 8 _ rfl; have fHP58 := HP5.out.f 8 (by simp); have cHP59 := HP5.out.c 9 _ rfl; have fHP59 := HP5.out.f 9 (by simp); have cHP510 := HP5.out.c 10 _ rfl; have fHP510 := HP5.out.f 10 (by simp); have cHP511 := HP5.out.c 11 _ rfl; have fHP511 := HP5.out.f 11 (by simp); have lHP5 := HP5.out.lt; have cHR50 := HR5.out.c 0 _ rfl; have fHR50 := HR5.out.f 0 (by simp); have cHR51 := HR5.out.c 1 _ rfl; have fHR51 := HR5.out.f 1 (by simp); have cHR52 := HR5.out.c 2 _ rfl; have fHR52 := HR5.out.f 2 (by simp); have cHR53 := HR5.out.c 3 _ rfl; have fHR53 := HR5.out.f 3 (by simp); have cHR54 := HR5.out.c 4 _ rfl; have fHR54 := HR5.out.f 4 (by simp); have cHR55 := HR5.out.c 5 _ rfl; have fHR55 := HR5.out.f 5 (by simp); have cHR56 := HR5.out.c 6 _ rfl; have fHR56 := HR5.out.f 6 (by simp); have cHR57 := HR5.out.c 7 _ rfl; have fHR57 := HR5.out.f 7 (by simp); have cHR58 := HR5.out.c 8 _ rfl; have fHR58 := HR5.out.f 8 (by simp); have cHR59 := HR5.out.c 9 _ rfl; have fHR59 := HR5.out.f 9 (by simp); have cHR510 := HR5.out.c 10 _ rfl; have fHR510 := HR5.out.f 10 (by simp); have cHR511 := HR5.out.c 11 _ rfl; have fHR511 := HR5.out.f 11 (by simp); have lHR5 := HR5.out.lt
        go_wp2
        clear cHP50 fHP50 cHP51 fHP51 cHP52 fHP52 cHP53 fHP53 cHP54 fHP54 cHP55 fHP55 cHP56 fHP56 cHP57 fHP57 cHP58 fHP58 cHP59 fHP59 cHP510 fHP510 cHP511 fHP511 lHP5; clear cHR50 fHR50 cHR51 fHR51 cHR52 fHR52 cHR53 fHR53 cHR54 fHR54 cHR55 fHR55 cHR56 fHR56 cHR57 fHR57 cHR58 fHR58 cHR59 fHR59 cHR510 fHR510 cHR511 fHR511 lHR5
        have HP := Lib.hid (puts12 HR5.out (.int .i64 0) (.bool false) (.int .i64 y2.v.k) (.int .i64 y2.v.n) (.string y2.v.s) (.bool false) (.bool true) (.int .i64 0) (.int .i64 0) (.string nos) (.bool false) (.bool (y2.v.k == 0)))
        replace HF5 := Lib.hid (puts12_below HF5.out (show w.heap.size ≤ w.heap.size + 1 by omega) (.int .i64 0) (.bool false) (.int .i64 y2.v.k) (.int .i64 y2.v.n) (.string y2.v.s) (.bool false) (.bool true) (.int .i64 0) (.int .i64 0) (.string nos) (.bool false) (.bool (y2.v.k == 0)))
        clear HR5 HP5
        generalize ((((((((((((w6.setCell ⟨w.heap.size + 1, 0, none⟩ (.int .i64 0)).setCell ⟨w.heap.size + 1, 1, none⟩ (.bool false)).setCell ⟨w.heap.size + 1, 2, none⟩ (.int .i64 y2.v.k)).setCell ⟨w.heap.size + 1, 3, none⟩ (.int .i64 y2.v.n)).setCell ⟨w.heap.size + 1, 4, none⟩ (.string y2.v.s)).setCell ⟨w.heap.size + 1, 5, none⟩ (.bool false)).setCell ⟨w.heap.size + 1, 6, none⟩ (.bool true)).setCell ⟨w.heap.size + 1, 7, none⟩ (.int .i64 0)).setCell ⟨w.heap.size + 1, 8, none⟩ (.int .i64 0)).setCell ⟨w.heap.size + 1, 9, none⟩ (.string nos)).setCell ⟨w.heap.size + 1, 10, none⟩ (.bool false)).setCell ⟨w.heap.size + 1, 11, none⟩ (.bool (y2.v.k == 0))) = w9 at *
        have cHP0 := HP.out.c 0 _ rfl; have fHP0 := HP.out.f 0 (by simp); have cHP1 := HP.out.c 1 _ rfl; have fHP1 := HP.out.f 1 (by simp); have cHP2 := HP.out.c 2 _ rfl; have fHP2 := HP.out.f 2 (by simp); have cHP3 := HP.out.c 3 _ rfl; have fHP3 := HP.out.f 3 (by simp); have cHP4 := HP.out.c 4 _ rfl; have fHP4 := HP.out.f 4 (by simp); have cHP5 := HP.out.c 5 _ rfl; have fHP5 := HP.out.f 5 (by simp); have cHP6 := HP.out.c 6 _ rfl; have fHP6 := HP.out.f 6 (by simp); have cHP7 := HP.out.c 7 _ rfl; have fHP7 := HP.out.f 7 (by simp); have cHP8 := HP.out.c 8 _ rfl; have fHP8 := HP.out.f 8 (by simp); have cHP9 := HP.out.c 9 _ rfl; have fHP9 := HP.out.f 9 (by simp); have cHP10 := HP.out.c 10 _ rfl; have fHP10 := HP.out.f 10 (by simp); have cHP11 := HP.out.c 11 _ rfl; have fHP11 := HP.out.f 11 (by simp); have lHP := HP.out.lt
        refine bodyPost_ret (by simp [results, Try.results52, go_sem, cHP0, cHP1, cHP2, cHP3, cHP4, cHP5, cHP6, cHP7, cHP8, cHP9, cHP10, cHP11]; rfl) rfl ?_
        exact ⟨rfl, HF5.out⟩
      · have cHH0 := HH.out.c 0 _ rfl; have fHH0 := HH.out.f 0 (by simp); have cHH1 := HH.out.c 1 _ rfl; have fHH1 := HH.out.f 1 (by simp); have cHH2 := HH.out.c 2 _ rfl; have fHH2 := HH.out.f 2 (by simp); have cHH3 := HH.out.c 3 _ rfl; have fHH3 := HH.out.f 3 (by simp); have cHH4 := HH.out.c 4 _ rfl; have fHH4 := HH.out.f 4 (by simp); have cHH5 := HH.out.c 5 _ rfl; have fHH5 := HH.out.f 5 (by simp); have cHH6 := HH.out.c 6 _ rfl; have fHH6 := HH.out.f 6 (by simp); have lHH := HH.out.lt
        go_wp2_with fail
        clear cHH0 fHH0 cHH1 fHH1 cHH2 fHH2 cHH3 fHH3 cHH4 fHH4 cHH5 fHH5 cHH6 fHH6 lHH
        refine (hal _).mono ?_; rintro e w5 ⟨rfl, h5⟩
        replace HH := Lib.hid (HH.out.below h5 HH.out.lt); replace HR := Lib.hid (HR.out.below h5 HR.out.lt); replace HF := Lib.hid (below_step' HF.out h5)
        clear h5 hal
        have hlt := HR.out.lt
        have hl2 := HH.out.lt
        have q1 := HH.out.c 1 _ rfl
        have q2 := HH.out.c 2 _ rfl
        have q3 := HH.out.c 3 _ rfl
        have k0 : w.heap.size + 1 < w5.heap.size + 1 := by omega
        have k1 : ¬ w.heap.size + 1 = w5.heap.size := by omega
        have k2 : ¬ w.heap.size + 1 = w5.heap.size + 1 := by omega
        have k3 : ¬ w5.heap.size = w.heap.size + 1 := by omega
        have k4 : ¬ w5.heap.size + 1 = w.heap.size + 1 := by omega
        have k5 : ¬ h = w5.heap.size := by omega
        have k6 : ¬ h = w5.heap.size + 1 := by omega
        have k7 : h < w5.heap.size + 1 := by omega
        go_upto_region 20 with (fail)
        have HP5 := Lib.hid (((box_at (W := w5) (cs := #[.int .i64 0, .bool false, .int .i64 y2.v.k, .int .i64 y2.v.n, .string y2.v.s, .bool true, .bool true, .int .i64 0, .int .i64 0, .string nos, .bool false, .bool (y2.v.k == 0)]) (T := 32) rfl).alloc (.cells #[.bool false, .int .i64 y2.v.k, .int .i64 y2.v.n, .string y2.v.s, .bool true] 30)))
        have HR5 := Lib.hid (((HR.out.alloc (.cells #[.int .i64 0, .bool false, .int .i64 y2.v.k, .int .i64 y2.v.n, .string y2.v.s, .bool true, .bool true, .int .i64 0, .int .i64 0, .string nos, .bool false, .bool (y2.v.k == 0)] 32)).alloc (.cells #[.bool false, .int .i64 y2.v.k, .int .i64 y2.v.n, .string y2.v.s, .bool true] 30)))
        have HF5 : Hid (Below w.heap.size w ((w5.alloc (.cells #[.int .i64 0, .bool false, .int .i64 y2.v.k, .int .i64 y2.v.n, .string y2.v.s, .bool true, .bool true, .int .i64 0, .int .i64 0, .string nos, .bool false, .bool (y2.v.k == 0)] 32)).alloc (.cells #[.bool false, .int .i64 y2.v.k, .int .i64 y2.v.n, .string y2.v.s, .bool true] 30))) := Lib.hid (((HF.out.alloc HF.out.size _).alloc (by have := HF.out.size; simp; omega) _))
        dsimp only at HP5
        generalize ((w5.alloc (.cells #[.int .i64 0, .bool false, .int .i64 y2.v.k, .int .i64 y2.v.n, .string y2.v.s, .bool true, .bool true, .int .i64 0, .int .i64 0, .string nos, .bool false, .bool (y2.v.k == 0)] 32)).alloc (.cells #[.bool false, .int .i64 y2.v.k, .int .i64 y2.v.n, .string y2.v.s, .bool true] 30)) = w6 at *
        generalize w5.heap.size = G at *
        clear HR HF HH q1 q2 q3 hlt hl2 k0 k5 k6 k7
        have cHP50 := HP5.out.c 0 _ rfl; have fHP50 := HP5.out.f 0 (by simp); have cHP51 := HP5.out.c 1 _ rfl; have fHP51 := HP5.out.f 1 (by simp); have cHP52 := HP5.out.c 2 _ rfl; have fHP52 := HP5.out.f 2 (by simp); have cHP53 := HP5.out.c 3 _ rfl; have fHP53 := HP5.out.f 3 (by simp); have cHP54 := HP5.out.c 4 _ rfl; have fHP54 := HP5.out.f 4 (by simp); have cHP55 := HP5.out.c 5 _ rfl; have fHP55 := HP5.out.f 5 (by simp); have cHP56 := HP5.out.c 6 _ rfl; have fHP56 := HP5.out.f 6 (by simp); have cHP57 := HP5.out.c 7 _ rfl; have fHP57 := HP5.out.f 7 (by simp); have cHP58 := HP5.out.c 8 _ rfl; have fHP58 := HP5.out.f 8 (by simp); have cHP59 := HP5.out.c 9 _ rfl; have fHP59 := HP5.out.f 9 (by simp); have cHP510 := HP5.out.c 10 _ rfl; have fHP510 := HP5.out.f 10 (by simp); have cHP511 := HP5.out.c 11 _ rfl; have fHP511 := HP5.out.f 11 (by simp); have lHP5 := HP5.out.lt; have cHR50 := HR5.out.c 0 _ rfl; have fHR50 := HR5.out.f 0 (by simp); have cHR51 := HR5.out.c 1 _ rfl; have fHR51 := HR5.out.f 1 (by simp); have cHR52 := HR5.out.c 2 _ rfl; have fHR52 := HR5.out.f 2 (by simp); have cHR53 := HR5.out.c 3 _ rfl; have fHR53 := HR5.out.f 3 (by simp); have cHR54 := HR5.out.c 4 _ rfl; have fHR54 := HR5.out.f 4 (by simp); have cHR55 := HR5.out.c 5 _ rfl; have fHR55 := HR5.out.f 5 (by simp); have cHR56 := HR5.out.c 6 _ rfl; have fHR56 := HR5.out.f 6 (by simp); have cHR57 := HR5.out.c 7 _ rfl; have fHR57 := HR5.out.f 7 (by simp); have cHR58 := HR5.out.c 8 _ rfl; have fHR58 := HR5.out.f 8 (by simp); have cHR59 := HR5.out.c 9 _ rfl; have fHR59 := HR5.out.f 9 (by simp); have cHR510 := HR5.out.c 10 _ rfl; have fHR510 := HR5.out.f 10 (by simp); have cHR511 := HR5.out.c 11 _ rfl; have fHR511 := HR5.out.f 11 (by simp); have lHR5 := HR5.out.lt
        go_wp2
        clear cHP50 fHP50 cHP51 fHP51 cHP52 fHP52 cHP53 fHP53 cHP54 fHP54 cHP55 fHP55 cHP56 fHP56 cHP57 fHP57 cHP58 fHP58 cHP59 fHP59 cHP510 fHP510 cHP511 fHP511 lHP5; clear cHR50 fHR50 cHR51 fHR51 cHR52 fHR52 cHR53 fHR53 cHR54 fHR54 cHR55 fHR55 cHR56 fHR56 cHR57 fHR57 cHR58 fHR58 cHR59 fHR59 cHR510 fHR510 cHR511 fHR511 lHR5
        have HP := Lib.hid (puts12 HR5.out (.int .i64 0) (.bool false) (.int .i64 y2.v.k) (.int .i64 y2.v.n) (.string y2.v.s) (.bool true) (.bool true) (.int .i64 0) (.int .i64 0) (.string nos) (.bool false) (.bool (y2.v.k == 0)))
        replace HF5 := Lib.hid (puts12_below HF5.out (show w.heap.size ≤ w.heap.size + 1 by omega) (.int .i64 0) (.bool false) (.int .i64 y2.v.k) (.int .i64 y2.v.n) (.string y2.v.s) (.bool true) (.bool true) (.int .i64 0) (.int .i64 0) (.string nos) (.bool false) (.bool (y2.v.k == 0)))
        clear HR5 HP5
        generalize ((((((((((((w6.setCell ⟨w.heap.size + 1, 0, none⟩ (.int .i64 0)).setCell ⟨w.heap.size + 1, 1, none⟩ (.bool false)).setCell ⟨w.heap.size + 1, 2, none⟩ (.int .i64 y2.v.k)).setCell ⟨w.heap.size + 1, 3, none⟩ (.int .i64 y2.v.n)).setCell ⟨w.heap.size + 1, 4, none⟩ (.string y2.v.s)).setCell ⟨w.heap.size + 1, 5, none⟩ (.bool true)).setCell ⟨w.heap.size + 1, 6, none⟩ (.bool true)).setCell ⟨w.heap.size + 1, 7, none⟩ (.int .i64 0)).setCell ⟨w.heap.size + 1, 8, none⟩ (.int .i64 0)).setCell ⟨w.heap.size + 1, 9, none⟩ (.string nos)).setCell ⟨w.heap.size + 1, 10, none⟩ (.bool false)).setCell ⟨w.heap.size + 1, 11, none⟩ (.bool (y2.v.k == 0))) = w9 at *
        have cHP0 := HP.out.c 0 _ rfl; have fHP0 := HP.out.f 0 (by simp); have cHP1 := HP.out.c 1 _ rfl; have fHP1 := HP.out.f 1 (by simp); have cHP2 := HP.out.c 2 _ rfl; have fHP2 := HP.out.f 2 (by simp); have cHP3 := HP.out.c 3 _ rfl; have fHP3 := HP.out.f 3 (by simp); have cHP4 := HP.out.c 4 _ rfl; have fHP4 := HP.out.f 4 (by simp); have cHP5 := HP.out.c 5 _ rfl; have fHP5 := HP.out.f 5 (by simp); have cHP6 := HP.out.c 6 _ rfl; have fHP6 := HP.out.f 6 (by simp); have cHP7 := HP.out.c 7 _ rfl; have fHP7 := HP.out.f 7 (by simp); have cHP8 := HP.out.c 8 _ rfl; have fHP8 := HP.out.f 8 (by simp); have cHP9 := HP.out.c 9 _ rfl; have fHP9 := HP.out.f 9 (by simp); have cHP10 := HP.out.c 10 _ rfl; have fHP10 := HP.out.f 10 (by simp); have cHP11 := HP.out.c 11 _ rfl; have fHP11 := HP.out.f 11 (by simp); have lHP := HP.out.lt
        refine bodyPost_ret (by simp [results, Try.results52, go_sem, cHP0, cHP1, cHP2, cHP3, cHP4, cHP5, cHP6, cHP7, cHP8, cHP9, cHP10, cHP11]; rfl) rfl ?_
        exact ⟨rfl, HF5.out⟩
    · have hRR : RR = (zeroP, false) := by
        have q := HBB.out
        rw [HRR.out]
        unfold asks0
        rw [if_pos (q.1 rfl)]
      clear HRR HBB HG HH HOPS
      subst hRR
      have cHR0 := HR.out.c 0 _ rfl; have fHR0 := HR.out.f 0 (by simp); have cHR1 := HR.out.c 1 _ rfl; have fHR1 := HR.out.f 1 (by simp); have cHR2 := HR.out.c 2 _ rfl; have fHR2 := HR.out.f 2 (by simp); have cHR3 := HR.out.c 3 _ rfl; have fHR3 := HR.out.f 3 (by simp); have cHR4 := HR.out.c 4 _ rfl; have fHR4 := HR.out.f 4 (by simp); have cHR5 := HR.out.c 5 _ rfl; have fHR5 := HR.out.f 5 (by simp); have cHR6 := HR.out.c 6 _ rfl; have fHR6 := HR.out.f 6 (by simp); have cHR7 := HR.out.c 7 _ rfl; have fHR7 := HR.out.f 7 (by simp); have cHR8 := HR.out.c 8 _ rfl; have fHR8 := HR.out.f 8 (by simp); have cHR9 := HR.out.c 9 _ rfl; have fHR9 := HR.out.f 9 (by simp); have cHR10 := HR.out.c 10 _ rfl; have fHR10 := HR.out.f 10 (by simp); have cHR11 := HR.out.c 11 _ rfl; have fHR11 := HR.out.f 11 (by simp); have lHR := HR.out.lt
      go_wp2
      clear cHR0 fHR0 cHR1 fHR1 cHR2 fHR2 cHR3 fHR3 cHR4 fHR4 cHR5 fHR5 cHR6 fHR6 cHR7 fHR7 cHR8 fHR8 cHR9 fHR9 cHR10 fHR10 cHR11 fHR11 lHR
      have HP := Lib.hid (puts12 HR.out (.int .i64 0) (.bool false) (.int .i64 0) (.int .i64 0) (.string ⟨#[]⟩) (.bool false) (.bool false) (.int .i64 0) (.int .i64 0) (.string ⟨#[]⟩) (.bool false) (.bool false))
      replace HF := Lib.hid (puts12_below HF.out (show w.heap.size ≤ w.heap.size + 1 by omega) (.int .i64 0) (.bool false) (.int .i64 0) (.int .i64 0) (.string ⟨#[]⟩) (.bool false) (.bool false) (.int .i64 0) (.int .i64 0) (.string ⟨#[]⟩) (.bool false) (.bool false))
      clear HR
      generalize ((((((((((((w4.setCell ⟨w.heap.size + 1, 0, none⟩ (.int .i64 0)).setCell ⟨w.heap.size + 1, 1, none⟩ (.bool false)).setCell ⟨w.heap.size + 1, 2, none⟩ (.int .i64 0)).setCell ⟨w.heap.size + 1, 3, none⟩ (.int .i64 0)).setCell ⟨w.heap.size + 1, 4, none⟩ (.string ⟨#[]⟩)).setCell ⟨w.heap.size + 1, 5, none⟩ (.bool false)).setCell ⟨w.heap.size + 1, 6, none⟩ (.bool false)).setCell ⟨w.heap.size + 1, 7, none⟩ (.int .i64 0)).setCell ⟨w.heap.size + 1, 8, none⟩ (.int .i64 0)).setCell ⟨w.heap.size + 1, 9, none⟩ (.string ⟨#[]⟩)).setCell ⟨w.heap.size + 1, 10, none⟩ (.bool false)).setCell ⟨w.heap.size + 1, 11, none⟩ (.bool false)) = w9 at *
      have cHP0 := HP.out.c 0 _ rfl; have fHP0 := HP.out.f 0 (by simp); have cHP1 := HP.out.c 1 _ rfl; have fHP1 := HP.out.f 1 (by simp); have cHP2 := HP.out.c 2 _ rfl; have fHP2 := HP.out.f 2 (by simp); have cHP3 := HP.out.c 3 _ rfl; have fHP3 := HP.out.f 3 (by simp); have cHP4 := HP.out.c 4 _ rfl; have fHP4 := HP.out.f 4 (by simp); have cHP5 := HP.out.c 5 _ rfl; have fHP5 := HP.out.f 5 (by simp); have cHP6 := HP.out.c 6 _ rfl; have fHP6 := HP.out.f 6 (by simp); have cHP7 := HP.out.c 7 _ rfl; have fHP7 := HP.out.f 7 (by simp); have cHP8 := HP.out.c 8 _ rfl; have fHP8 := HP.out.f 8 (by simp); have cHP9 := HP.out.c 9 _ rfl; have fHP9 := HP.out.f 9 (by simp); have cHP10 := HP.out.c 10 _ rfl; have fHP10 := HP.out.f 10 (by simp); have cHP11 := HP.out.c 11 _ rfl; have fHP11 := HP.out.f 11 (by simp); have lHP := HP.out.lt
      refine bodyPost_ret (by simp [results, Try.results52, go_sem, cHP0, cHP1, cHP2, cHP3, cHP4, cHP5, cHP6, cHP7, cHP8, cHP9, cHP10, cHP11]; rfl) rfl ?_
      exact ⟨rfl, HF.out⟩
end Go.Proofs.Ytfmfmammcjpboaa
