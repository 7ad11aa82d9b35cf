/- The law SsiMay: its walk. -/
import Derived.Test.YtdajginkipaghaaAliveW
import Derived.Test.YtdajginkipaghaaSsiP
namespace Go.Proofs.Ytdajginkipaghaa
open Go.RowKit
open Go.Shelf
set_option linter.unusedVariables false
set_option linter.unusedSimpArgs false
theorem check_zero (A : Option Addr) (c : Nat) (l : List Tx) (clk nxt : Int) (w : World) (HR : RowE encT 5 w A l) (hl : l.length ≤ 140737488355328) (h : (St.mk l clk nxt).chk = 0) :
    Calls Try.prog 14 #[.agg #[.slice A l.length c, .int .i64 clk, .int .i64 nxt]] w fun e w' => e = .returned (.int .i64 0) ∧ Below w.heap.size w w' := by
  have hc := check_any A c l clk nxt w HR hl
  have e : chk l clk nxt = 0 := h
  rw [e] at hc
  exact hc
set_option maxHeartbeats 4000000 in
set_option maxRecDepth 100000 in
theorem may_any (A : Option Addr) (c : Nat) (s : St) (id other : Int) (w : World) (HR : RowE encT 5 w A s.l) (hl : s.l.length * 32 ≤ 140737488355328) (hwi : (Lit.int .i64 id).wf = true) (hwo : (Lit.int .i64 other).wf = true) :
    Calls Try.prog 6 #[.agg #[.slice A s.l.length c, .int .i64 s.clk, .int .i64 s.nxt], .int .i64 id, .int .i64 other] w fun e w' => e = .returned (.bool true) ∧ Below w.heap.size w w' := by
  have HB := Box3.new w (.slice A s.l.length c) (.int .i64 s.clk) (.int .i64 s.nxt) 46
  have ba : Below w.heap.size w (w.alloc (.cells #[.slice A s.l.length c, .int .i64 s.clk, .int .i64 s.nxt] 46)) := (by (repeat (first | (with_reducible exact Below.refl _ _) | apply below_alloc _ (Nat.le_refl _) | refine below_set ?_ (by first | exact Nat.le_refl _ | omega) | apply below_drewN | refine below_step ?_ HB)))
  have hal := alive_any (w.alloc (.cells #[.slice A s.l.length c, .int .i64 s.clk, .int .i64 s.nxt] 46))
  have HR0 := Lib.hid (HR.below ba)
  clear HR
  go_enter Try.func6, Try.ntmps6
  go_wp2_with fail
  refine hal.mono ?_; rintro e w1 ⟨rfl, h1⟩
  have hB1 := HB.below h1 HB.lt
  have HR1 := HR0.out.below h1
  have HF1 := ba.trans (h1.mono (by simp))
  have hof := of_any A c s w1 HR1 hl
  have HB1 := Lib.hid hB1
  obtain ⟨c00, c01, c02, f00, f01, f02, l0⟩ := hB1
  clear hal h1 HR1 HR0 HB ba
  go_wp2_with fail
  refine hof.mono ?_; rintro e w2 ⟨v0, rfl, hv0, h2⟩
  obtain ⟨A0, c0, rfl, hr0, hn0, _, _⟩ := hv0.out
  clear c00 c01 c02 f00 f01 f02 hof hv0
  have HB2 := Lib.hid (HB1.out.below h2 l0)
  have HF2 := HF1.trans (h2.mono (by omega))
  have hbg := begin_any A0 c0 s w2 hr0 hn0 (by omega)
  clear HB1 HF1 h2 hr0 hn0 l0
  go_wp2_with fail
  refine hbg.mono ?_; rintro e w3 ⟨v1, rfl, hv1, h3⟩
  obtain ⟨A1, c1, rfl, hr1, hn1, _, _⟩ := hv1.out
  have HB3 := HB2.out.below h3 HB2.out.lt
  have HF3 := HF2.trans (h3.mono (by have := HF2.size; omega))
  have z3 := HF3.size
  clear hbg hv1 h3 HB2 HF2
  by_cases he : (beginR s).2.2 = 0
  · obtain ⟨ck, hlen, hnx, hbe⟩ := begin_ok he
    have CA := Lib.hid (begin_chk he)
    have CK := (chk_iff _ _ _).1 ck
    have k1 := CK.2.1
    have k2 := CK.2.2.1
    have k3 := CK.2.2.2.1
    clear CK
    rw [hbe] at hr1 CA ⊢
    clear he hbe ck
    obtain ⟨l, clk, nxt⟩ := s
    dsimp only at *
    generalize hLL : l ++ [(⟨nxt, clk, 0, false, false⟩ : Tx)] = L at *
    have hL : L.length = l.length + 1 := by rw [← hLL]; simp
    have hlast : L[l.length]? = some ⟨nxt, clk, 0, false, false⟩ := by rw [← hLL]; simp
    clear hLL
    have LA := Lib.hid hlast
    clear hlast
    have D7 : Below w3.heap.size w3 (w3.alloc (.cells #[.slice A1 (l.length + 1) c1, .int .i64 clk, .int .i64 (nxt + 1)] 26)) := (Below.refl _ _).alloc (Nat.le_refl _) _
    obtain ⟨b0, off, rfl, hb0, g0, g1, g2, g3, g4⟩ := hr1.five (B := 0) LA.out D7
    have H7 : Box3 _ w3.heap.size _ _ _ := Box3.new w3 (.slice (some ⟨b0, off, none⟩) (l.length + 1) c1) (.int .i64 clk) (.int .i64 (nxt + 1)) 26
    have H7' := Lib.hid (H7.alloc (.cells #[.int .i64 nxt, .int .i64 clk, .int .i64 0, .bool false, .bool false] 40))
    have D10 := Lib.hid (D7.alloc D7.size (.cells #[.int .i64 nxt, .int .i64 clk, .int .i64 0, .bool false, .bool false] 40))
    have HR3 := Lib.hid hr1
    have HB3' := Lib.hid HB3
    have hck := check_zero (some ⟨b0, off, none⟩) c1 L clk (nxt + 1) ((w3.alloc (.cells #[.slice (some ⟨b0, off, none⟩) (l.length + 1) c1, .int .i64 clk, .int .i64 (nxt + 1)] 26)).alloc (.cells #[.int .i64 nxt, .int .i64 clk, .int .i64 0, .bool false, .bool false] 40)) (HR3.out.below D10.out) (by omega) CA.out
    rw [hL] at hck ⊢
    clear hr1 H7 D7 hn1
    obtain ⟨c00, c01, c02, f00, f01, f02, l0⟩ := HB3
    go_wp2_with (refine (num_any _ _).mono ?_; rintro e wn ⟨rfl, rfl⟩)
    refine hck.mono ?_; rintro e w4 ⟨rfl, h4⟩
    have P4 := H7'.out.below h4 H7'.out.lt
    have HR4 := Lib.hid (HR3.out.below (below_step' D10.out h4))
    have HB4 := Lib.hid (HB3'.out.below (below_step' D10.out h4) l0)
    have HF4 := HF3.trans ((below_step' D10.out h4).mono z3)
    clear hck h4 c00 c01 c02 f00 f01 f02 g0 g1 g2 g3 g4 H7' D10 HR3 HB3' HF3
    have hed := edge_any (some ⟨b0, off, none⟩) c1 ⟨L, clk, nxt + 1⟩ id other w4 HR4.out (fun h => by cases h) (by dsimp only; omega) hwi hwo
    dsimp only at hed
    rw [hL] at hed
    have P4' := Lib.hid P4
    obtain ⟨c70, c71, c72, f70, f71, f72, l7⟩ := P4
    go_wp2_with (refine (num_any _ _).mono ?_; rintro e wn ⟨rfl, rfl⟩)
    refine hed.mono ?_; rintro e w5 ⟨v5, u5, rfl, hv5, hu5, h5⟩
    have CE : Hid ((edgeR ⟨L, clk, nxt + 1⟩ id other).2.2 = 0 → (edgeR ⟨L, clk, nxt + 1⟩ id other).1.chk = 0) := Lib.hid edge_chk
    generalize (edgeR ⟨L, clk, nxt + 1⟩ id other).2.2 = er5 at *
    generalize (edgeR ⟨L, clk, nxt + 1⟩ id other).1 = S5 at *
    obtain ⟨A5, c5, rfl, hr5, hn5, _, hlc5⟩ := hv5.out
    obtain ⟨Au5, cu5, rfl, _⟩ := hu5
    have HR5 := Lib.hid hr5
    have PA := P4'
    have PB := HB4
    have RL := HR4
    have HF := HF4
    clear hed hv5 c70 c71 c72 f70 f71 f72 l7 HR4 HB4 HF4 P4' HR5
    have PA := Lib.hid ((PA.out.below h5 PA.out.lt).alloc (.cells #[.slice A5 S5.l.length c5, .int .i64 S5.clk, .int .i64 S5.nxt] 26))
    have PB := Lib.hid ((PB.out.below h5 PB.out.lt).alloc (.cells #[.slice A5 S5.l.length c5, .int .i64 S5.clk, .int .i64 S5.nxt] 26))
    have RL := Lib.hid ((RL.out.below h5).below ((Below.refl w5.heap.size w5).alloc (Nat.le_refl _) (.cells #[.slice A5 S5.l.length c5, .int .i64 S5.clk, .int .i64 S5.nxt] 26)))
    have P5 := Lib.hid (Box3.new w5 (.slice A5 S5.l.length c5) (.int .i64 S5.clk) (.int .i64 S5.nxt) 26)
    have R5 := Lib.hid (hr5.below ((Below.refl w5.heap.size w5).alloc (Nat.le_refl _) (.cells #[.slice A5 S5.l.length c5, .int .i64 S5.clk, .int .i64 S5.nxt] 26)))
    have HF := (HF.trans (h5.mono HF.size)).alloc (HF.trans (h5.mono HF.size)).size (.cells #[.slice A5 S5.l.length c5, .int .i64 S5.clk, .int .i64 S5.nxt] 26)
    clear h5 hr5
    have hco := commit_any (some ⟨b0, off, none⟩) c1 ⟨L, clk, nxt + 1⟩ id _ RL.out (fun h => by cases h) (by dsimp only; omega)
    dsimp only at hco
    rw [hL] at hco
    obtain ⟨c70, c71, c72, f70, f71, f72, l7⟩ := PA.out
    go_wp2_with fail
    refine hco.mono ?_; rintro e w6 ⟨v6, rfl, hv6, h6⟩
    have CC : Hid ((commitR ⟨L, clk, nxt + 1⟩ id).2.2 = 0 → (commitR ⟨L, clk, nxt + 1⟩ id).1.chk = 0 ∧ (commitR ⟨L, clk, nxt + 1⟩ id).2.1 = clk + 1) := Lib.hid (fun h => ⟨commit_chk h, by obtain ⟨_, _, _, _, _, _, _, e⟩ := commit_ok h; rw [e]⟩)
    generalize (commitR ⟨L, clk, nxt + 1⟩ id).2.2 = er6 at *
    generalize (commitR ⟨L, clk, nxt + 1⟩ id).2.1 = k6 at *
    generalize (commitR ⟨L, clk, nxt + 1⟩ id).1 = S6 at *
    obtain ⟨A6, c6, rfl, hr6, hn6, _, hlc6⟩ := hv6.out
    clear hco hv6 c70 c71 c72 f70 f71 f72 l7
    have PA := Lib.hid ((PA.out.below h6 PA.out.lt).alloc (.cells #[.slice A6 S6.l.length c6, .int .i64 S6.clk, .int .i64 S6.nxt] 26))
    have PB := Lib.hid ((PB.out.below h6 PB.out.lt).alloc (.cells #[.slice A6 S6.l.length c6, .int .i64 S6.clk, .int .i64 S6.nxt] 26))
    have P5 := Lib.hid ((P5.out.below h6 P5.out.lt).alloc (.cells #[.slice A6 S6.l.length c6, .int .i64 S6.clk, .int .i64 S6.nxt] 26))
    have RL := Lib.hid ((RL.out.below h6).below ((Below.refl w6.heap.size w6).alloc (Nat.le_refl _) (.cells #[.slice A6 S6.l.length c6, .int .i64 S6.clk, .int .i64 S6.nxt] 26)))
    have R5 := Lib.hid ((R5.out.below h6).below ((Below.refl w6.heap.size w6).alloc (Nat.le_refl _) (.cells #[.slice A6 S6.l.length c6, .int .i64 S6.clk, .int .i64 S6.nxt] 26)))
    have P6 := Lib.hid (Box3.new w6 (.slice A6 S6.l.length c6) (.int .i64 S6.clk) (.int .i64 S6.nxt) 26)
    have R6 := Lib.hid (hr6.below ((Below.refl w6.heap.size w6).alloc (Nat.le_refl _) (.cells #[.slice A6 S6.l.length c6, .int .i64 S6.clk, .int .i64 S6.nxt] 26)))
    have HF := (HF.trans (h6.mono HF.size)).alloc (HF.trans (h6.mono HF.size)).size (.cells #[.slice A6 S6.l.length c6, .int .i64 S6.clk, .int .i64 S6.nxt] 26)
    clear h6 hr6
    have hab := abort_any (some ⟨b0, off, none⟩) c1 ⟨L, clk, nxt + 1⟩ id _ RL.out (fun h => by cases h) (by dsimp only; omega)
    dsimp only at hab
    rw [hL] at hab
    obtain ⟨c70, c71, c72, f70, f71, f72, l7⟩ := PA.out
    go_wp2_with fail
    refine hab.mono ?_; rintro e w7 ⟨v7, rfl, hv7, h7⟩
    have CB : Hid ((abortR ⟨L, clk, nxt + 1⟩ id).2 = 0 → (abortR ⟨L, clk, nxt + 1⟩ id).1.chk = 0) := Lib.hid abort_chk
    generalize (abortR ⟨L, clk, nxt + 1⟩ id).2 = er7 at *
    generalize (abortR ⟨L, clk, nxt + 1⟩ id).1 = S7 at *
    obtain ⟨A7, c7, rfl, hr7, hn7, _, hlc7⟩ := hv7.out
    clear hab hv7 c70 c71 c72 f70 f71 f72 l7
    have PA := Lib.hid ((PA.out.below h7 PA.out.lt).alloc (.cells #[.slice A7 S7.l.length c7, .int .i64 S7.clk, .int .i64 S7.nxt] 26))
    have PB := Lib.hid ((PB.out.below h7 PB.out.lt).alloc (.cells #[.slice A7 S7.l.length c7, .int .i64 S7.clk, .int .i64 S7.nxt] 26))
    have P5 := Lib.hid ((P5.out.below h7 P5.out.lt).alloc (.cells #[.slice A7 S7.l.length c7, .int .i64 S7.clk, .int .i64 S7.nxt] 26))
    have P6 := Lib.hid ((P6.out.below h7 P6.out.lt).alloc (.cells #[.slice A7 S7.l.length c7, .int .i64 S7.clk, .int .i64 S7.nxt] 26))
    have RL := Lib.hid ((RL.out.below h7).below ((Below.refl w7.heap.size w7).alloc (Nat.le_refl _) (.cells #[.slice A7 S7.l.length c7, .int .i64 S7.clk, .int .i64 S7.nxt] 26)))
    have R5 := Lib.hid ((R5.out.below h7).below ((Below.refl w7.heap.size w7).alloc (Nat.le_refl _) (.cells #[.slice A7 S7.l.length c7, .int .i64 S7.clk, .int .i64 S7.nxt] 26)))
    have R6 := Lib.hid ((R6.out.below h7).below ((Below.refl w7.heap.size w7).alloc (Nat.le_refl _) (.cells #[.slice A7 S7.l.length c7, .int .i64 S7.clk, .int .i64 S7.nxt] 26)))
    have P7 := Lib.hid (Box3.new w7 (.slice A7 S7.l.length c7) (.int .i64 S7.clk) (.int .i64 S7.nxt) 26)
    have R7 := Lib.hid (hr7.below ((Below.refl w7.heap.size w7).alloc (Nat.le_refl _) (.cells #[.slice A7 S7.l.length c7, .int .i64 S7.clk, .int .i64 S7.nxt] 26)))
    have HF := (HF.trans (h7.mono HF.size)).alloc (HF.trans (h7.mono HF.size)).size (.cells #[.slice A7 S7.l.length c7, .int .i64 S7.clk, .int .i64 S7.nxt] 26)
    clear h7 hr7
    have hre := retire_any (some ⟨b0, off, none⟩) c1 ⟨L, clk, nxt + 1⟩ _ RL.out (fun h => by cases h) (by dsimp only; omega)
    dsimp only at hre
    rw [hL] at hre
    obtain ⟨c70, c71, c72, f70, f71, f72, l7⟩ := PA.out
    go_wp2_with fail
    refine hre.mono ?_; rintro e w8 ⟨v8, u8, rfl, hv8, hu8, h8⟩
    have CR := Lib.hid (retire_chk CA.out)
    have er8 : (retireR ⟨L, clk, nxt + 1⟩).2.2 = 0 := by rw [retire_ok CA.out]
    rw [er8]
    generalize (retireR ⟨L, clk, nxt + 1⟩).1 = S8 at *
    obtain ⟨A8, c8, rfl, hr8, hn8, _, hlc8⟩ := hv8.out
    obtain ⟨Au8, cu8, rfl, _⟩ := hu8
    clear hre hv8 er8 c70 c71 c72 f70 f71 f72 l7
    have PA := Lib.hid ((PA.out.below h8 PA.out.lt).alloc (.cells #[.slice A8 S8.l.length c8, .int .i64 S8.clk, .int .i64 S8.nxt] 26))
    have PB := Lib.hid ((PB.out.below h8 PB.out.lt).alloc (.cells #[.slice A8 S8.l.length c8, .int .i64 S8.clk, .int .i64 S8.nxt] 26))
    have P5 := Lib.hid ((P5.out.below h8 P5.out.lt).alloc (.cells #[.slice A8 S8.l.length c8, .int .i64 S8.clk, .int .i64 S8.nxt] 26))
    have P6 := Lib.hid ((P6.out.below h8 P6.out.lt).alloc (.cells #[.slice A8 S8.l.length c8, .int .i64 S8.clk, .int .i64 S8.nxt] 26))
    have P7 := Lib.hid ((P7.out.below h8 P7.out.lt).alloc (.cells #[.slice A8 S8.l.length c8, .int .i64 S8.clk, .int .i64 S8.nxt] 26))
    have RL := Lib.hid ((RL.out.below h8).below ((Below.refl w8.heap.size w8).alloc (Nat.le_refl _) (.cells #[.slice A8 S8.l.length c8, .int .i64 S8.clk, .int .i64 S8.nxt] 26)))
    have R5 := Lib.hid ((R5.out.below h8).below ((Below.refl w8.heap.size w8).alloc (Nat.le_refl _) (.cells #[.slice A8 S8.l.length c8, .int .i64 S8.clk, .int .i64 S8.nxt] 26)))
    have R6 := Lib.hid ((R6.out.below h8).below ((Below.refl w8.heap.size w8).alloc (Nat.le_refl _) (.cells #[.slice A8 S8.l.length c8, .int .i64 S8.clk, .int .i64 S8.nxt] 26)))
    have R7 := Lib.hid ((R7.out.below h8).below ((Below.refl w8.heap.size w8).alloc (Nat.le_refl _) (.cells #[.slice A8 S8.l.length c8, .int .i64 S8.clk, .int .i64 S8.nxt] 26)))
    have P8 := Lib.hid (Box3.new w8 (.slice A8 S8.l.length c8) (.int .i64 S8.clk) (.int .i64 S8.nxt) 26)
    have R8 := Lib.hid (hr8.below ((Below.refl w8.heap.size w8).alloc (Nat.le_refl _) (.cells #[.slice A8 S8.l.length c8, .int .i64 S8.clk, .int .i64 S8.nxt] 26)))
    have HF := (HF.trans (h8.mono HF.size)).alloc (HF.trans (h8.mono HF.size)).size (.cells #[.slice A8 S8.l.length c8, .int .i64 S8.clk, .int .i64 S8.nxt] 26)
    clear h8 hr8 PA RL hn5 hn6 hn7 hn8
    have HX : Below (w8.alloc (.cells #[.slice A8 S8.l.length c8, .int .i64 S8.clk, .int .i64 S8.nxt] 26)).heap.size (w8.alloc (.cells #[.slice A8 S8.l.length c8, .int .i64 S8.clk, .int .i64 S8.nxt] 26)) (w8.alloc (.cells #[.slice A8 S8.l.length c8, .int .i64 S8.clk, .int .i64 S8.nxt] 26)) := Below.refl _ _
    have C8 : Hid (S8.chk = 0 ∧ S8.l.length ≤ 140737488355328) := Lib.hid ⟨CR.out, Nat.le_trans (chk_len CR.out) (by omega)⟩
    have hwr : IntKind.i64.wrap (clk + 1) = clk + 1 := IntWalk.i64_in (clk + 1) ⟨by omega, by omega⟩
    obtain ⟨p50, p51, p52, _, _, _, _⟩ := P5.out
    obtain ⟨p60, p61, p62, _, _, _, _⟩ := P6.out
    obtain ⟨p70, p71, p72, _, _, _, _⟩ := P7.out
    obtain ⟨p80, p81, p82, _, _, _, _⟩ := P8.out
    obtain ⟨pb0, pb1, pb2, _, _, _, _⟩ := PB.out
    by_cases q5 : er5 = 0
    · subst q5
      have C5 : Hid (S5.chk = 0 ∧ S5.l.length ≤ 140737488355328) := Lib.hid ⟨CE.out (by trivial), Nat.le_trans (chk_len (CE.out (by trivial))) (by omega)⟩
      clear CE
      by_cases q6 : er6 = 0
      · subst q6
        obtain ⟨hc6, rfl⟩ := CC.out (by trivial)
        have C6 : Hid (S6.chk = 0 ∧ S6.l.length ≤ 140737488355328) := Lib.hid ⟨hc6, Nat.le_trans (chk_len hc6) (by omega)⟩
        clear hc6 CC
        by_cases q7 : er7 = 0
        · subst q7
          have C7 : Hid (S7.chk = 0 ∧ S7.l.length ≤ 140737488355328) := Lib.hid ⟨CB.out (by trivial), Nat.le_trans (chk_len (CB.out (by trivial))) (by omega)⟩
          clear CB
          go_wp2_with (first | (refine (num_any _ _).mono ?_; rintro e wn ⟨rfl, rfl⟩) | (with_reducible refine (check_zero A5 c5 S5.l S5.clk S5.nxt _ (R5.out.below HX) C5.out.2 C5.out.1).mono ?_; rintro e wn ⟨rfl, hh⟩; replace HX := below_step' HX hh; obtain ⟨p60, p61, p62, _, _, _, _⟩ := P6.out.below HX P6.out.lt; obtain ⟨p70, p71, p72, _, _, _, _⟩ := P7.out.below HX P7.out.lt; obtain ⟨p80, p81, p82, _, _, _, _⟩ := P8.out.below HX P8.out.lt; obtain ⟨pb0, pb1, pb2, _, _, _, _⟩ := PB.out.below HX PB.out.lt; clear hh) | (with_reducible refine (check_zero A6 c6 S6.l S6.clk S6.nxt _ (R6.out.below HX) C6.out.2 C6.out.1).mono ?_; rintro e wn ⟨rfl, hh⟩; replace HX := below_step' HX hh; obtain ⟨p60, p61, p62, _, _, _, _⟩ := P6.out.below HX P6.out.lt; obtain ⟨p70, p71, p72, _, _, _, _⟩ := P7.out.below HX P7.out.lt; obtain ⟨p80, p81, p82, _, _, _, _⟩ := P8.out.below HX P8.out.lt; obtain ⟨pb0, pb1, pb2, _, _, _, _⟩ := PB.out.below HX PB.out.lt; clear hh) | (with_reducible refine (check_zero A7 c7 S7.l S7.clk S7.nxt _ (R7.out.below HX) C7.out.2 C7.out.1).mono ?_; rintro e wn ⟨rfl, hh⟩; replace HX := below_step' HX hh; obtain ⟨p60, p61, p62, _, _, _, _⟩ := P6.out.below HX P6.out.lt; obtain ⟨p70, p71, p72, _, _, _, _⟩ := P7.out.below HX P7.out.lt; obtain ⟨p80, p81, p82, _, _, _, _⟩ := P8.out.below HX P8.out.lt; obtain ⟨pb0, pb1, pb2, _, _, _, _⟩ := PB.out.below HX PB.out.lt; clear hh) | (with_reducible refine (check_zero A8 c8 S8.l S8.clk S8.nxt _ (R8.out.below HX) C8.out.2 C8.out.1).mono ?_; rintro e wn ⟨rfl, hh⟩; replace HX := below_step' HX hh; obtain ⟨p60, p61, p62, _, _, _, _⟩ := P6.out.below HX P6.out.lt; obtain ⟨p70, p71, p72, _, _, _, _⟩ := P7.out.below HX P7.out.lt; obtain ⟨p80, p81, p82, _, _, _, _⟩ := P8.out.below HX P8.out.lt; obtain ⟨pb0, pb1, pb2, _, _, _, _⟩ := PB.out.below HX PB.out.lt; clear hh))
          go_ret
          exact ⟨rfl, HF.trans (HX.mono HF.size)⟩
        · have r7 : (er7 == 0) = false := by simpa using q7
          clear CB
          go_wp2_with (first | (refine (num_any _ _).mono ?_; rintro e wn ⟨rfl, rfl⟩) | (with_reducible refine (check_zero A5 c5 S5.l S5.clk S5.nxt _ (R5.out.below HX) C5.out.2 C5.out.1).mono ?_; rintro e wn ⟨rfl, hh⟩; replace HX := below_step' HX hh; obtain ⟨p60, p61, p62, _, _, _, _⟩ := P6.out.below HX P6.out.lt; obtain ⟨p70, p71, p72, _, _, _, _⟩ := P7.out.below HX P7.out.lt; obtain ⟨p80, p81, p82, _, _, _, _⟩ := P8.out.below HX P8.out.lt; obtain ⟨pb0, pb1, pb2, _, _, _, _⟩ := PB.out.below HX PB.out.lt; clear hh) | (with_reducible refine (check_zero A6 c6 S6.l S6.clk S6.nxt _ (R6.out.below HX) C6.out.2 C6.out.1).mono ?_; rintro e wn ⟨rfl, hh⟩; replace HX := below_step' HX hh; obtain ⟨p60, p61, p62, _, _, _, _⟩ := P6.out.below HX P6.out.lt; obtain ⟨p70, p71, p72, _, _, _, _⟩ := P7.out.below HX P7.out.lt; obtain ⟨p80, p81, p82, _, _, _, _⟩ := P8.out.below HX P8.out.lt; obtain ⟨pb0, pb1, pb2, _, _, _, _⟩ := PB.out.below HX PB.out.lt; clear hh) | (with_reducible refine (check_zero A7 c7 S7.l S7.clk S7.nxt _ (R7.out.below HX) C7.out.2 C7.out.1).mono ?_; rintro e wn ⟨rfl, hh⟩; replace HX := below_step' HX hh; obtain ⟨p60, p61, p62, _, _, _, _⟩ := P6.out.below HX P6.out.lt; obtain ⟨p70, p71, p72, _, _, _, _⟩ := P7.out.below HX P7.out.lt; obtain ⟨p80, p81, p82, _, _, _, _⟩ := P8.out.below HX P8.out.lt; obtain ⟨pb0, pb1, pb2, _, _, _, _⟩ := PB.out.below HX PB.out.lt; clear hh) | (with_reducible refine (check_zero A8 c8 S8.l S8.clk S8.nxt _ (R8.out.below HX) C8.out.2 C8.out.1).mono ?_; rintro e wn ⟨rfl, hh⟩; replace HX := below_step' HX hh; obtain ⟨p60, p61, p62, _, _, _, _⟩ := P6.out.below HX P6.out.lt; obtain ⟨p70, p71, p72, _, _, _, _⟩ := P7.out.below HX P7.out.lt; obtain ⟨p80, p81, p82, _, _, _, _⟩ := P8.out.below HX P8.out.lt; obtain ⟨pb0, pb1, pb2, _, _, _, _⟩ := PB.out.below HX PB.out.lt; clear hh))
          go_ret
          exact ⟨rfl, HF.trans (HX.mono HF.size)⟩
      · have r6 : (er6 == 0) = false := by simpa using q6
        clear CC
        by_cases q7 : er7 = 0
        · subst q7
          have C7 : Hid (S7.chk = 0 ∧ S7.l.length ≤ 140737488355328) := Lib.hid ⟨CB.out (by trivial), Nat.le_trans (chk_len (CB.out (by trivial))) (by omega)⟩
          clear CB
          go_wp2_with (first | (refine (num_any _ _).mono ?_; rintro e wn ⟨rfl, rfl⟩) | (with_reducible refine (check_zero A5 c5 S5.l S5.clk S5.nxt _ (R5.out.below HX) C5.out.2 C5.out.1).mono ?_; rintro e wn ⟨rfl, hh⟩; replace HX := below_step' HX hh; obtain ⟨p60, p61, p62, _, _, _, _⟩ := P6.out.below HX P6.out.lt; obtain ⟨p70, p71, p72, _, _, _, _⟩ := P7.out.below HX P7.out.lt; obtain ⟨p80, p81, p82, _, _, _, _⟩ := P8.out.below HX P8.out.lt; obtain ⟨pb0, pb1, pb2, _, _, _, _⟩ := PB.out.below HX PB.out.lt; clear hh) | (with_reducible refine (check_zero A6 c6 S6.l S6.clk S6.nxt _ (R6.out.below HX) C6.out.2 C6.out.1).mono ?_; rintro e wn ⟨rfl, hh⟩; replace HX := below_step' HX hh; obtain ⟨p60, p61, p62, _, _, _, _⟩ := P6.out.below HX P6.out.lt; obtain ⟨p70, p71, p72, _, _, _, _⟩ := P7.out.below HX P7.out.lt; obtain ⟨p80, p81, p82, _, _, _, _⟩ := P8.out.below HX P8.out.lt; obtain ⟨pb0, pb1, pb2, _, _, _, _⟩ := PB.out.below HX PB.out.lt; clear hh) | (with_reducible refine (check_zero A7 c7 S7.l S7.clk S7.nxt _ (R7.out.below HX) C7.out.2 C7.out.1).mono ?_; rintro e wn ⟨rfl, hh⟩; replace HX := below_step' HX hh; obtain ⟨p60, p61, p62, _, _, _, _⟩ := P6.out.below HX P6.out.lt; obtain ⟨p70, p71, p72, _, _, _, _⟩ := P7.out.below HX P7.out.lt; obtain ⟨p80, p81, p82, _, _, _, _⟩ := P8.out.below HX P8.out.lt; obtain ⟨pb0, pb1, pb2, _, _, _, _⟩ := PB.out.below HX PB.out.lt; clear hh) | (with_reducible refine (check_zero A8 c8 S8.l S8.clk S8.nxt _ (R8.out.below HX) C8.out.2 C8.out.1).mono ?_; rintro e wn ⟨rfl, hh⟩; replace HX := below_step' HX hh; obtain ⟨p60, p61, p62, _, _, _, _⟩ := P6.out.below HX P6.out.lt; obtain ⟨p70, p71, p72, _, _, _, _⟩ := P7.out.below HX P7.out.lt; obtain ⟨p80, p81, p82, _, _, _, _⟩ := P8.out.below HX P8.out.lt; obtain ⟨pb0, pb1, pb2, _, _, _, _⟩ := PB.out.below HX PB.out.lt; clear hh))
          go_ret
          exact ⟨rfl, HF.trans (HX.mono HF.size)⟩
        · have r7 : (er7 == 0) = false := by simpa using q7
          clear CB
          go_wp2_with (first | (refine (num_any _ _).mono ?_; rintro e wn ⟨rfl, rfl⟩) | (with_reducible refine (check_zero A5 c5 S5.l S5.clk S5.nxt _ (R5.out.below HX) C5.out.2 C5.out.1).mono ?_; rintro e wn ⟨rfl, hh⟩; replace HX := below_step' HX hh; obtain ⟨p60, p61, p62, _, _, _, _⟩ := P6.out.below HX P6.out.lt; obtain ⟨p70, p71, p72, _, _, _, _⟩ := P7.out.below HX P7.out.lt; obtain ⟨p80, p81, p82, _, _, _, _⟩ := P8.out.below HX P8.out.lt; obtain ⟨pb0, pb1, pb2, _, _, _, _⟩ := PB.out.below HX PB.out.lt; clear hh) | (with_reducible refine (check_zero A6 c6 S6.l S6.clk S6.nxt _ (R6.out.below HX) C6.out.2 C6.out.1).mono ?_; rintro e wn ⟨rfl, hh⟩; replace HX := below_step' HX hh; obtain ⟨p60, p61, p62, _, _, _, _⟩ := P6.out.below HX P6.out.lt; obtain ⟨p70, p71, p72, _, _, _, _⟩ := P7.out.below HX P7.out.lt; obtain ⟨p80, p81, p82, _, _, _, _⟩ := P8.out.below HX P8.out.lt; obtain ⟨pb0, pb1, pb2, _, _, _, _⟩ := PB.out.below HX PB.out.lt; clear hh) | (with_reducible refine (check_zero A7 c7 S7.l S7.clk S7.nxt _ (R7.out.below HX) C7.out.2 C7.out.1).mono ?_; rintro e wn ⟨rfl, hh⟩; replace HX := below_step' HX hh; obtain ⟨p60, p61, p62, _, _, _, _⟩ := P6.out.below HX P6.out.lt; obtain ⟨p70, p71, p72, _, _, _, _⟩ := P7.out.below HX P7.out.lt; obtain ⟨p80, p81, p82, _, _, _, _⟩ := P8.out.below HX P8.out.lt; obtain ⟨pb0, pb1, pb2, _, _, _, _⟩ := PB.out.below HX PB.out.lt; clear hh) | (with_reducible refine (check_zero A8 c8 S8.l S8.clk S8.nxt _ (R8.out.below HX) C8.out.2 C8.out.1).mono ?_; rintro e wn ⟨rfl, hh⟩; replace HX := below_step' HX hh; obtain ⟨p60, p61, p62, _, _, _, _⟩ := P6.out.below HX P6.out.lt; obtain ⟨p70, p71, p72, _, _, _, _⟩ := P7.out.below HX P7.out.lt; obtain ⟨p80, p81, p82, _, _, _, _⟩ := P8.out.below HX P8.out.lt; obtain ⟨pb0, pb1, pb2, _, _, _, _⟩ := PB.out.below HX PB.out.lt; clear hh))
          go_ret
          exact ⟨rfl, HF.trans (HX.mono HF.size)⟩
    · have r5 : (er5 == 0) = false := by simpa using q5
      clear CE
      by_cases q6 : er6 = 0
      · subst q6
        obtain ⟨hc6, rfl⟩ := CC.out (by trivial)
        have C6 : Hid (S6.chk = 0 ∧ S6.l.length ≤ 140737488355328) := Lib.hid ⟨hc6, Nat.le_trans (chk_len hc6) (by omega)⟩
        clear hc6 CC
        by_cases q7 : er7 = 0
        · subst q7
          have C7 : Hid (S7.chk = 0 ∧ S7.l.length ≤ 140737488355328) := Lib.hid ⟨CB.out (by trivial), Nat.le_trans (chk_len (CB.out (by trivial))) (by omega)⟩
          clear CB
          go_wp2_with (first | (refine (num_any _ _).mono ?_; rintro e wn ⟨rfl, rfl⟩) | (with_reducible refine (check_zero A5 c5 S5.l S5.clk S5.nxt _ (R5.out.below HX) C5.out.2 C5.out.1).mono ?_; rintro e wn ⟨rfl, hh⟩; replace HX := below_step' HX hh; obtain ⟨p60, p61, p62, _, _, _, _⟩ := P6.out.below HX P6.out.lt; obtain ⟨p70, p71, p72, _, _, _, _⟩ := P7.out.below HX P7.out.lt; obtain ⟨p80, p81, p82, _, _, _, _⟩ := P8.out.below HX P8.out.lt; obtain ⟨pb0, pb1, pb2, _, _, _, _⟩ := PB.out.below HX PB.out.lt; clear hh) | (with_reducible refine (check_zero A6 c6 S6.l S6.clk S6.nxt _ (R6.out.below HX) C6.out.2 C6.out.1).mono ?_; rintro e wn ⟨rfl, hh⟩; replace HX := below_step' HX hh; obtain ⟨p60, p61, p62, _, _, _, _⟩ := P6.out.below HX P6.out.lt; obtain ⟨p70, p71, p72, _, _, _, _⟩ := P7.out.below HX P7.out.lt; obtain ⟨p80, p81, p82, _, _, _, _⟩ := P8.out.below HX P8.out.lt; obtain ⟨pb0, pb1, pb2, _, _, _, _⟩ := PB.out.below HX PB.out.lt; clear hh) | (with_reducible refine (check_zero A7 c7 S7.l S7.clk S7.nxt _ (R7.out.below HX) C7.out.2 C7.out.1).mono ?_; rintro e wn ⟨rfl, hh⟩; replace HX := below_step' HX hh; obtain ⟨p60, p61, p62, _, _, _, _⟩ := P6.out.below HX P6.out.lt; obtain ⟨p70, p71, p72, _, _, _, _⟩ := P7.out.below HX P7.out.lt; obtain ⟨p80, p81, p82, _, _, _, _⟩ := P8.out.below HX P8.out.lt; obtain ⟨pb0, pb1, pb2, _, _, _, _⟩ := PB.out.below HX PB.out.lt; clear hh) | (with_reducible refine (check_zero A8 c8 S8.l S8.clk S8.nxt _ (R8.out.below HX) C8.out.2 C8.out.1).mono ?_; rintro e wn ⟨rfl, hh⟩; replace HX := below_step' HX hh; obtain ⟨p60, p61, p62, _, _, _, _⟩ := P6.out.below HX P6.out.lt; obtain ⟨p70, p71, p72, _, _, _, _⟩ := P7.out.below HX P7.out.lt; obtain ⟨p80, p81, p82, _, _, _, _⟩ := P8.out.below HX P8.out.lt; obtain ⟨pb0, pb1, pb2, _, _, _, _⟩ := PB.out.below HX PB.out.lt; clear hh))
          go_ret
          exact ⟨rfl, HF.trans (HX.mono HF.size)⟩
        · have r7 : (er7 == 0) = false := by simpa using q7
          clear CB
          go_wp2_with (first | (refine (num_any _ _).mono ?_; rintro e wn ⟨rfl, rfl⟩) | (with_reducible refine (check_zero A5 c5 S5.l S5.clk S5.nxt _ (R5.out.below HX) C5.out.2 C5.out.1).mono ?_; rintro e wn ⟨rfl, hh⟩; replace HX := below_step' HX hh; obtain ⟨p60, p61, p62, _, _, _, _⟩ := P6.out.below HX P6.out.lt; obtain ⟨p70, p71, p72, _, _, _, _⟩ := P7.out.below HX P7.out.lt; obtain ⟨p80, p81, p82, _, _, _, _⟩ := P8.out.below HX P8.out.lt; obtain ⟨pb0, pb1, pb2, _, _, _, _⟩ := PB.out.below HX PB.out.lt; clear hh) | (with_reducible refine (check_zero A6 c6 S6.l S6.clk S6.nxt _ (R6.out.below HX) C6.out.2 C6.out.1).mono ?_; rintro e wn ⟨rfl, hh⟩; replace HX := below_step' HX hh; obtain ⟨p60, p61, p62, _, _, _, _⟩ := P6.out.below HX P6.out.lt; obtain ⟨p70, p71, p72, _, _, _, _⟩ := P7.out.below HX P7.out.lt; obtain ⟨p80, p81, p82, _, _, _, _⟩ := P8.out.below HX P8.out.lt; obtain ⟨pb0, pb1, pb2, _, _, _, _⟩ := PB.out.below HX PB.out.lt; clear hh) | (with_reducible refine (check_zero A7 c7 S7.l S7.clk S7.nxt _ (R7.out.below HX) C7.out.2 C7.out.1).mono ?_; rintro e wn ⟨rfl, hh⟩; replace HX := below_step' HX hh; obtain ⟨p60, p61, p62, _, _, _, _⟩ := P6.out.below HX P6.out.lt; obtain ⟨p70, p71, p72, _, _, _, _⟩ := P7.out.below HX P7.out.lt; obtain ⟨p80, p81, p82, _, _, _, _⟩ := P8.out.below HX P8.out.lt; obtain ⟨pb0, pb1, pb2, _, _, _, _⟩ := PB.out.below HX PB.out.lt; clear hh) | (with_reducible refine (check_zero A8 c8 S8.l S8.clk S8.nxt _ (R8.out.below HX) C8.out.2 C8.out.1).mono ?_; rintro e wn ⟨rfl, hh⟩; replace HX := below_step' HX hh; obtain ⟨p60, p61, p62, _, _, _, _⟩ := P6.out.below HX P6.out.lt; obtain ⟨p70, p71, p72, _, _, _, _⟩ := P7.out.below HX P7.out.lt; obtain ⟨p80, p81, p82, _, _, _, _⟩ := P8.out.below HX P8.out.lt; obtain ⟨pb0, pb1, pb2, _, _, _, _⟩ := PB.out.below HX PB.out.lt; clear hh))
          go_ret
          exact ⟨rfl, HF.trans (HX.mono HF.size)⟩
      · have r6 : (er6 == 0) = false := by simpa using q6
        clear CC
        by_cases q7 : er7 = 0
        · subst q7
          have C7 : Hid (S7.chk = 0 ∧ S7.l.length ≤ 140737488355328) := Lib.hid ⟨CB.out (by trivial), Nat.le_trans (chk_len (CB.out (by trivial))) (by omega)⟩
          clear CB
          go_wp2_with (first | (refine (num_any _ _).mono ?_; rintro e wn ⟨rfl, rfl⟩) | (with_reducible refine (check_zero A5 c5 S5.l S5.clk S5.nxt _ (R5.out.below HX) C5.out.2 C5.out.1).mono ?_; rintro e wn ⟨rfl, hh⟩; replace HX := below_step' HX hh; obtain ⟨p60, p61, p62, _, _, _, _⟩ := P6.out.below HX P6.out.lt; obtain ⟨p70, p71, p72, _, _, _, _⟩ := P7.out.below HX P7.out.lt; obtain ⟨p80, p81, p82, _, _, _, _⟩ := P8.out.below HX P8.out.lt; obtain ⟨pb0, pb1, pb2, _, _, _, _⟩ := PB.out.below HX PB.out.lt; clear hh) | (with_reducible refine (check_zero A6 c6 S6.l S6.clk S6.nxt _ (R6.out.below HX) C6.out.2 C6.out.1).mono ?_; rintro e wn ⟨rfl, hh⟩; replace HX := below_step' HX hh; obtain ⟨p60, p61, p62, _, _, _, _⟩ := P6.out.below HX P6.out.lt; obtain ⟨p70, p71, p72, _, _, _, _⟩ := P7.out.below HX P7.out.lt; obtain ⟨p80, p81, p82, _, _, _, _⟩ := P8.out.below HX P8.out.lt; obtain ⟨pb0, pb1, pb2, _, _, _, _⟩ := PB.out.below HX PB.out.lt; clear hh) | (with_reducible refine (check_zero A7 c7 S7.l S7.clk S7.nxt _ (R7.out.below HX) C7.out.2 C7.out.1).mono ?_; rintro e wn ⟨rfl, hh⟩; replace HX := below_step' HX hh; obtain ⟨p60, p61, p62, _, _, _, _⟩ := P6.out.below HX P6.out.lt; obtain ⟨p70, p71, p72, _, _, _, _⟩ := P7.out.below HX P7.out.lt; obtain ⟨p80, p81, p82, _, _, _, _⟩ := P8.out.below HX P8.out.lt; obtain ⟨pb0, pb1, pb2, _, _, _, _⟩ := PB.out.below HX PB.out.lt; clear hh) | (with_reducible refine (check_zero A8 c8 S8.l S8.clk S8.nxt _ (R8.out.below HX) C8.out.2 C8.out.1).mono ?_; rintro e wn ⟨rfl, hh⟩; replace HX := below_step' HX hh; obtain ⟨p60, p61, p62, _, _, _, _⟩ := P6.out.below HX P6.out.lt; obtain ⟨p70, p71, p72, _, _, _, _⟩ := P7.out.below HX P7.out.lt; obtain ⟨p80, p81, p82, _, _, _, _⟩ := P8.out.below HX P8.out.lt; obtain ⟨pb0, pb1, pb2, _, _, _, _⟩ := PB.out.below HX PB.out.lt; clear hh))
          go_ret
          exact ⟨rfl, HF.trans (HX.mono HF.size)⟩
        · have r7 : (er7 == 0) = false := by simpa using q7
          clear CB
          go_wp2_with (first | (refine (num_any _ _).mono ?_; rintro e wn ⟨rfl, rfl⟩) | (with_reducible refine (check_zero A5 c5 S5.l S5.clk S5.nxt _ (R5.out.below HX) C5.out.2 C5.out.1).mono ?_; rintro e wn ⟨rfl, hh⟩; replace HX := below_step' HX hh; obtain ⟨p60, p61, p62, _, _, _, _⟩ := P6.out.below HX P6.out.lt; obtain ⟨p70, p71, p72, _, _, _, _⟩ := P7.out.below HX P7.out.lt; obtain ⟨p80, p81, p82, _, _, _, _⟩ := P8.out.below HX P8.out.lt; obtain ⟨pb0, pb1, pb2, _, _, _, _⟩ := PB.out.below HX PB.out.lt; clear hh) | (with_reducible refine (check_zero A6 c6 S6.l S6.clk S6.nxt _ (R6.out.below HX) C6.out.2 C6.out.1).mono ?_; rintro e wn ⟨rfl, hh⟩; replace HX := below_step' HX hh; obtain ⟨p60, p61, p62, _, _, _, _⟩ := P6.out.below HX P6.out.lt; obtain ⟨p70, p71, p72, _, _, _, _⟩ := P7.out.below HX P7.out.lt; obtain ⟨p80, p81, p82, _, _, _, _⟩ := P8.out.below HX P8.out.lt; obtain ⟨pb0, pb1, pb2, _, _, _, _⟩ := PB.out.below HX PB.out.lt; clear hh) | (with_reducible refine (check_zero A7 c7 S7.l S7.clk S7.nxt _ (R7.out.below HX) C7.out.2 C7.out.1).mono ?_; rintro e wn ⟨rfl, hh⟩; replace HX := below_step' HX hh; obtain ⟨p60, p61, p62, _, _, _, _⟩ := P6.out.below HX P6.out.lt; obtain ⟨p70, p71, p72, _, _, _, _⟩ := P7.out.below HX P7.out.lt; obtain ⟨p80, p81, p82, _, _, _, _⟩ := P8.out.below HX P8.out.lt; obtain ⟨pb0, pb1, pb2, _, _, _, _⟩ := PB.out.below HX PB.out.lt; clear hh) | (with_reducible refine (check_zero A8 c8 S8.l S8.clk S8.nxt _ (R8.out.below HX) C8.out.2 C8.out.1).mono ?_; rintro e wn ⟨rfl, hh⟩; replace HX := below_step' HX hh; obtain ⟨p60, p61, p62, _, _, _, _⟩ := P6.out.below HX P6.out.lt; obtain ⟨p70, p71, p72, _, _, _, _⟩ := P7.out.below HX P7.out.lt; obtain ⟨p80, p81, p82, _, _, _, _⟩ := P8.out.below HX P8.out.lt; obtain ⟨pb0, pb1, pb2, _, _, _, _⟩ := PB.out.below HX PB.out.lt; clear hh))
          go_ret
          exact ⟨rfl, HF.trans (HX.mono HF.size)⟩
  · obtain ⟨e1, e2⟩ := begin_bad he
    rw [e2, e1]
    generalize (beginR s).2.2 = er at *
    have he' : (er == 0) = false := by simpa using he
    go_wp2_with (refine (num_any _ _).mono ?_; rintro e wn ⟨rfl, rfl⟩)
    go_ret
    exact ⟨rfl, HF3.alloc z3 _⟩
end Go.Proofs.Ytdajginkipaghaa
