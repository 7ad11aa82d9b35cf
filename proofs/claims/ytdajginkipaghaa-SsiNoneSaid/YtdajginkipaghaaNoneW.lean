/- The law SsiNone: its walk. (Printed by gen17g.py.) -/
import Derived.Test.YtdajginkipaghaaAliveW
import Derived.Test.YtdajginkipaghaaSsiN
namespace Go.Proofs.Ytdajginkipaghaa
open Go.RowKit
open Go.Shelf
set_option linter.unusedVariables false
set_option linter.unusedSimpArgs false
structure Stp where
  wh : Int
  a : Int
  b : Int
def encP (p : Stp) : List Value := [.int .i64 p.wh, .int .i64 p.a, .int .i64 p.b]
theorem encP_len (x : Stp) : (encP x).length = 3 := rfl
theorem pick9_ok (a : Int) : wrap64 (a.tmod 9 + 9) = a.tmod 9 + 9 ∧ wrap64 (1 + (a.tmod 9 + 9).tmod 9) = 1 + (a.tmod 9 + 9).tmod 9 ∧ (Lit.int .i64 (1 + (a.tmod 9 + 9).tmod 9)).wf = true := by
  have h1 := Int.lt_tmod_of_pos a (b := 9) (by decide)
  have h2 := Int.tmod_lt_of_pos a (b := 9) (by decide)
  have h3 := Int.lt_tmod_of_pos (a.tmod 9 + 9) (b := 9) (by decide)
  have h4 := Int.tmod_lt_of_pos (a.tmod 9 + 9) (b := 9) (by decide)
  exact ⟨IntWalk.wrap64_in _ ⟨by omega, by omega⟩, IntWalk.wrap64_in _ ⟨by omega, by omega⟩, wf64 (by omega) (by omega)⟩
theorem pick4_ok (a : Int) : wrap64 (a.tmod 4 + 4) = a.tmod 4 + 4 ∧ ((a.tmod 4 + 4).tmod 4 = 0 ∨ (a.tmod 4 + 4).tmod 4 = 1 ∨ (a.tmod 4 + 4).tmod 4 = 2 ∨ (a.tmod 4 + 4).tmod 4 = 3) := by
  have h1 := Int.lt_tmod_of_pos a (b := 4) (by decide)
  have h2 := Int.tmod_lt_of_pos a (b := 4) (by decide)
  have h3 := Int.tmod_nonneg (a := a.tmod 4 + 4) 4 (by omega)
  have h4 := Int.tmod_lt_of_pos (a.tmod 4 + 4) (b := 4) (by decide)
  exact ⟨IntWalk.wrap64_in _ ⟨by omega, by omega⟩, by omega⟩
theorem Box3.drewN {w : World} {b : Nat} {x y z : Value} (h : Box3 w b x y z) (n : Nat) : Box3 (w.drewN n) b x y z := ⟨h.c0, h.c1, h.c2, h.f0, h.f1, h.f2, h.lt⟩
theorem RowE.drewN {α : Type} {enc : α → List Value} {k : Nat} {w : World} {A : Option Addr} {l : List α} (h : RowE enc k w A l) (n : Nat) : RowE enc k (w.drewN n) A l := h
theorem RowE.kept {α : Type} {enc : α → List Value} {k : Nat} {w w1 : World} {A : Option Addr} {l : List α} {B3 : Nat} (h : RowE enc k w A l) (hk : Kept w.heap.size (fun k => k = B3) w w1) (hA : ∀ a, A = some a → B3 < a.block) : RowE enc k w1 A l := fun i x hi => by
  obtain ⟨b, off, rfl, hlt, hc⟩ := h i x hi
  have hb := hA _ rfl
  exact ⟨b, off, rfl, Nat.lt_of_lt_of_le hlt hk.size, fun i x hi j v hv => (hk.cell (p := ⟨b, _, none⟩) hlt (by show ¬ b = B3; simp only at hb; omega)).trans (hc i x hi j v hv)⟩
theorem check_ok (A : Option Addr) (c : Nat) (l : List Tx) (clk nxt : Int) (w : World) (HR : RowE encT 5 w A l) (hl : l.length ≤ 140737488355328) (h : (St.mk l clk nxt).chk = 0) :
    Calls Try.prog 14 #[.agg #[.slice A l.length c, .int .i64 clk, .int .i64 nxt]] w fun e w' => e = .returned (.int .i64 0) ∧ Below w.heap.size w w' := by
  have hc := check_any A c l clk nxt w HR hl
  have e : chk l clk nxt = 0 := h
  rw [e] at hc
  exact hc
theorem edge_two (s : St) (r v : Int) : (edgeR s r v).2.1.length ≤ 2 := by
  unfold edgeR
  split
  · simp
  · split
    · split
      · simp
      · simp only [List.length_append]
        split <;> split <;> simp
    · simp
set_option maxHeartbeats 8000000 in
set_option maxRecDepth 100000 in
theorem none_any (A : Option Addr) (c : Nat) (l : List Stp) (w : World) (HR : RowE encP 3 w A l) :
    Calls Try.prog 3 #[.slice A l.length c] w fun e w' => e = .returned (.bool true) ∧ Below w.heap.size w w' := by
  have HR0 := Lib.hid HR
  clear HR
  go_enter Try.func3, Try.ntmps3
  go_wp2_with fail
  refine (alive_any w).mono ?_; rintro e w1 ⟨rfl, h1⟩
  have HF1 := Lib.hid h1
  clear h1
  go_wp2_with fail
  refine (new_any w1).mono ?_; rintro e w2 ⟨rfl, h2⟩
  have HF2 := Lib.hid (below_step' HF1.out h2)
  have hzB := HF2.out.size
  clear HF1 h2
  go_wp2_with fail
  have HF3 := Lib.hid (HF2.out.alloc hzB (.cells #[.slice none 0 0, .int .i64 0, .int .i64 1] 26))
  have HB0 := Lib.hid (Box3.new w2 (.slice none 0 0) (.int .i64 0) (.int .i64 1) 26)
  generalize w2.heap.size = B3 at *
  generalize w2.alloc (.cells #[.slice none 0 0, .int .i64 0, .int .i64 1] 26) = w3 at *
  clear HF2
  go_loopw [4, 5] (fun i4 i5 wr => ∃ (j : Nat) (n : Int), j ≤ l.length ∧ i4 = .int .i64 n ∧ i5 = .int .i64 j ∧ Below w.heap.size w wr ∧ ∃ (s : St) (As : Option Addr) (cs : Nat), Box3 wr B3 (.slice As s.l.length cs) (.int .i64 s.clk) (.int .i64 s.nxt) ∧ Hid (RowE encT 5 wr As s.l) ∧ (As = none → cs = 0) ∧ (∀ a, As = some a → B3 < a.block) ∧ Hid (Calm s)) (fun _ i5 _ => l.length - (Lib.intOf i5).toNat)
  case atStart => exact ⟨0, 0, Nat.zero_le _, rfl, rfl, HF3.out, ⟨[], 0, 1⟩, none, 0, HB0.out, Lib.hid RowE.nil, fun _ => rfl, (fun a h => by cases h), Lib.hid calm_new⟩
  case round =>
    obtain ⟨j, n, hj, rfl, rfl, hbel, s, As, cs, HB, HRs, hns, hAs, HC⟩ := hrel
    clear HF3 HB0
    have hslen : s.l.length ≤ 64 := chk_len HC.out.1
    by_cases hlt : j < l.length ∧ j < 60
    · obtain ⟨hlt, h60⟩ := hlt
      obtain ⟨x, hx⟩ : ∃ x, l[j]? = some x := ⟨_, List.getElem?_eq_getElem hlt⟩
      obtain ⟨b0, off, rfl, hb0, hcx⟩ := HR0.out.atE hx hbel
      have GX : Hid (∀ w', Below w.heap.size w w' → w'.cell? ⟨b0, off + j * 3, none⟩ = some (.int .i64 x.wh)) := Lib.hid (fun w' h => by
        obtain ⟨b1, off1, e, _, hc⟩ := HR0.out.atE hx h
        cases e
        exact hc 0 _ rfl)
      have g1 := hcx 1 _ rfl
      have g2 := hcx 2 _ rfl
      obtain ⟨wh, xa, xb⟩ := x
      dsimp only at g1 g2 GX
      obtain ⟨p1, p2, p3⟩ := pick9_ok xa
      obtain ⟨p4, p5, p6⟩ := pick9_ok xb
      clear hx hcx
      go_wp2_with fail
      go_quiet (fail)
      simp only [p1, p2, p4, p5]
      clear g1 g2
      have HBd := Lib.hid (HB.drewN nq)
      have HRd := Lib.hid (HRs.out.drewN nq)
      have hbd := below_drewN' hbel nq
      have hB3 := hbd.size
      generalize wr.drewN nq = wD at *
      generalize 1 + (xa.tmod 9 + 9).tmod 9 = ra at *
      generalize 1 + (xb.tmod 9 + 9).tmod 9 = rb at *
      clear p1 p2 p4 p5 HB HRs hbel
      obtain ⟨q1, q2⟩ := pick4_ok wh
      have W9 : Below wD.heap.size wD (wD.alloc (.cells #[.slice As s.l.length cs, .int .i64 s.clk, .int .i64 s.nxt] 26)) := (Below.refl _ _).alloc (Nat.le_refl _) _
      have hb9 := hbd.alloc hbd.size (.cells #[.slice As s.l.length cs, .int .i64 s.clk, .int .i64 s.nxt] 26)
      have HB9 := Lib.hid (Box3.new wD (.slice As s.l.length cs) (.int .i64 s.clk) (.int .i64 s.nxt) 26)
      have HBs := Lib.hid (HBd.out.alloc (.cells #[.slice As s.l.length cs, .int .i64 s.clk, .int .i64 s.nxt] 26))
      have HR9 := Lib.hid (HRd.out.below W9)
      have g0 := GX.out _ hb9
      have l3 := HBd.out.lt
      obtain ⟨c00, c01, c02, f00, f01, f02, _⟩ := HBd.out
      clear GX
      rcases q2 with q2 | q2 | q2 | q2
      · by_cases h9 : 9 ≤ n
        · go_wp2
          go_roundw
          case rel => exact ⟨j + 1, n, by omega, rfl, by go_num, hb9, s, As, cs, HBs.out, Lib.hid HR9.out, hns, hAs, HC⟩
          case measure => simp [Lib.intOf]; omega
        have hcl := begin_any As cs s _ HR9.out hns (by omega)
        have CG : Hid ((beginR s).2.2 = 0 → Good (beginR s).1 []) := Lib.hid (fun h => calm_good (calm_begin HC.out h))
        generalize (beginR s).2.2 = e5 at *
        generalize (beginR s).2.1 = n5 at *
        generalize (beginR s).1 = S5 at *
        go_wp2_with fail
        refine hcl.mono ?_; rintro e w5 ⟨v5, rfl, hv5, h5⟩
        obtain ⟨A5, c5, rfl, hr5, hn5, hN5, _⟩ := hv5.out
        clear hcl hv5 g0 q1 q2
        have HBs5 := HBs.out.below h5 HBs.out.lt
        have HB95 := HB9.out.below h5 HB9.out.lt
        have HR95 := Lib.hid (HR9.out.below h5)
        have hb5 := hb9.trans (h5.mono hb9.size)
        have hl9 : wD.heap.size < w5.heap.size := HB95.lt
        have hDD := Lib.hid (put3_below (W9.trans (h5.mono W9.size)) (b := wD.heap.size) (Nat.le_refl _) (.slice A5 S5.l.length c5) (.int .i64 S5.clk) (.int .i64 S5.nxt))
        have hne : B3 ≠ wD.heap.size := by omega
        have hne' : wD.heap.size ≠ B3 := by omega
        have hN6 : ∀ a, A5 = some a → wD.heap.size + 1 ≤ a.block := fun a h => by have := hN5 a h; simp at this; omega
        have HR5 := Lib.hid (put3_row (b := wD.heap.size) hr5 hN6 (by omega) (.slice A5 S5.l.length c5) (.int .i64 S5.clk) (.int .i64 S5.nxt))
        have HBs6 := Lib.hid (put3_other (x' := .slice A5 S5.l.length c5) (y' := .int .i64 S5.clk) (z' := .int .i64 S5.nxt) HBs5 (b := wD.heap.size) hne')
        have hb6 := Lib.hid (put3_below hb5 (b := wD.heap.size) hB3 (.slice A5 S5.l.length c5) (.int .i64 S5.clk) (.int .i64 S5.nxt))
        obtain ⟨d0, d1, d2, e0, e1, e2, l9⟩ := HB95
        obtain ⟨s0, s1, s2, t0, t1, t2, l3'⟩ := HBs5
        clear hr5 HBs HR9 h5 hN5 c00 c01 c02 f00 f01 f02 hb9 HB9
        by_cases k5 : e5 = 0
        · subst k5
          have HG := Lib.hid (CG.out (by trivial))
          clear CG HR95 hslen HC hns hAs HBd hbd hDD HRd W9
          have HR7 := Lib.hid (put3_row (b := B3) HR5.out hN6 (by omega) (.slice A5 S5.l.length c5) (.int .i64 S5.clk) (.int .i64 S5.nxt))
          have HB7 := Lib.hid (put3_box (x' := .slice A5 S5.l.length c5) (y' := .int .i64 S5.clk) (z' := .int .i64 S5.nxt) HBs6.out)
          have hb7 := Lib.hid (put3_below hb6.out (b := B3) hzB (.slice A5 S5.l.length c5) (.int .i64 S5.clk) (.int .i64 S5.nxt))
          dsimp only [put3] at HR7 HB7 hb7
          go_wp2_with fail
          generalize hW7 : (((((w5.setCell ⟨wD.heap.size, 0, none⟩ (.slice A5 S5.l.length c5)).setCell ⟨wD.heap.size, 1, none⟩ (.int .i64 S5.clk)).setCell ⟨wD.heap.size, 2, none⟩ (.int .i64 S5.nxt)).setCell ⟨B3, 0, none⟩ (.slice A5 S5.l.length c5)).setCell ⟨B3, 1, none⟩ (.int .i64 S5.clk)).setCell ⟨B3, 2, none⟩ (.int .i64 S5.nxt) = w7 at *
          have hN7 : ∀ a, A5 = some a → B3 < a.block := fun a h => by have := hN6 a h; omega
          clear hW7 d0 d1 d2 e0 e1 e2 l9 s0 s1 s2 t0 t1 t2 l3' HR5 HBs6 hb6 hl9
          have hl7 : B3 < w7.heap.size := HB7.out.lt
          have hz7 : w.heap.size ≤ w7.heap.size := hb7.out.size
          go_loopw [11] (fun i11 wr => i11 = .int .i64 0 ∧ wr = w7) (fun _ _ => 0)
          case atStart => exact ⟨rfl, rfl⟩
          case round =>
            obtain ⟨rfl, rfl⟩ := hrel
            go_wp2
            go_roundw
            case rel => exact ⟨j + 1, n5, by omega, rfl, by go_num, hb7.out, S5, A5, c5, HB7.out, Lib.hid HR7.out, hn5, hN7, Lib.hid HG.out.1⟩
            case measure => simp [Lib.intOf]; omega
        · have k5' : (e5 == 0) = false := by simpa using k5
          have HR96 := Lib.hid (HRd.out.below hDD.out)
          clear CG HR95
          go_wp2_with fail
          go_roundw
          case rel => exact ⟨j + 1, n5, by omega, rfl, by go_num, hb6.out, s, As, cs, HBs6.out, Lib.hid HR96.out, hns, hAs, HC⟩
          case measure => simp [Lib.intOf]; omega
      · have hcl := edge_any As cs s ra rb _ HR9.out hns (by omega) p3 p6
        have CG : Hid ((edgeR s ra rb).2.2 = 0 → Good (edgeR s ra rb).1 (edgeR s ra rb).2.1) := Lib.hid (fun h => good_edge HC.out h)
        have hg5 := edge_two s ra rb
        generalize (edgeR s ra rb).2.2 = e5 at *
        generalize (edgeR s ra rb).2.1 = g5 at *
        generalize (edgeR s ra rb).1 = S5 at *
        go_wp2_with fail
        refine hcl.mono ?_; rintro e w5 ⟨v5, u5, rfl, hv5, hu5, h5⟩
        obtain ⟨A5, c5, rfl, hr5, hn5, hN5, _⟩ := hv5.out
        have HU5 := Lib.hid (hu5.mono (M := wD.heap.size + 1) (by simp))
        clear hu5
        clear hcl hv5 g0 q1 q2
        have HBs5 := HBs.out.below h5 HBs.out.lt
        have HB95 := HB9.out.below h5 HB9.out.lt
        have HR95 := Lib.hid (HR9.out.below h5)
        have hb5 := hb9.trans (h5.mono hb9.size)
        have hl9 : wD.heap.size < w5.heap.size := HB95.lt
        have hDD := Lib.hid (put3_below (W9.trans (h5.mono W9.size)) (b := wD.heap.size) (Nat.le_refl _) (.slice A5 S5.l.length c5) (.int .i64 S5.clk) (.int .i64 S5.nxt))
        have hne : B3 ≠ wD.heap.size := by omega
        have hne' : wD.heap.size ≠ B3 := by omega
        have hN6 : ∀ a, A5 = some a → wD.heap.size + 1 ≤ a.block := fun a h => by have := hN5 a h; simp at this; omega
        have HR5 := Lib.hid (put3_row (b := wD.heap.size) hr5 hN6 (by omega) (.slice A5 S5.l.length c5) (.int .i64 S5.clk) (.int .i64 S5.nxt))
        have HBs6 := Lib.hid (put3_other (x' := .slice A5 S5.l.length c5) (y' := .int .i64 S5.clk) (z' := .int .i64 S5.nxt) HBs5 (b := wD.heap.size) hne')
        have hb6 := Lib.hid (put3_below hb5 (b := wD.heap.size) hB3 (.slice A5 S5.l.length c5) (.int .i64 S5.clk) (.int .i64 S5.nxt))
        have HU6 := Lib.hid (put3_slb (b := wD.heap.size) HU5.out (by omega) (.slice A5 S5.l.length c5) (.int .i64 S5.clk) (.int .i64 S5.nxt))
        obtain ⟨d0, d1, d2, e0, e1, e2, l9⟩ := HB95
        obtain ⟨s0, s1, s2, t0, t1, t2, l3'⟩ := HBs5
        clear hr5 HBs HR9 h5 hN5 c00 c01 c02 f00 f01 f02 hb9 HB9
        by_cases k5 : e5 = 0
        · subst k5
          have HG := Lib.hid (CG.out (by trivial))
          clear CG HR95 hslen HC hns hAs HBd hbd hDD HRd W9
          have HR7 := Lib.hid (put3_row (b := B3) HR5.out hN6 (by omega) (.slice A5 S5.l.length c5) (.int .i64 S5.clk) (.int .i64 S5.nxt))
          have HB7 := Lib.hid (put3_box (x' := .slice A5 S5.l.length c5) (y' := .int .i64 S5.clk) (z' := .int .i64 S5.nxt) HBs6.out)
          have hb7 := Lib.hid (put3_below hb6.out (b := B3) hzB (.slice A5 S5.l.length c5) (.int .i64 S5.clk) (.int .i64 S5.nxt))
          have HU7 := Lib.hid (put3_slb (b := B3) HU6.out (by omega) (.slice A5 S5.l.length c5) (.int .i64 S5.clk) (.int .i64 S5.nxt))
          dsimp only [put3] at HR7 HB7 hb7 HU7
          go_wp2_with fail
          generalize hW7 : (((((w5.setCell ⟨wD.heap.size, 0, none⟩ (.slice A5 S5.l.length c5)).setCell ⟨wD.heap.size, 1, none⟩ (.int .i64 S5.clk)).setCell ⟨wD.heap.size, 2, none⟩ (.int .i64 S5.nxt)).setCell ⟨B3, 0, none⟩ (.slice A5 S5.l.length c5)).setCell ⟨B3, 1, none⟩ (.int .i64 S5.clk)).setCell ⟨B3, 2, none⟩ (.int .i64 S5.nxt) = w7 at *
          have hN7 : ∀ a, A5 = some a → B3 < a.block := fun a h => by have := hN6 a h; omega
          clear hW7 d0 d1 d2 e0 e1 e2 l9 s0 s1 s2 t0 t1 t2 l3' HR5 HBs6 hb6 hl9 HU5 HU6
          have hl7 : B3 < w7.heap.size := HB7.out.lt
          have hz7 : w.heap.size ≤ w7.heap.size := hb7.out.size
          obtain ⟨Au, cu, hu0, hlu, hru, _, hNu⟩ := HU7.out
          subst hu0
          have HRU := Lib.hid hru
          clear hru HU7
          go_wp2_with fail
          go_loopw [11] (fun i11 wq => ∃ k : Nat, k ≤ g5.length ∧ i11 = .int .i64 k ∧ Hid (Kept w7.heap.size (fun q => q = B3) w7 wq) ∧ ∃ (s' : St) (A' : Option Addr) (c' : Nat), Box3 wq B3 (.slice A' s'.l.length c') (.int .i64 s'.clk) (.int .i64 s'.nxt) ∧ Hid (RowE encT 5 wq A' s'.l) ∧ (A' = none → c' = 0) ∧ (∀ a, A' = some a → B3 < a.block) ∧ Hid (Good s' (g5.drop k))) (fun i11 _ => g5.length - (Lib.intOf i11).toNat)
          case atStart => exact ⟨0, Nat.zero_le _, rfl, Lib.hid (Kept.refl _ _ _), S5, A5, c5, HB7.out, Lib.hid HR7.out, hn5, hN7, Lib.hid (by simpa using HG.out)⟩
          case round =>
            obtain ⟨k, hk, rfl, HK, s', A', c', HBx, HRx, hnx, hNx, HGx⟩ := hrel
            clear HG HB7 HR7 hn5 hN7
            by_cases hlk : k < g5.length
            · obtain ⟨z, hz⟩ : ∃ z, g5[k]? = some z := ⟨_, List.getElem?_eq_getElem hlk⟩
              have hnu : ∀ a, Au = some a → B3 < a.block := fun a h => by have := hNu a h; omega
              obtain ⟨bu, ou, rfl, _, hcu⟩ := (HRU.out.kept HK.out hnu) k z hz
              have gz := hcu k z hz 0 _ rfl
              have gz' : wr.cell? ⟨bu, ou + k, none⟩ = some (.int .i64 z) := by simpa using gz
              have HS := Lib.hid (good_step (s := s') (id := z) (g := g5.drop (k + 1)) (by rw [← drop_cons hz]; exact HGx.out))
              have hsl : s'.l.length ≤ 64 := chk_len HGx.out.1.1
              have hab := fun (W : World) (h : RowE encT 5 W A' s'.l) => abort_any A' c' s' z W h hnx (by omega)
              rw [HS.out.1] at hab
              have HS2 := Lib.hid HS.out.2
              clear gz hz hcu HS HGx
              generalize (abortR s' z).1 = S6 at *
              have HAB := Lib.hid hab
              have HRn := Lib.hid (HRx.out.below ((Below.refl wr.heap.size wr).alloc (Nat.le_refl _) (.cells #[.slice none 0 0, .int .i64 0, .int .i64 0] 26)))
              have HBn := Lib.hid (Box3.new wr (.slice none 0 0) (.int .i64 0) (.int .i64 0) 26)
              have HWn := Lib.hid ((Below.refl wr.heap.size wr).alloc (Nat.le_refl _) (.cells #[.slice none 0 0, .int .i64 0, .int .i64 0] 26))
              have HBx' := Lib.hid HBx
              obtain ⟨s0, s1, s2, t0, t1, t2, lx⟩ := HBx
              clear hab
              go_wp2_with fail
              generalize hwq : wr = wq at *
              clear hwq
              go_cut [12, 13] (fun p e wx => ∃ b A6 c6, p = .pointer (some ⟨b, 0, none⟩) ∧ e = .int .i64 0 ∧ Box3 wx b (.slice A6 S6.l.length c6) (.int .i64 S6.clk) (.int .i64 S6.nxt) ∧ Hid (RowE encT 5 wx A6 S6.l) ∧ (A6 = none → c6 = 0) ∧ (∀ a, A6 = some a → B3 < a.block) ∧ Hid (Below wq.heap.size wq wx))
              case first =>
                go_region_with (first
                  | (go_at_call 12; refine (HAB.out wq.drew (RowE.drew HRx.out)).mono ?_; rintro e wn ⟨v6, rfl, hv6, h6⟩
                     obtain ⟨A6, c6, rfl, hr6, hn6, hN6, hc6⟩ := hv6.out
                     have hm1 : Below wq.heap.size wq wn := ⟨h6.os, h6.tape, h6.output, h6.size, h6.block⟩
                     have HR6 := Lib.hid hr6
                     have hm1' := Lib.hid hm1
                     have BD := Lib.hid (Box3.new wn (.slice none 0 0) (.int .i64 0) (.int .i64 0) 26)
                     clear hr6 hv6 h6 hm1)
                  | (go_at_call 12; refine (HAB.out (wq.alloc (.cells #[.slice none 0 0, .int .i64 0, .int .i64 0] 26)).drew (RowE.drew HRn.out)).mono ?_; rintro e wn ⟨v6, rfl, hv6, h6⟩
                     obtain ⟨A6, c6, rfl, hr6, hn6, hN6, hc6⟩ := hv6.out
                     have hm0 : Below (wq.alloc (.cells #[.slice none 0 0, .int .i64 0, .int .i64 0] 26)).heap.size (wq.alloc (.cells #[.slice none 0 0, .int .i64 0, .int .i64 0] 26)) wn := ⟨h6.os, h6.tape, h6.output, h6.size, h6.block⟩
                     have hm2' := Lib.hid (below_step' HWn.out hm0)
                     have HR6 := Lib.hid hr6
                     have BD := Lib.hid (HBn.out.below hm0 HBn.out.lt)
                     obtain ⟨x0, x1, x2, y0, y1, y2, lb⟩ := id BD.out
                     clear hr6 hv6 h6 hm0))
                all_goals
                  go_wp2_with fail
                  go_meet
                  first
                    | exact ⟨_, A6, c6, rfl, rfl, Box3.new _ _ _ _ _, Lib.hid (HR6.out.below ((Below.refl wn.heap.size wn).alloc (Nat.le_refl _) _)), hn6, fun a h => by (have := hN6 a h; simp at this; omega), Lib.hid (hm1'.out.alloc hm1'.out.size _)⟩
                    | exact ⟨_, A6, c6, rfl, rfl, put3_box BD.out, Lib.hid (HR6.out.below (put3_below ((Below.refl wn.heap.size wn).alloc (Nat.le_refl _) _) (Nat.le_refl _) _ _ _)), hn6, fun a h => by (have := hN6 a h; simp at this; omega), Lib.hid (put3_below (hm1'.out.alloc hm1'.out.size _) hm1'.out.size _ _ _)⟩
                    | exact ⟨_, A6, c6, rfl, rfl, put3_box BD.out, Lib.hid (put3_row HR6.out hN6 (by simp) _ _ _), hn6, fun a h => by (have := hN6 a h; simp at this; omega), Lib.hid (put3_below hm2'.out (Nat.le_refl _) _ _ _)⟩
              case rest =>
                obtain ⟨b, A6, c6, rfl, rfl, HB6, HR6, hn6, hN6', HW6⟩ := hcut
                clear s0 s1 s2 t0 t1 t2 HAB HRn HBn HWn gz'
                have HBy := HBx'.out.below HW6.out HBx'.out.lt
                have HBz := Lib.hid (put3_box (x' := .slice A6 S6.l.length c6) (y' := .int .i64 S6.clk) (z' := .int .i64 S6.nxt) HBy)
                have hkz : w7.heap.size ≤ wq.heap.size := HK.out.size
                have hkz2 := HW6.out.size
                have HKz := Lib.hid ((((HK.out.trans (Kept.of_below HW6.out hkz)).set ⟨B3, 0, none⟩ (.slice A6 S6.l.length c6) (.inr rfl)).set ⟨B3, 1, none⟩ (.int .i64 S6.clk) (.inr rfl)).set ⟨B3, 2, none⟩ (.int .i64 S6.nxt) (.inr rfl))
                have HRz := Lib.hid (put3_row (b := B3) HR6.out (N := B3 + 1) (fun a h => hN6' a h) (by omega) (.slice A6 S6.l.length c6) (.int .i64 S6.clk) (.int .i64 S6.nxt))
                obtain ⟨s0, s1, s2, t0, t1, t2, lx'⟩ := HBy
                obtain ⟨x0, x1, x2, _, _, _, lb⟩ := HB6
                go_wp2_with fail
                go_roundw
                case rel => exact ⟨k + 1, by omega, by go_num, HKz, S6, A6, c6, HBz.out, HRz, hn6, hN6', HS2⟩
                case measure => simp [Lib.intOf]; omega
            · obtain rfl : k = g5.length := by omega
              have hbz := Lib.hid (hb7.out.trans (HK.out.to_below (by omega) (by intro q h; omega)))
              have HCx := Lib.hid HGx.out.1
              clear HGx
              obtain ⟨s0, s1, s2, t0, t1, t2, lx⟩ := id HBx
              go_wp2
              go_roundw
              case rel => exact ⟨j + 1, n, by omega, rfl, by go_num, hbz.out, s', A', c', HBx, Lib.hid HRx.out, hnx, hNx, HCx⟩
              case measure => simp [Lib.intOf]; omega
        · have k5' : (e5 == 0) = false := by simpa using k5
          have HR96 := Lib.hid (HRd.out.below hDD.out)
          clear CG HR95
          go_wp2_with fail
          go_roundw
          case rel => exact ⟨j + 1, n, by omega, rfl, by go_num, hb6.out, s, As, cs, HBs6.out, Lib.hid HR96.out, hns, hAs, HC⟩
          case measure => simp [Lib.intOf]; omega
      · have hcl := commit_any As cs s ra _ HR9.out hns (by omega)
        have CG : Hid ((commitR s ra).2.2 = 0 → Good (commitR s ra).1 []) := Lib.hid (fun h => calm_good (calm_commit HC.out h))
        generalize (commitR s ra).2.2 = e5 at *
        generalize (commitR s ra).2.1 = k9 at *
        generalize (commitR s ra).1 = S5 at *
        go_wp2_with fail
        refine hcl.mono ?_; rintro e w5 ⟨v5, rfl, hv5, h5⟩
        obtain ⟨A5, c5, rfl, hr5, hn5, hN5, _⟩ := hv5.out
        clear hcl hv5 g0 q1 q2
        have HBs5 := HBs.out.below h5 HBs.out.lt
        have HB95 := HB9.out.below h5 HB9.out.lt
        have HR95 := Lib.hid (HR9.out.below h5)
        have hb5 := hb9.trans (h5.mono hb9.size)
        have hl9 : wD.heap.size < w5.heap.size := HB95.lt
        have hDD := Lib.hid (put3_below (W9.trans (h5.mono W9.size)) (b := wD.heap.size) (Nat.le_refl _) (.slice A5 S5.l.length c5) (.int .i64 S5.clk) (.int .i64 S5.nxt))
        have hne : B3 ≠ wD.heap.size := by omega
        have hne' : wD.heap.size ≠ B3 := by omega
        have hN6 : ∀ a, A5 = some a → wD.heap.size + 1 ≤ a.block := fun a h => by have := hN5 a h; simp at this; omega
        have HR5 := Lib.hid (put3_row (b := wD.heap.size) hr5 hN6 (by omega) (.slice A5 S5.l.length c5) (.int .i64 S5.clk) (.int .i64 S5.nxt))
        have HBs6 := Lib.hid (put3_other (x' := .slice A5 S5.l.length c5) (y' := .int .i64 S5.clk) (z' := .int .i64 S5.nxt) HBs5 (b := wD.heap.size) hne')
        have hb6 := Lib.hid (put3_below hb5 (b := wD.heap.size) hB3 (.slice A5 S5.l.length c5) (.int .i64 S5.clk) (.int .i64 S5.nxt))
        obtain ⟨d0, d1, d2, e0, e1, e2, l9⟩ := HB95
        obtain ⟨s0, s1, s2, t0, t1, t2, l3'⟩ := HBs5
        clear hr5 HBs HR9 h5 hN5 c00 c01 c02 f00 f01 f02 hb9 HB9
        by_cases k5 : e5 = 0
        · subst k5
          have HG := Lib.hid (CG.out (by trivial))
          clear CG HR95 hslen HC hns hAs HBd hbd hDD HRd W9
          have HR7 := Lib.hid (put3_row (b := B3) HR5.out hN6 (by omega) (.slice A5 S5.l.length c5) (.int .i64 S5.clk) (.int .i64 S5.nxt))
          have HB7 := Lib.hid (put3_box (x' := .slice A5 S5.l.length c5) (y' := .int .i64 S5.clk) (z' := .int .i64 S5.nxt) HBs6.out)
          have hb7 := Lib.hid (put3_below hb6.out (b := B3) hzB (.slice A5 S5.l.length c5) (.int .i64 S5.clk) (.int .i64 S5.nxt))
          dsimp only [put3] at HR7 HB7 hb7
          go_wp2_with fail
          generalize hW7 : (((((w5.setCell ⟨wD.heap.size, 0, none⟩ (.slice A5 S5.l.length c5)).setCell ⟨wD.heap.size, 1, none⟩ (.int .i64 S5.clk)).setCell ⟨wD.heap.size, 2, none⟩ (.int .i64 S5.nxt)).setCell ⟨B3, 0, none⟩ (.slice A5 S5.l.length c5)).setCell ⟨B3, 1, none⟩ (.int .i64 S5.clk)).setCell ⟨B3, 2, none⟩ (.int .i64 S5.nxt) = w7 at *
          have hN7 : ∀ a, A5 = some a → B3 < a.block := fun a h => by have := hN6 a h; omega
          clear hW7 d0 d1 d2 e0 e1 e2 l9 s0 s1 s2 t0 t1 t2 l3' HR5 HBs6 hb6 hl9
          have hl7 : B3 < w7.heap.size := HB7.out.lt
          have hz7 : w.heap.size ≤ w7.heap.size := hb7.out.size
          go_loopw [11] (fun i11 wr => i11 = .int .i64 0 ∧ wr = w7) (fun _ _ => 0)
          case atStart => exact ⟨rfl, rfl⟩
          case round =>
            obtain ⟨rfl, rfl⟩ := hrel
            go_wp2
            go_roundw
            case rel => exact ⟨j + 1, n, by omega, rfl, by go_num, hb7.out, S5, A5, c5, HB7.out, Lib.hid HR7.out, hn5, hN7, Lib.hid HG.out.1⟩
            case measure => simp [Lib.intOf]; omega
        · have k5' : (e5 == 0) = false := by simpa using k5
          have HR96 := Lib.hid (HRd.out.below hDD.out)
          clear CG HR95
          go_wp2_with fail
          go_roundw
          case rel => exact ⟨j + 1, n, by omega, rfl, by go_num, hb6.out, s, As, cs, HBs6.out, Lib.hid HR96.out, hns, hAs, HC⟩
          case measure => simp [Lib.intOf]; omega
      · have hcl := abort_any As cs s ra _ HR9.out hns (by omega)
        have CG : Hid ((abortR s ra).2 = 0 → Good (abortR s ra).1 []) := Lib.hid (fun h => calm_good (calm_abort HC.out h))
        generalize (abortR s ra).2 = e5 at *
        generalize (abortR s ra).1 = S5 at *
        go_wp2_with fail
        refine hcl.mono ?_; rintro e w5 ⟨v5, rfl, hv5, h5⟩
        obtain ⟨A5, c5, rfl, hr5, hn5, hN5, _⟩ := hv5.out
        clear hcl hv5 g0 q1 q2
        have HBs5 := HBs.out.below h5 HBs.out.lt
        have HB95 := HB9.out.below h5 HB9.out.lt
        have HR95 := Lib.hid (HR9.out.below h5)
        have hb5 := hb9.trans (h5.mono hb9.size)
        have hl9 : wD.heap.size < w5.heap.size := HB95.lt
        have hDD := Lib.hid (put3_below (W9.trans (h5.mono W9.size)) (b := wD.heap.size) (Nat.le_refl _) (.slice A5 S5.l.length c5) (.int .i64 S5.clk) (.int .i64 S5.nxt))
        have hne : B3 ≠ wD.heap.size := by omega
        have hne' : wD.heap.size ≠ B3 := by omega
        have hN6 : ∀ a, A5 = some a → wD.heap.size + 1 ≤ a.block := fun a h => by have := hN5 a h; simp at this; omega
        have HR5 := Lib.hid (put3_row (b := wD.heap.size) hr5 hN6 (by omega) (.slice A5 S5.l.length c5) (.int .i64 S5.clk) (.int .i64 S5.nxt))
        have HBs6 := Lib.hid (put3_other (x' := .slice A5 S5.l.length c5) (y' := .int .i64 S5.clk) (z' := .int .i64 S5.nxt) HBs5 (b := wD.heap.size) hne')
        have hb6 := Lib.hid (put3_below hb5 (b := wD.heap.size) hB3 (.slice A5 S5.l.length c5) (.int .i64 S5.clk) (.int .i64 S5.nxt))
        obtain ⟨d0, d1, d2, e0, e1, e2, l9⟩ := HB95
        obtain ⟨s0, s1, s2, t0, t1, t2, l3'⟩ := HBs5
        clear hr5 HBs HR9 h5 hN5 c00 c01 c02 f00 f01 f02 hb9 HB9
        by_cases k5 : e5 = 0
        · subst k5
          have HG := Lib.hid (CG.out (by trivial))
          clear CG HR95 hslen HC hns hAs HBd hbd hDD HRd W9
          have HR7 := Lib.hid (put3_row (b := B3) HR5.out hN6 (by omega) (.slice A5 S5.l.length c5) (.int .i64 S5.clk) (.int .i64 S5.nxt))
          have HB7 := Lib.hid (put3_box (x' := .slice A5 S5.l.length c5) (y' := .int .i64 S5.clk) (z' := .int .i64 S5.nxt) HBs6.out)
          have hb7 := Lib.hid (put3_below hb6.out (b := B3) hzB (.slice A5 S5.l.length c5) (.int .i64 S5.clk) (.int .i64 S5.nxt))
          dsimp only [put3] at HR7 HB7 hb7
          go_wp2_with fail
          generalize hW7 : (((((w5.setCell ⟨wD.heap.size, 0, none⟩ (.slice A5 S5.l.length c5)).setCell ⟨wD.heap.size, 1, none⟩ (.int .i64 S5.clk)).setCell ⟨wD.heap.size, 2, none⟩ (.int .i64 S5.nxt)).setCell ⟨B3, 0, none⟩ (.slice A5 S5.l.length c5)).setCell ⟨B3, 1, none⟩ (.int .i64 S5.clk)).setCell ⟨B3, 2, none⟩ (.int .i64 S5.nxt) = w7 at *
          have hN7 : ∀ a, A5 = some a → B3 < a.block := fun a h => by have := hN6 a h; omega
          clear hW7 d0 d1 d2 e0 e1 e2 l9 s0 s1 s2 t0 t1 t2 l3' HR5 HBs6 hb6 hl9
          have hl7 : B3 < w7.heap.size := HB7.out.lt
          have hz7 : w.heap.size ≤ w7.heap.size := hb7.out.size
          go_loopw [11] (fun i11 wr => i11 = .int .i64 0 ∧ wr = w7) (fun _ _ => 0)
          case atStart => exact ⟨rfl, rfl⟩
          case round =>
            obtain ⟨rfl, rfl⟩ := hrel
            go_wp2
            go_roundw
            case rel => exact ⟨j + 1, n, by omega, rfl, by go_num, hb7.out, S5, A5, c5, HB7.out, Lib.hid HR7.out, hn5, hN7, Lib.hid HG.out.1⟩
            case measure => simp [Lib.intOf]; omega
        · have k5' : (e5 == 0) = false := by simpa using k5
          have HR96 := Lib.hid (HRd.out.below hDD.out)
          clear CG HR95
          go_wp2_with fail
          go_roundw
          case rel => exact ⟨j + 1, n, by omega, rfl, by go_num, hb6.out, s, As, cs, HBs6.out, Lib.hid HR96.out, hns, hAs, HC⟩
          case measure => simp [Lib.intOf]; omega
    · have hstop : j = l.length ∨ (j < l.length ∧ 60 ≤ j) := by omega
      clear hlt
      have HBr := Lib.hid HB
      have hck := check_ok As cs s.l s.clk s.nxt wr HRs.out (by omega) HC.out.1
      obtain ⟨c00, c01, c02, f00, f01, f02, l0⟩ := HB
      rcases hstop with rfl | ⟨hlt, h60⟩
      · go_wp2_with fail
        generalize hwq : wr = wq at *
        clear hwq
        go_loopw [14] (fun i14 wp => ∃ m : Nat, m ≤ s.l.length ∧ i14 = .int .i64 m ∧ wp = wq) (fun i14 _ => s.l.length - (Lib.intOf i14).toNat)
        case atStart => exact ⟨0, Nat.zero_le _, rfl, rfl⟩
        case round =>
          obtain ⟨m, hm, rfl, rfl⟩ := hrel
          by_cases hlm : m < s.l.length
          · obtain ⟨t, ht⟩ : ∃ t, s.l[m]? = some t := ⟨_, List.getElem?_eq_getElem hlm⟩
            obtain ⟨bt, ot, rfl, hbt, g0, g1, g2, g3, g4⟩ := HRs.out.five (B := 0) ht (Below.refl _ _)
            have hno := HC.out.2 t (List.mem_of_getElem? ht)
            clear ht
            obtain ⟨tid, tst, ten, ti, tu⟩ := t
            dsimp only at g0 g1 g2 g3 g4 hno
            by_cases e0 : 0 < ten
            · cases ti with
              | false =>
                clear hno
                go_wp2
                go_roundw
                case rel => exact ⟨m + 1, by omega, by go_num, by trivial⟩
                case measure => simp [Lib.intOf]; omega
              | true =>
                obtain rfl : tu = false := by cases tu with | false => rfl | true => exact absurd ⟨e0, rfl, rfl⟩ hno
                clear hno
                go_wp2
                go_roundw
                case rel => exact ⟨m + 1, by omega, by go_num, by trivial⟩
                case measure => simp [Lib.intOf]; omega
            · clear hno
              have e0' : decide (0 < ten) = false := decide_eq_false e0
              go_wp2
              go_roundw
              case rel => exact ⟨m + 1, by omega, by go_num, by trivial⟩
              case measure => simp [Lib.intOf]; omega
          · obtain rfl : m = s.l.length := by omega
            go_wp2_with (first | (refine (num_any _ _).mono ?_; rintro e wn ⟨rfl, rfl⟩) | (refine hck.mono ?_; rintro e w9 ⟨rfl, h9⟩))
            go_ret
            exact ⟨rfl, below_step' hbel h9⟩
      · go_wp2_with fail
        generalize hwq : wr = wq at *
        clear hwq
        go_loopw [14] (fun i14 wp => ∃ m : Nat, m ≤ s.l.length ∧ i14 = .int .i64 m ∧ wp = wq) (fun i14 _ => s.l.length - (Lib.intOf i14).toNat)
        case atStart => exact ⟨0, Nat.zero_le _, rfl, rfl⟩
        case round =>
          obtain ⟨m, hm, rfl, rfl⟩ := hrel
          by_cases hlm : m < s.l.length
          · obtain ⟨t, ht⟩ : ∃ t, s.l[m]? = some t := ⟨_, List.getElem?_eq_getElem hlm⟩
            obtain ⟨bt, ot, rfl, hbt, g0, g1, g2, g3, g4⟩ := HRs.out.five (B := 0) ht (Below.refl _ _)
            have hno := HC.out.2 t (List.mem_of_getElem? ht)
            clear ht
            obtain ⟨tid, tst, ten, ti, tu⟩ := t
            dsimp only at g0 g1 g2 g3 g4 hno
            by_cases e0 : 0 < ten
            · cases ti with
              | false =>
                clear hno
                go_wp2
                go_roundw
                case rel => exact ⟨m + 1, by omega, by go_num, by trivial⟩
                case measure => simp [Lib.intOf]; omega
              | true =>
                obtain rfl : tu = false := by cases tu with | false => rfl | true => exact absurd ⟨e0, rfl, rfl⟩ hno
                clear hno
                go_wp2
                go_roundw
                case rel => exact ⟨m + 1, by omega, by go_num, by trivial⟩
                case measure => simp [Lib.intOf]; omega
            · clear hno
              have e0' : decide (0 < ten) = false := decide_eq_false e0
              go_wp2
              go_roundw
              case rel => exact ⟨m + 1, by omega, by go_num, by trivial⟩
              case measure => simp [Lib.intOf]; omega
          · obtain rfl : m = s.l.length := by omega
            go_wp2_with (first | (refine (num_any _ _).mono ?_; rintro e wn ⟨rfl, rfl⟩) | (refine hck.mono ?_; rintro e w9 ⟨rfl, h9⟩))
            go_ret
            exact ⟨rfl, below_step' hbel h9⟩
end Go.Proofs.Ytdajginkipaghaa
