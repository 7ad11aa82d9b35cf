/- Package ssi: Edge. -/
import Derived.Test.YtdajginkipaghaaMarkW
import Derived.Test.YtdajginkipaghaaRetW4
import Derived.Test.YtdajginkipaghaaLater
import Derived.LaidEqlPtr
import Derived.Shelf.Abstract
namespace Go.Proofs.Ytdajginkipaghaa
open Go.RowKit
open Go.Shelf
set_option linter.unusedVariables false
set_option linter.unusedSimpArgs false
theorem find_later (A : Option Addr) (c : Nat) (l : List Tx) (clk nxt id : Int) (W : World) (HR : RowE encT 5 W A l) (hs : l.Pairwise two) (hl : l.length ≤ 1000) :
    ∃ P : Option Addr, (at? id l = none → P = none) ∧ (∀ i x, at? id l = some (i, x) → ∃ b off, A = some ⟨b, off, none⟩ ∧ P = some ⟨b, off + i * 5, none⟩) ∧ ∀ p : Later W, Calls Try.prog 18 #[.agg #[.slice A l.length c, .int .i64 clk, .int .i64 nxt], .int .i64 id] p.W fun e w' => e = .returned (.pointer P) ∧ Below p.W.heap.size p.W w' := by
  cases h : at? id l with
  | none => exact ⟨none, fun _ => rfl, (fun i x h => by cases h), fun p => find_miss A c l clk nxt id p.W (HR.below p.h) hs hl h⟩
  | some q =>
    obtain ⟨i, x⟩ := q
    obtain ⟨b, off, hA, _⟩ := HR i x (at_some h).1
    subst hA
    refine ⟨some ⟨b, off + i * 5, none⟩, (fun h => by cases h), (fun i' x' h' => ⟨b, off, rfl, by cases h'; rfl⟩), fun p => find_hit b off c l clk nxt id i x p.W (HR.below p.h) hs hl h⟩
theorem own_drewN {w : World} {base k : Nat} {e : TypeId} {v : Value} {n : Nat} {xs : List Value} (h : w.ownsRow base e k v n xs) (m : Nat) : (w.drewN m).ownsRow base e k v n xs := h
theorem below_drewN' {N : Nat} {w w' : World} (h : Below N w w') (m : Nat) : Below N w (w'.drewN m) := ⟨h.os, h.tape, h.output, h.size, h.block⟩
theorem pair_at (r v : Int) (w : World) : (Instr.index 61 (.agg #[.int .i64 r, .int .i64 v]) (.int .i64 0)).run Try.prog w = .ok (.int .i64 r) w ∧ (Instr.index 61 (.agg #[.int .i64 r, .int .i64 v]) (.int .i64 1)).run Try.prog w = .ok (.int .i64 v) w := by
  constructor <;> kernel_rfl
theorem one_int {r : Int} {u : Value} (hu : u ∈ [Value.int .i64 r]) : u.oneCell' = true := by rw [List.mem_singleton.1 hu]; rfl
theorem cell_one {w : World} {r : Int} {T : TypeId} {j : Nat} {u : Value} (hj : [Value.int .i64 r][j]? = some u) : (w.alloc (.cells #[.int .i64 r] T)).cell? ((⟨w.heap.size, 0, none⟩ : Addr).add j) = some u := by
  cases j with
  | zero =>
    obtain rfl : Value.int .i64 r = u := by simpa using hj
    simp [Addr.add]
  | succ j => simp at hj
/-- Who is to be given up. -/
theorem mrk_rw (x y : Tx) (h : x.id ≠ y.id) : mrk y.out y (rdr x) (mrk x.inn x y (fun _ => false)) x.id = giveR x y ∧ mrk y.out y (rdr x) (mrk x.inn x y (fun _ => false)) y.id = giveW x y := by
  have e1 : (rdr x).id = x.id := by unfold rdr; split <;> rfl
  have e2 : (rdr x).en = x.en := by unfold rdr; split <;> rfl
  have h' : ¬ y.id = x.id := fun e => h e.symm
  unfold mrk giveR giveW
  rw [e1, e2]
  cases x.inn <;> cases y.out <;> by_cases p : x.en = 0 <;> by_cases q : y.en = 0 <;> simp [h, h', p, q]
set_option maxHeartbeats 4000000 in
set_option maxRecDepth 100000 in
theorem edge_any (A : Option Addr) (c : Nat) (s : St) (r v : Int) (w : World) (HR : RowE encT 5 w A s.l) (hn : A = none → c = 0) (hl : s.l.length ≤ 140737488355328) (hwr : (Lit.int .i64 r).wf = true) (hwv : (Lit.int .i64 v).wf = true) :
    Calls Try.prog 10 #[.agg #[.slice A s.l.length c, .int .i64 s.clk, .int .i64 s.nxt], .int .i64 r, .int .i64 v] w fun e w' => ∃ sv u, e = .returned (.tuple #[sv, u, .int .i64 (edgeR s r v).2.2]) ∧ StV w.heap.size w' sv (edgeR s r v).1 ∧ SlB encI 1 w.heap.size w' u (edgeR s r v).2.1 ∧ Below w.heap.size w w' := by
  have HB0 := (Box3.new w (.slice A s.l.length c) (.int .i64 s.clk) (.int .i64 s.nxt) 26).alloc (.cells #[.slice none 0 0, .int .i64 0, .int .i64 0] 26)
  have HB1 := Box3.new (w.alloc (.cells #[.slice A s.l.length c, .int .i64 s.clk, .int .i64 s.nxt] 26)) (.slice none 0 0) (.int .i64 0) (.int .i64 0) 26
  have ba : Below w.heap.size w ((w.alloc (.cells #[.slice A s.l.length c, .int .i64 s.clk, .int .i64 s.nxt] 26)).alloc (.cells #[.slice none 0 0, .int .i64 0, .int .i64 0] 26)) := (by (repeat (first | (with_reducible exact Below.refl _ _) | apply below_alloc _ (Nat.le_refl _) | refine below_set ?_ (by first | exact Nat.le_refl _ | omega) | apply below_drewN | refine below_step ?_ HB)))
  have hc := check_any A c s.l s.clk s.nxt _ (HR.below ba) hl
  have E1 : Hid (s.chk ≠ 0 → edgeR s r v = (St.zero, [], s.chk)) := Lib.hid (fun h => by unfold edgeR; rw [if_pos h])
  have E2 : Hid (s.chk = 0 → (at? r s.l = none ∨ at? v s.l = none) → edgeR s r v = (St.zero, [], 71)) := Lib.hid (fun h h2 => by
    unfold edgeR; rw [if_neg (by simp [h])]
    rcases h2 with h2 | h2
    · rw [h2]
    · rw [h2]; cases at? r s.l <;> rfl)
  have E3 : Hid (s.chk = 0 → ∀ i x j y, at? r s.l = some (i, x) → at? v s.l = some (j, y) → edgeR s r v = if i = j ∨ apart x y = true then (s, [], 0) else (⟨(s.l.set i (rdr x)).set j (wtr y), s.clk, s.nxt⟩, (if giveR x y then [r] else []) ++ (if giveW x y then [v] else []), 0)) := Lib.hid (fun h i x j y h2 h3 => by unfold edgeR; rw [if_neg (by simp [h]), h2, h3])
  have CK := Lib.hid (fun h => (chk_iff s.l s.clk s.nxt).1 h)
  have HR' := Lib.hid HR
  clear HR
  unfold St.chk at E1 E2 E3
  generalize hk : chk s.l s.clk s.nxt = k at *
  clear hk
  obtain ⟨l, clk, nxt⟩ := s
  dsimp only at *
  simp only [World.size_alloc] at HB1
  have eg : ∀ args w, (callFunc 20 args).run Try.prog w = .ok (.enter 20 args) w := enters_of Try.func20 (by kernel_rfl) rfl
  go_enter Try.func10, Try.ntmps10
  go_wp2_with fail
  refine hc.mono ?_; rintro e w1 ⟨rfl, h1⟩
  replace HB0 := HB0.below h1 (by simp <;> omega)
  replace HB1 := HB1.below h1 (by simp <;> omega)
  have HF := ba.trans (h1.mono (by simp <;> omega))
  clear h1 hc ba
  by_cases k0 : k = 0
  · subst k0
    obtain ⟨hlen, hclk0, hclk1, _, _, hfit, hsort⟩ := CK.out rfl
    have HFIT := Lib.hid hfit
    have HS := Lib.hid hsort
    have hcl := clone_any A c l clk nxt w1 (HR'.out.below HF) hn (by omega)
    clear CK E1 hfit hsort HR' hn
    have HB0' := Lib.hid HB0
    have HB1' := Lib.hid HB1
    obtain ⟨c00, c01, c02, f00, f01, f02, l0⟩ := HB0
    obtain ⟨c10, c11, c12, f10, f11, f12, l1⟩ := HB1
    go_wp2_with fail
    refine hcl.mono ?_; rintro e w2 ⟨u0, rfl, hown, h2⟩
    clear c00 c01 c02 f00 f01 f02 c10 c11 c12 f10 f11 f12 hcl
    have HB0 := HB0'.out.below h2 l0
    have HB1 := HB1'.out.below h2 l1
    clear HB0' HB1'
    replace HF := below_step' HF h2
    obtain ⟨Av, cv, rfl, hcv, hnv⟩ := own_slice hown
    have HO := own_base (b' := w.heap.size + 2) hown (by have := l1; omega)
    have HO3 := own_set (own_set (own_set HO ⟨w.heap.size, 0, none⟩ (.slice Av l.length cv) (by simp)) ⟨w.heap.size, 1, none⟩ (.int .i64 clk) (by simp)) ⟨w.heap.size, 2, none⟩ (.int .i64 nxt) (by simp)
    have HB3 := ((HB0.set0 (.slice Av l.length cv)).set1 (.int .i64 clk)).set2 (.int .i64 nxt)
    have HC3 := ((HB1.other ⟨w.heap.size, 0, none⟩ (.slice Av l.length cv) (by simp)).other ⟨w.heap.size, 1, none⟩ (.int .i64 clk) (by simp)).other ⟨w.heap.size, 2, none⟩ (.int .i64 nxt) (by simp)
    have HF3 : Below w.heap.size w _ := Below.setCell (Below.setCell (Below.setCell HF (p := ⟨w.heap.size, 0, none⟩) (by simp) (.slice Av l.length cv)) (p := ⟨w.heap.size, 1, none⟩) (by simp) (.int .i64 clk)) (p := ⟨w.heap.size, 2, none⟩) (by simp) (.int .i64 nxt)
    clear HB1 HO hown h2 l1 HF
    obtain ⟨c00, c01, c02, f00, f01, f02, l0⟩ := HB0
    go_wp2_with fail
    generalize hW : ((w2.setCell ⟨w.heap.size, 0, none⟩ (.slice Av l.length cv)).setCell ⟨w.heap.size, 1, none⟩ (.int .i64 clk)).setCell ⟨w.heap.size, 2, none⟩ (.int .i64 nxt) = w3 at *
    clear c00 c01 c02 f00 f01 f02 hW
    obtain ⟨P1, n1, s1, F1⟩ := find_later Av cv l clk nxt r w3 (by
        obtain ⟨A', c', hv, _, hr, _⟩ := SlE.own HO3
        cases hv; exact hr) HS.out (by omega)
    obtain ⟨P2, n2, s2, F2⟩ := find_later Av cv l clk nxt v w3 (by
        obtain ⟨A', c', hv, _, hr, _⟩ := SlE.own HO3
        cases hv; exact hr) HS.out (by omega)
    have N1 := Lib.hid n1
    have N2 := Lib.hid n2
    have S1 := Lib.hid s1
    have S2 := Lib.hid s2
    have D1 := Lib.hid F1
    have D2 := Lib.hid F2
    have HO3' := Lib.hid HO3
    have HB3' := Lib.hid HB3
    have HC3' := Lib.hid HC3
    have HF3' := Lib.hid HF3
    clear n1 s1 F1 n2 s2 F2 HO3 HC3 HF3
    have q0 := later_cell HB3.lt HB3.c0
    have q1 := later_cell HB3.lt HB3.c1
    have q2 := later_cell HB3.lt HB3.c2
    clear HB3
    refine wp_region_later (by kernel_rfl) (by kernel_rfl) ?_
    iterate 2 (first | go_big_quiet_step (fail) | quiet_step (fail))
    go_big_quiet_step ((go_at_call 18; exact later_of (D1.out _)))
    iterate 2 (first | go_big_quiet_step (fail) | quiet_step (fail))
    go_big_quiet_step ((go_at_call 18; exact later_of (D2.out _)))
    iterate 2 (first | go_big_quiet_step (fail) | quiet_step (fail))
    refine wpQuiet_nil ?_
    intro _ hw'
    obtain ⟨qL, hw''⟩ := hw'
    subst hw''
    obtain ⟨wL, h4⟩ := qL
    clear q0 q1 q2 D1 D2
    dsimp only
    have HO4 := Lib.hid (own_below HO3'.out h4)
    have HB4 := Lib.hid (HB3'.out.below h4 HB3'.out.lt)
    have HC4 := Lib.hid (HC3'.out.below h4 HC3'.out.lt)
    have HF4 := Lib.hid (below_step' HF3'.out h4)
    clear HO3' HB3' HC3' HF3' h4
    by_cases hnone : at? r l = none ∨ at? v l = none
    · have EE : Hid (edgeR ⟨l, clk, nxt⟩ r v = (St.zero, [], 71)) := Lib.hid (E2.out (by trivial) hnone)
      have hP : P1 = none ∨ (∃ a, P1 = some a) ∧ P2 = none := by
        cases P1 with
        | none => exact .inl rfl
        | some a =>
          rcases hnone with h | h
          · exact .inl (N1.out h)
          · exact .inr ⟨⟨a, rfl⟩, N2.out h⟩
      clear E2 E3 N1 N2 S1 S2 hnone
      obtain ⟨c10, c11, c12, f10, f11, f12, l1⟩ := HC4.out
      rcases hP with rfl | ⟨⟨a, rfl⟩, rfl⟩
      · go_wp2
        refine bodyPost_ret (v := .tuple #[.agg #[.slice none 0 0, .int .i64 0, .int .i64 0], .slice none 0 0, .int .i64 71]) (by simp [results, Try.results10, go_sem, c10, c11, c12, l1]) rfl ?_
        rw [EE.out]
        exact ⟨_, _, rfl, StV.zero _, SlB.nil _, Below.setCell (Below.setCell (Below.setCell HF4.out (by simp) _) (by simp) _) (by simp) _⟩
      · go_wp2
        refine bodyPost_ret (v := .tuple #[.agg #[.slice none 0 0, .int .i64 0, .int .i64 0], .slice none 0 0, .int .i64 71]) (by simp [results, Try.results10, go_sem, c10, c11, c12, l1]) rfl ?_
        rw [EE.out]
        exact ⟨_, _, rfl, StV.zero _, SlB.nil _, Below.setCell (Below.setCell (Below.setCell HF4.out (by simp) _) (by simp) _) (by simp) _⟩
    · obtain ⟨⟨i, x⟩, hati⟩ : ∃ q, at? r l = some q := by cases h : at? r l with | none => exact absurd (.inl h) hnone | some q => exact ⟨q, rfl⟩
      obtain ⟨⟨j, y⟩, hatj⟩ : ∃ q, at? v l = some q := by cases h : at? v l with | none => exact absurd (.inr h) hnone | some q => exact ⟨q, rfl⟩
      have EE := Lib.hid (E3.out (by trivial) i x j y hati hatj)
      have hx := at_some hati
      have hy := at_some hatj
      obtain ⟨b1, o1, hA1, rfl⟩ := S1.out i x hati
      obtain ⟨b2, o2, hA2, rfl⟩ := S2.out j y hatj
      obtain ⟨g, c', hv, hc', hg0, hg1⟩ := own_some HO4.out (by have := lt_of_get hx.1; omega)
      obtain ⟨rfl, rfl⟩ : Av = some ⟨g, 0, none⟩ ∧ cv = c' := by simpa using hv
      obtain ⟨rfl, rfl⟩ : g = b1 ∧ 0 = o1 := by simpa using hA1
      obtain ⟨rfl, rfl⟩ : g = b2 ∧ 0 = o2 := by simpa using hA2
      simp only [Nat.zero_add]
      clear E2 E3 N1 N2 S1 S2 hnone hv hA1 hA2 hati hatj
      have hil := lt_of_get hx.1
      have hjl := lt_of_get hy.1
      obtain ⟨cur, hgc⟩ : ∃ cur, wL.heap[g]? = some (.cells cur 40 (0, 0)) := by
        rcases HO4.out.2 with ⟨h, _⟩ | ⟨g', cap', cur, h, _, h2, _⟩
        · cases h
        · obtain ⟨rfl, _⟩ : g = g' ∧ cv = cap' := by simpa using h
          exact ⟨cur, h2⟩
      have hxl := Lib.hid (show ∀ q u, q < 5 → (encT x)[q]? = some u → wL.cell? ⟨g, i * 5 + q, none⟩ = some u from fun q u hq hu => (HO4.out.cellAt _ (by omega)).trans (flat_get encT_len l i x q u hx.1 hu))
      have hyl := Lib.hid (show ∀ q u, q < 5 → (encT y)[q]? = some u → wL.cell? ⟨g, j * 5 + q, none⟩ = some u from fun q u hq hu => (HO4.out.cellAt _ (by omega)).trans (flat_get encT_len l j y q u hy.1 hu))
      have hX := Lib.hid hx
      have hY := Lib.hid hy
      obtain ⟨j1, hj1, hj2⟩ := Option.map_eq_some_iff.1 (show (Try.prog.info? 40).map (·.size) = some 5 by kernel_rfl)
      have x1 := hxl.out 1 _ (by decide) rfl
      have x2 := hxl.out 2 _ (by decide) rfl
      have y1 := hyl.out 1 _ (by decide) rfl
      have y2 := hyl.out 2 _ (by decide) rfl
      obtain ⟨c00, c01, c02, f00, f01, f02, l0⟩ := HB4.out
      obtain ⟨c10, c11, c12, f10, f11, f12, l1⟩ := HC4.out
      by_cases hij : i = j
      · subst hij
        have e1 : Hid (edgeR ⟨l, clk, nxt⟩ r v = (⟨l, clk, nxt⟩, [], 0)) := Lib.hid (by rw [EE.out, if_pos (.inl rfl)])
        have heq : ∀ n, (binOp .eql 55 (.pointer (some ⟨g, i * 5, none⟩)) (.pointer (some ⟨g, i * 5, none⟩))).run Try.prog (wL.drewN n) = .ok (.bool true) (wL.drewN n) := fun n => run_eql_ptr_same _ _ Try.underlying55 hj1
        clear EE hx hy hxl hyl hgc hX hY hj1
        go_wp2_with fail
        go_quiet (fail)
        clear x1 x2 y1 y2
        go_wp2
        refine bodyPost_ret (v := .tuple #[.agg #[.slice (some ⟨g, 0, none⟩) l.length cv, .int .i64 clk, .int .i64 nxt], .slice none 0 0, .int .i64 0]) (by simp [results, Try.results10, go_sem, c10, c11, c12, l1]) rfl ?_
        rw [e1.out]
        refine ⟨_, _, rfl, ⟨_, rfl, SlB.own (base := w.heap.size + 2) (n := l.length) (by omega) ?_⟩, SlB.nil _, ?_⟩
        · repeat first | (with_reducible exact HO4.out) | (with_reducible refine own_set ?_ _ _ (by simp)) | (with_reducible refine own_drewN ?_ _)
        · repeat first | (with_reducible exact HF4.out) | (with_reducible refine Below.setCell ?_ (by simp) _) | (with_reducible refine below_drewN' ?_ _)
      · have heq : ∀ n, (binOp .eql 55 (.pointer (some ⟨g, i * 5, none⟩)) (.pointer (some ⟨g, j * 5, none⟩))).run Try.prog (wL.drewN n) = .ok (.bool false) (wL.drewN n) := fun n => run_eql_ptr_other _ Try.underlying55 hj1 (by rw [hj2]; decide) (by intro h; injection h; omega) hgc hgc
        have A1 := fun n => ahead_any g (i * 5) g (j * 5) x y (wL.drewN n) x2 y1
        have A2 := fun n => ahead_any g (j * 5) g (i * 5) y x (wL.drewN n) y2 x1
        cases hap : apart x y with
        | true =>
          have e1 : Hid (edgeR ⟨l, clk, nxt⟩ r v = (⟨l, clk, nxt⟩, [], 0)) := Lib.hid (by rw [EE.out, if_pos (.inr hap)])
          clear EE hx hy hxl hyl hgc hX hY hj1
          unfold apart at hap
          generalize ahead x y = a1 at *
          generalize ahead y x = a2 at *
          by_cases hm : min x.en y.en < 0
          · clear A1 A2 hap
            go_wp2_with fail
            go_quiet (fail)
            clear x1 x2 y1 y2
            go_wp2
            refine bodyPost_ret (v := .tuple #[.agg #[.slice (some ⟨g, 0, none⟩) l.length cv, .int .i64 clk, .int .i64 nxt], .slice none 0 0, .int .i64 0]) (by simp [results, Try.results10, go_sem, c10, c11, c12, l1]) rfl ?_
            rw [e1.out]
            refine ⟨_, _, rfl, ⟨_, rfl, SlB.own (base := w.heap.size + 2) (n := l.length) (by omega) ?_⟩, SlB.nil _, ?_⟩
            · repeat first | (with_reducible exact HO4.out) | (with_reducible refine own_set ?_ _ _ (by simp)) | (with_reducible refine own_drewN ?_ _)
            · repeat first | (with_reducible exact HF4.out) | (with_reducible refine Below.setCell ?_ (by simp) _) | (with_reducible refine below_drewN' ?_ _)
          · have hm' : decide (min x.en y.en < 0) = false := decide_eq_false hm
            rw [hm'] at hap
            clear hm
            cases a1 with
            | true =>
              clear A2 hap
              go_wp2_with fail
              go_quiet ((go_at_call 19; exact Calls.quiet_of (A1 _)))
              clear x1 x2 y1 y2
              go_wp2
              refine bodyPost_ret (v := .tuple #[.agg #[.slice (some ⟨g, 0, none⟩) l.length cv, .int .i64 clk, .int .i64 nxt], .slice none 0 0, .int .i64 0]) (by simp [results, Try.results10, go_sem, c10, c11, c12, l1]) rfl ?_
              rw [e1.out]
              refine ⟨_, _, rfl, ⟨_, rfl, SlB.own (base := w.heap.size + 2) (n := l.length) (by omega) ?_⟩, SlB.nil _, ?_⟩
              · repeat first | (with_reducible exact HO4.out) | (with_reducible refine own_set ?_ _ _ (by simp)) | (with_reducible refine own_drewN ?_ _)
              · repeat first | (with_reducible exact HF4.out) | (with_reducible refine Below.setCell ?_ (by simp) _) | (with_reducible refine below_drewN' ?_ _)
            | false =>
              obtain rfl : a2 = true := by simpa using hap
              clear hap
              go_wp2_with fail
              go_quiet ((go_at_call 19; first | (with_reducible exact Calls.quiet_of (A1 _)) | (with_reducible exact Calls.quiet_of (A2 _))))
              clear x1 x2 y1 y2
              go_wp2
              refine bodyPost_ret (v := .tuple #[.agg #[.slice (some ⟨g, 0, none⟩) l.length cv, .int .i64 clk, .int .i64 nxt], .slice none 0 0, .int .i64 0]) (by simp [results, Try.results10, go_sem, c10, c11, c12, l1]) rfl ?_
              rw [e1.out]
              refine ⟨_, _, rfl, ⟨_, rfl, SlB.own (base := w.heap.size + 2) (n := l.length) (by omega) ?_⟩, SlB.nil _, ?_⟩
              · repeat first | (with_reducible exact HO4.out) | (with_reducible refine own_set ?_ _ _ (by simp)) | (with_reducible refine own_drewN ?_ _)
              · repeat first | (with_reducible exact HF4.out) | (with_reducible refine Below.setCell ?_ (by simp) _) | (with_reducible refine below_drewN' ?_ _)
        | false =>
          have EE2 : Hid (edgeR ⟨l, clk, nxt⟩ r v = (⟨(l.set i (rdr x)).set j (wtr y), clk, nxt⟩, (if giveR x y then [r] else []) ++ (if giveW x y then [v] else []), 0)) := Lib.hid (by rw [EE.out, if_neg (by simp [hap, hij])])
          clear EE hxl hyl hgc hj1 hx hy
          unfold apart at hap
          generalize ha1 : ahead x y = a1 at *
          generalize ha2 : ahead y x = a2 at *
          clear ha1 ha2
          simp only [Bool.or_eq_false_iff] at hap
          obtain ⟨⟨hm', rfl⟩, rfl⟩ := hap
          go_wp2_with fail
          go_quiet ((go_at_call 19; first | (with_reducible exact Calls.quiet_of (A1 _)) | (with_reducible exact Calls.quiet_of (A2 _))))
          clear x1 x2 y1 y2 A1 A2 heq hm'
          have hmm := @run_makeMap Try.prog
          have hm4 := mark4_any g cv (wL.heap.size + 1) wL.heap.size 0 i j (w.heap.size + 2) l x y (fun _ => false) (((wL.drewN nq).alloc (.map #[] 0)).alloc (.cells #[.map (some wL.heap.size)] 58)) (((own_drewN HO4.out nq).alloc _).alloc _) hX.out.1 hY.out.1 hij (by go_simp) ((BMap.made (wL.drewN nq)).alloc _) (by omega) (by omega) (by omega) (by omega) (by rw [hX.out.2]; exact hwr) (by rw [hY.out.2]; exact hwv)
          go_wp2_with fail
          refine hm4.mono ?_; rintro e w5 ⟨rfl, hk5, hown5, n5, hn5, HM5⟩
          clear hm4 hmm
          have k5 : ∀ k, k < wL.heap.size → k ≠ g → w5.heap[k]? = wL.heap[k]? := fun k hk hkg => (hk5.block k (by simp; omega) (by rintro (h | h) <;> omega)).trans ((heap_alloc_old _ _ (by simp; omega)).trans (heap_alloc_old _ _ (by simpa using hk)))
          have z5 : wL.heap.size + 2 ≤ w5.heap.size := by have := hk5.size; simpa using this
          have e5 : w5.cell? ⟨wL.heap.size + 1, 0, none⟩ = some (.map (some wL.heap.size)) := (hk5.cell (p := ⟨wL.heap.size + 1, 0, none⟩) (by simp) (by simp; omega)).trans (by go_simp)
          have g5 : Below w.heap.size w w5 := (((below_drewN' HF4.out nq).alloc (by simp; omega) (.map #[] 0)).alloc (by simp; omega) (.cells #[.map (some wL.heap.size)] 58)).trans (hk5.to_below (by simp; omega) (by rintro k (h | h) <;> omega))
          generalize hf1 : mrk x.inn x y (fun _ => false) = f1 at *
          have HK5 := Lib.hid k5
          have HO5 := Lib.hid hown5
          have HF5 := Lib.hid g5
          clear hk5 k5 hown5 g5
          have hm3 := mark3_any g cv (wL.heap.size + 1) wL.heap.size n5 j i (w.heap.size + 2) (l.set i (rdr x)) y (rdr x) f1 w5 (by rw [List.length_set]; exact HO5.out) (by rw [List.getElem?_set_ne hij]; exact hY.out.1) (by rw [List.getElem?_set_self hil]) (fun h => hij h.symm) e5 HM5 (by omega) (by omega) (by omega) (by omega) (by rw [hY.out.2]; exact hwv) (by
            have : (rdr x).id = x.id := by unfold rdr; split <;> rfl
            rw [this, hX.out.2]; exact hwr)
          have q5 : g < w5.heap.size := by omega
          clear HM5
          go_wp2_with fail
          refine hm3.mono ?_; rintro e w6 ⟨rfl, hk6, hown6, n6, hn6, HM6⟩
          clear hm3 q5
          rw [List.length_set] at hown6
          have k6 : ∀ k, k < wL.heap.size → k ≠ g → w6.heap[k]? = wL.heap[k]? := fun k hk hkg => (hk6.block k (by omega) (by rintro (h | h) <;> omega)).trans (HK5.out k hk hkg)
          have z6 : wL.heap.size + 2 ≤ w6.heap.size := by have := hk6.size; omega
          have e6 : w6.cell? ⟨wL.heap.size + 1, 0, none⟩ = some (.map (some wL.heap.size)) := (hk6.cell (p := ⟨wL.heap.size + 1, 0, none⟩) (by show wL.heap.size + 1 < w5.heap.size; omega) (by simp; omega)).trans e5
          have g6 : Below w.heap.size w w6 := HF5.out.trans (hk6.to_below (by omega) (by rintro k (h | h) <;> omega))
          have B6 : Box3 w6 w.heap.size (.slice (some ⟨g, 0, none⟩) l.length cv) (.int .i64 clk) (.int .i64 nxt) := by
            have e := k6 w.heap.size l0 (by omega)
            have c := fun p => World.cell?_of_block (w := wL) (w' := w6) (a := ⟨w.heap.size, p, none⟩) e
            have f := fun p => World.frozen?_of_block (w := wL) (w' := w6) (a := ⟨w.heap.size, p, none⟩) e
            exact ⟨(c 0).trans c00, (c 1).trans c01, (c 2).trans c02, (f 0).trans f00, (f 1).trans f01, (f 2).trans f02, by omega⟩
          have C6 : Box3 w6 (w.heap.size + 1) (.slice none 0 0) (.int .i64 0) (.int .i64 0) := by
            have e := k6 (w.heap.size + 1) l1 (by omega)
            have c := fun p => World.cell?_of_block (w := wL) (w' := w6) (a := ⟨w.heap.size + 1, p, none⟩) e
            have f := fun p => World.frozen?_of_block (w := wL) (w' := w6) (a := ⟨w.heap.size + 1, p, none⟩) e
            exact ⟨(c 0).trans c10, (c 1).trans c11, (c 2).trans c12, (f 0).trans f10, (f 1).trans f11, (f 2).trans f12, by omega⟩
          have HO6 := Lib.hid hown6
          have HF6 := Lib.hid g6
          have HB6 := Lib.hid B6
          have HC6 := Lib.hid C6
          clear hk6 k6 hown6 g6 B6 C6 HK5 HO5 HF5 e5 c00 c01 c02 f00 f01 f02 c10 c11 c12 f10 f11 f12 HO4 HB4 HC4 HF4
          obtain ⟨i0, hi, hz0, hz1, hz2⟩ := infoI
          have WR := mrk_rw x y (fun e => hij (same_place HS.out hX.out.1 hY.out.1 e).1)
          rw [hf1, hX.out.2, hY.out.2] at WR
          generalize hf2 : mrk y.out y (rdr x) f1 = f2 at *
          have W1 := Lib.hid WR.1
          have W2 := Lib.hid WR.2
          clear WR hf1 hf2
          have LLd : ∃ LL : Nat → List Int, LL 0 = [] ∧ LL 1 = (if f2 r then [r] else []) ∧ LL 2 = (if f2 r then [r] else []) ++ (if f2 v then [v] else []) := ⟨fun k => if k = 0 then [] else if k = 1 then (if f2 r then [r] else []) else (if f2 r then [r] else []) ++ (if f2 v then [v] else []), rfl, rfl, rfl⟩
          obtain ⟨LL, L0, L1, L2⟩ := LLd
          have LP0_t : f2 r = true → LL 1 = LL 0 ++ [r] := fun h => by rw [L1, L0, h]; rfl
          have LP0_f : f2 r = false → LL 1 = LL 0 := fun h => by rw [L1, L0, h]; rfl
          have LP1_t : f2 v = true → LL 2 = LL 1 ++ [v] := fun h => by rw [L2, L1, h]; rfl
          have LP1_f : f2 v = false → LL 2 = LL 1 := fun h => by rw [L2, L1, h]; simp
          have LZ : (LL 0).length = 0 := by rw [L0]; rfl
          have LZ1 : (LL 1).length ≤ 1 := by rw [L1]; split <;> simp
          have LE : Hid (LL 2 = (if giveR x y then [r] else []) ++ (if giveW x y then [v] else [])) := Lib.hid (by rw [L2, W1.out, W2.out])
          have HL0 := Lib.hid L0
          have H0t := Lib.hid LP0_t
          have H0f := Lib.hid LP0_f
          have H1t := Lib.hid LP1_t
          have H1f := Lib.hid LP1_f
          clear L0 L1 L2 W1 W2 LP0_t LP0_f LP1_t LP1_f
          go_wp2_with fail
          go_loopw [14, 83] (fun s14 s83 wr => ∃ k : Nat, ((k = 0 ∧ s83 = .int .i64 0) ∨ (k = 1 ∧ s83 = .int .i64 1) ∨ (k = 2 ∧ s83 = .int .i64 2)) ∧ Hid (wr.ownsRow w6.heap.size 3 1 s14 (LL k).length ((LL k).map (Value.int .i64))) ∧ Below w6.heap.size w6 wr) (fun _ s83 _ => 2 - (Lib.intOf s83).toNat)
          case atStart => exact ⟨0, .inl ⟨rfl, rfl⟩, Lib.hid (by rw [HL0.out]; exact World.ownsRow_nil _ _ _ _), Below.refl _ _⟩
          case round =>
            obtain ⟨k, hk', HOr, hbel⟩ := hrel
            have u0 : wr.cell? ⟨wL.heap.size + 1, 0, none⟩ = some (.map (some wL.heap.size)) := (hbel.cell (p := ⟨wL.heap.size + 1, 0, none⟩) (by show wL.heap.size + 1 < w6.heap.size; omega)).trans e6
            have HMr : BMap wr wL.heap.size n6 f2 := HM6.below hbel (by omega)
            rcases hk' with ⟨rfl, rfl⟩ | ⟨rfl, rfl⟩ | ⟨rfl, rfl⟩
            · have hix := (pair_at r v wr).1
              have hlk := HMr.lookup r hwr
              clear HMr
              cases hb : f2 r with
              | true =>
                rw [hb] at hlk
                have PK := Lib.hid (H0t.out hb)
                have hown0 := HOr.out
                go_wp2_with (at_builtin; refine wpList_append_own _ rfl _ _ 30 rfl w6.heap.size 3 i0 (.int .i64 0) 1 8 Try.underlying30 hi hz0 hz1 hz2 rfl (by decide) _ _ _ rfl (hown0.alloc _) ⟨wr.heap.size, 0, none⟩ 1 1 [.int .i64 r] rfl rfl ?c1 ?c2 ?c3 ?c4 ?c5 ?_)
                all_goals first | (intro j u hj; exact cell_one hj) | (intro u hu; exact one_int hu) | (unfold maxLen; omega) | omega | (have := hbel.size; simp; omega) | skip
                intro v' w8 hown' hgrow hnil
                have hB8 : Below w6.heap.size w6 w8 := (hbel.alloc hbel.size _).grown hgrow (by have := hbel.size; simp; omega) (fun k hk => (hown0.lt k hk).1)
                have HO8 : Hid (w8.ownsRow w6.heap.size 3 1 v' (LL 1).length ((LL 1).map (Value.int .i64))) := Lib.hid (by rw [PK.out]; simpa [LZ] using hown')
                clear hown0 hown' hgrow hnil hlk u0
                go_wp2
                go_roundw
                case rel => exact ⟨1, .inr (.inl ⟨rfl, rfl⟩), HO8, hB8⟩
                case measure => simp [Lib.intOf]
              | false =>
                rw [hb] at hlk
                have PK := Lib.hid (H0f.out hb)
                go_wp2
                go_roundw
                case rel => exact ⟨1, .inr (.inl ⟨rfl, rfl⟩), Lib.hid (by rw [PK.out]; exact HOr.out), hbel⟩
                case measure => simp [Lib.intOf]
            · have hix := (pair_at r v wr).2
              have hlk := HMr.lookup v hwv
              clear HMr
              cases hb : f2 v with
              | true =>
                rw [hb] at hlk
                have PK := Lib.hid (H1t.out hb)
                have hown0 := HOr.out
                go_wp2_with (at_builtin; refine wpList_append_own _ rfl _ _ 30 rfl w6.heap.size 3 i0 (.int .i64 0) 1 8 Try.underlying30 hi hz0 hz1 hz2 rfl (by decide) _ _ _ rfl (hown0.alloc _) ⟨wr.heap.size, 0, none⟩ 1 1 [.int .i64 v] rfl rfl ?d1 ?d2 ?d3 ?d4 ?d5 ?_)
                all_goals first | (intro j u hj; exact cell_one hj) | (intro u hu; exact one_int hu) | (unfold maxLen; omega) | omega | (have := hbel.size; simp; omega) | skip
                intro v' w8 hown' hgrow hnil
                have hB8 : Below w6.heap.size w6 w8 := (hbel.alloc hbel.size _).grown hgrow (by have := hbel.size; simp; omega) (fun k hk => (hown0.lt k hk).1)
                have HO8 : Hid (w8.ownsRow w6.heap.size 3 1 v' (LL 2).length ((LL 2).map (Value.int .i64))) := Lib.hid (by rw [PK.out]; simpa [LZ] using hown')
                clear hown0 hown' hgrow hnil hlk u0
                go_wp2
                go_roundw
                case rel => exact ⟨2, .inr (.inr ⟨rfl, rfl⟩), HO8, hB8⟩
                case measure => simp [Lib.intOf]
              | false =>
                rw [hb] at hlk
                have PK := Lib.hid (H1f.out hb)
                go_wp2
                go_roundw
                case rel => exact ⟨2, .inr (.inr ⟨rfl, rfl⟩), Lib.hid (by rw [PK.out]; exact HOr.out), hbel⟩
                case measure => simp [Lib.intOf]
            · clear HMr u0
              obtain ⟨c00, c01, c02, f00, f01, f02, l0'⟩ := HB6.out.below hbel HB6.out.lt
              obtain ⟨c10, c11, c12, f10, f11, f12, l1'⟩ := HC6.out.below hbel HC6.out.lt
              obtain ⟨Ao, co, rfl, hco, hno⟩ := own_slice HOr.out
              have HO9 := Lib.hid (own_below HO6.out hbel)
              have HF9 := HF6.out.trans (hbel.mono (by have := HB6.out.lt; omega))
              clear HB6 HC6 HO6 HF6 H0t H0f H1t H1f HL0 hno
              go_wp2
              refine bodyPost_ret (v := .tuple #[.agg #[.slice (some ⟨g, 0, none⟩) l.length cv, .int .i64 clk, .int .i64 nxt], .slice Ao (LL 2).length co, .int .i64 0]) (by simp [results, Try.results10, go_sem, c10, c11, c12, l1']) rfl ?_
              rw [EE2.out, ← LE.out]
              refine ⟨_, _, rfl, ⟨.slice (some ⟨g, 0, none⟩) l.length cv, rfl, SlB.own (base := w.heap.size + 2) (n := l.length) (by omega) ?_⟩, SlB.ints (base := w6.heap.size) (n := (LL 2).length) (by omega) ?_, ?_⟩
              · repeat first | (with_reducible exact HO9.out) | (with_reducible refine own_set ?_ _ _ (by simp)) | (with_reducible refine own_drewN ?_ _)
              · repeat first | (with_reducible exact HOr.out) | (with_reducible refine own_set ?_ _ _ (by simp; omega)) | (with_reducible refine own_drewN ?_ _)
              · repeat first | (with_reducible exact HF9) | (with_reducible refine Below.setCell ?_ (by simp) _) | (with_reducible refine below_drewN' ?_ _)
  · have EE : Hid (edgeR ⟨l, clk, nxt⟩ r v = (St.zero, [], k)) := Lib.hid (E1.out k0)
    clear E1 E2 E3 CK
    obtain ⟨c00, c01, c02, f00, f01, f02, l0⟩ := HB0
    obtain ⟨c10, c11, c12, f10, f11, f12, l1⟩ := HB1
    go_wp2
    refine bodyPost_ret (v := .tuple #[.agg #[.slice none 0 0, .int .i64 0, .int .i64 0], .slice none 0 0, .int .i64 k]) (by simp [results, Try.results10, go_sem, c10, c11, c12, l1]) rfl ?_
    rw [EE.out]
    exact ⟨_, _, rfl, StV.zero _, SlB.nil _, Below.setCell (Below.setCell (Below.setCell HF (by simp) _) (by simp) _) (by simp) _⟩
end Go.Proofs.Ytdajginkipaghaa
