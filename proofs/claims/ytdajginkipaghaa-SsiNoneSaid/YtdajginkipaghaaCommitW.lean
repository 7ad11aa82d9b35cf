/- Package ssi: Commit. (Printed by gen17.py.) -/
import Derived.Test.YtdajginkipaghaaSsiW3
namespace Go.Proofs.Ytdajginkipaghaa
open Go.RowKit
open Go.Shelf
set_option linter.unusedVariables false
set_option linter.unusedSimpArgs false
set_option maxHeartbeats 4000000 in
set_option maxRecDepth 100000 in
theorem commit_any (A : Option Addr) (c : Nat) (s : St) (id : Int) (w : World) (HR : RowE encT 5 w A s.l) (hn : A = none → c = 0) (hl : s.l.length ≤ 140737488355328) :
    Calls Try.prog 11 #[.agg #[.slice A s.l.length c, .int .i64 s.clk, .int .i64 s.nxt], .int .i64 id] w fun e w' => ∃ v, e = .returned (.tuple #[v, .int .i64 (commitR s id).2.1, .int .i64 (commitR s id).2.2]) ∧ StV w.heap.size w' v (commitR s id).1 ∧ Below w.heap.size w w' := by
  have HB0 := (Box3.new w (.slice A s.l.length c) (.int .i64 s.clk) (.int .i64 s.nxt) 26).alloc (.cells #[.slice none 0 0, .int .i64 0, .int .i64 0] 26)
  have HB1 := Box3.new (w.alloc (.cells #[.slice A s.l.length c, .int .i64 s.clk, .int .i64 s.nxt] 26)) (.slice none 0 0) (.int .i64 0) (.int .i64 0) 26
  have ba : Below w.heap.size w ((w.alloc (.cells #[.slice A s.l.length c, .int .i64 s.clk, .int .i64 s.nxt] 26)).alloc (.cells #[.slice none 0 0, .int .i64 0, .int .i64 0] 26)) := (by (repeat (first | (with_reducible exact Below.refl _ _) | apply below_alloc _ (Nat.le_refl _) | refine below_set ?_ (by first | exact Nat.le_refl _ | omega) | apply below_drewN | refine below_step ?_ HB)))
  have hc := check_any A c s.l s.clk s.nxt _ (HR.below ba) hl
  have E1 : Hid (s.chk ≠ 0 → commitR s id = (St.zero, 0, s.chk)) := Lib.hid (fun h => by unfold commitR; rw [if_pos h])
  have E2 : Hid (s.chk = 0 → at? id s.l = none → commitR s id = (St.zero, 0, 71)) := Lib.hid (fun h h2 => by unfold commitR; rw [if_neg (by simp [h]), h2])
  have E3 : Hid (s.chk = 0 → ∀ i x, at? id s.l = some (i, x) → commitR s id = if x.en ≠ 0 then (St.zero, 0, 9) else if x.inn = true ∧ x.out = true then (St.zero, 0, 96) else if s.clk = 1099511627776 then (St.zero, 0, 51) else (⟨s.l.set i (x.ends (s.clk + 1)), s.clk + 1, s.nxt⟩, s.clk + 1, 0)) := Lib.hid (fun h i x h2 => by unfold commitR; rw [if_neg (by simp [h]), h2])
  have CK := Lib.hid (fun h => (chk_iff s.l s.clk s.nxt).1 h)
  have HR' := Lib.hid HR
  clear HR
  unfold St.chk at E1 E2 E3
  generalize hk : chk s.l s.clk s.nxt = k at *
  clear hk
  obtain ⟨l, clk, nxt⟩ := s
  dsimp only at *
  simp only [World.size_alloc] at HB1
  go_enter Try.func11, Try.ntmps11
  go_wp2_with fail
  refine hc.mono ?_; rintro e w1 ⟨rfl, h1⟩
  replace HB0 := HB0.below h1 (by simp <;> omega)
  replace HB1 := HB1.below h1 (by simp <;> omega)
  have HF := ba.trans (h1.mono (by simp <;> omega))
  clear h1 hc ba
  by_cases k0 : k = 0
  · subst k0
    obtain ⟨hlen, hclk0, hclk1, _, _, hfit, hsort⟩ := CK.out rfl
    have HFIT := Lib.hid hfit
    have HS := Lib.hid hsort
    have hcl := clone_any A c l clk nxt w1 (HR'.out.below HF) hn (by omega)
    clear CK E1 hfit hsort HR' hn
    have HB0' := Lib.hid HB0
    have HB1' := Lib.hid HB1
    obtain ⟨c00, c01, c02, f00, f01, f02, l0⟩ := HB0
    obtain ⟨c10, c11, c12, f10, f11, f12, l1⟩ := HB1
    go_wp2_with fail
    refine hcl.mono ?_; rintro e w2 ⟨v, rfl, hown, h2⟩
    clear c00 c01 c02 f00 f01 f02 c10 c11 c12 f10 f11 f12 hcl
    have HB0 := HB0'.out.below h2 l0
    have HB1 := HB1'.out.below h2 l1
    clear HB0' HB1'
    replace HF := below_step' HF h2
    obtain ⟨Av, cv, rfl, hcv, hnv⟩ := own_slice hown
    have HO := own_base (b' := w.heap.size + 2) hown (by have := l1; omega)
    have HO3 := own_set (own_set (own_set HO ⟨w.heap.size, 0, none⟩ (.slice Av l.length cv) (by simp)) ⟨w.heap.size, 1, none⟩ (.int .i64 clk) (by simp)) ⟨w.heap.size, 2, none⟩ (.int .i64 nxt) (by simp)
    have HB3 := ((HB0.set0 (.slice Av l.length cv)).set1 (.int .i64 clk)).set2 (.int .i64 nxt)
    have HC3 := ((HB1.other ⟨w.heap.size, 0, none⟩ (.slice Av l.length cv) (by simp)).other ⟨w.heap.size, 1, none⟩ (.int .i64 clk) (by simp)).other ⟨w.heap.size, 2, none⟩ (.int .i64 nxt) (by simp)
    have HF3 : Below w.heap.size w _ := Below.setCell (Below.setCell (Below.setCell HF (p := ⟨w.heap.size, 0, none⟩) (by simp) (.slice Av l.length cv)) (p := ⟨w.heap.size, 1, none⟩) (by simp) (.int .i64 clk)) (p := ⟨w.heap.size, 2, none⟩) (by simp) (.int .i64 nxt)
    clear HB1 HO hown h2 l1 HF
    obtain ⟨c00, c01, c02, f00, f01, f02, l0⟩ := HB0
    have HO3' := Lib.hid HO3
    have HB3' := Lib.hid HB3
    have HC3' := Lib.hid HC3
    have HF3' := Lib.hid HF3
    clear HO3 HB3 HC3 HF3
    go_wp2_with fail
    cases hat : at? id l with
    | none =>
      have EE : Hid (commitR ⟨l, clk, nxt⟩ id = (St.zero, 0, 71)) := Lib.hid (E2.out (by trivial) hat)
      clear E2 E3
      refine (find_miss Av cv l clk nxt id _ (by
        obtain ⟨A', c', hv, _, hr, _⟩ := SlE.own HO3'.out
        cases hv; exact hr) HS.out (by omega) hat).mono ?_; rintro e w4 ⟨rfl, h4⟩
      clear c00 c01 c02 f00 f01 f02 hat
      obtain ⟨c00, c01, c02, f00, f01, f02, _⟩ := HB3'.out.below h4 (by simpa using l0)
      obtain ⟨c10, c11, c12, f10, f11, f12, l1⟩ := HC3'.out.below h4 HC3'.out.lt
      have HF := below_step' HF3'.out h4
      clear HO3' HB3' HC3' HF3' h4
      go_wp2
      refine bodyPost_ret (v := .tuple #[.agg #[.slice none 0 0, .int .i64 0, .int .i64 0], .int .i64 0, .int .i64 71]) (by simp [results, Try.results11, go_sem, c10, c11, c12, l1]) rfl ?_
      rw [EE.out]
      exact ⟨_, rfl, StV.zero _, Below.setCell (Below.setCell (Below.setCell HF (by simp) _) (by simp) _) (by simp) _⟩
    | some p =>
      obtain ⟨i, x⟩ := p
      have HAT := at_some hat
      have hil : i < l.length := lt_of_get HAT.1
      have EE0 : Hid (commitR ⟨l, clk, nxt⟩ id = if x.en ≠ 0 then (St.zero, 0, 9) else if x.inn = true ∧ x.out = true then (St.zero, 0, 96) else if clk = 1099511627776 then (St.zero, 0, 51) else (⟨l.set i (x.ends (clk + 1)), clk + 1, nxt⟩, clk + 1, 0)) := Lib.hid (E3.out (by trivial) i x hat)
      clear E2 E3
      obtain ⟨g, c', hv, hc', hg0, hg1⟩ := own_some HO3'.out (by omega)
      obtain ⟨rfl, rfl⟩ : Av = some ⟨g, 0, none⟩ ∧ cv = c' := by simpa using hv
      clear hv
      have hf := find_hit g 0 cv l clk nxt id i x _ (RowE.owned encT_len HO3'.out) HS.out (by omega) hat
      simp only [Nat.zero_add] at hf
      refine hf.mono ?_; rintro e w4 ⟨rfl, h4⟩
      clear c00 c01 c02 f00 f01 f02 hf hat
      have HO4 := own_below HO3'.out h4
      have HB4 := HB3'.out.below h4 (by simpa using l0)
      have HC4 := HC3'.out.below h4 HC3'.out.lt
      have HF := below_step' HF3'.out h4
      have hg2 : g < w4.heap.size := (HO4.lt g rfl).2
      clear HO3' HB3' HC3' HF3' h4
      have e2 : w4.cell? ⟨g, i * 5 + 2, none⟩ = some (.int .i64 x.en) := (HO4.cellAt _ (by omega)).trans (flat_get encT_len l i x 2 _ HAT.1 rfl)
      have e3 : w4.cell? ⟨g, i * 5 + 3, none⟩ = some (.bool x.inn) := (HO4.cellAt _ (by omega)).trans (flat_get encT_len l i x 3 _ HAT.1 rfl)
      have e4 : w4.cell? ⟨g, i * 5 + 4, none⟩ = some (.bool x.out) := (HO4.cellAt _ (by omega)).trans (flat_get encT_len l i x 4 _ HAT.1 rfl)
      have ff := HO4.frozenAt (i * 5 + 2)
      have HO4' := Lib.hid HO4
      have FS := Lib.hid (fun y u h => flat_set encT_len l i x y 2 u HAT.1 (by decide) h)
      have HB4' := Lib.hid HB4
      have HC4' := Lib.hid HC4
      obtain ⟨c00, c01, c02, f00, f01, f02, l0⟩ := HB4
      obtain ⟨c10, c11, c12, f10, f11, f12, l1⟩ := HC4
      obtain ⟨xid, xst, xen, xin, xout⟩ := x
      dsimp only at e2 e3 e4 EE0
      clear HO4 HAT
      have hgn : g ≠ w.heap.size := by omega
      have hgn1 : g ≠ w.heap.size + 1 := by omega
      by_cases q0 : xen = 0
      · subst q0
        have hp : (clk == 1099511627776) = false ∨ clk = 1099511627776 := by by_cases h : clk = 1099511627776 <;> simp [h]
        cases xin with
        | true =>
          cases xout with
          | true =>
            have EE : Hid (commitR ⟨l, clk, nxt⟩ id = (St.zero, 0, 96)) := Lib.hid (by rw [EE0.out]; simp)
            clear EE0 hp
            go_wp2
            refine bodyPost_ret (v := .tuple #[.agg #[.slice none 0 0, .int .i64 0, .int .i64 0], .int .i64 0, .int .i64 96]) (by simp [results, Try.results11, go_sem, c10, c11, c12, l1]) rfl ?_
            rw [EE.out]
            exact ⟨_, rfl, StV.zero _, Below.setCell (Below.setCell (Below.setCell HF (by simp) _) (by simp) _) (by simp) _⟩
          | false =>
            rcases hp with hp | rfl
            · have EE : Hid (commitR ⟨l, clk, nxt⟩ id = (⟨l.set i (Tx.ends ⟨xid, xst, 0, true, false⟩ (clk + 1)), clk + 1, nxt⟩, clk + 1, 0)) := Lib.hid (by
                have : ¬ clk = 1099511627776 := by simpa using hp
                rw [EE0.out]; simp [this])
              clear EE0
              have HO5 := Lib.hid ((own_set HO4'.out ⟨w.heap.size, 1, none⟩ (.int .i64 (clk + 1)) (by simp)).stored (i * 5 + 2) (.int .i64 (clk + 1))).1
              have FS5 : Hid ((l.flatMap encT).set (i * 5 + 2) (.int .i64 (clk + 1)) = (l.set i (Tx.ends ⟨xid, xst, 0, true, false⟩ (clk + 1))).flatMap encT) := Lib.hid (FS.out _ _ rfl)
              have hwr : IntKind.i64.wrap (clk + 1) = clk + 1 := IntWalk.i64_in _ ⟨by omega, by omega⟩
              go_wp2_with fail
              go_region_with (fail)
              all_goals go_wp2
              all_goals
                refine bodyPost_ret (v := .tuple #[.agg #[.slice (some ⟨g, 0, none⟩) l.length cv, .int .i64 (clk + 1), .int .i64 nxt], .int .i64 (clk + 1), .int .i64 0]) (by simp [results, Try.results11, go_sem, c10, c11, c12, l1, hwr]) rfl ?_
                rw [EE.out]
                refine ⟨_, rfl, ⟨.slice (some ⟨g, 0, none⟩) l.length cv, rfl, SlB.own (base := w.heap.size + 2) (n := l.length) (by omega) ?_⟩, ?_⟩
                · dsimp only
                  rw [← FS5.out]
                  repeat first | (with_reducible exact HO5.out) | (with_reducible refine own_set ?_ _ _ (by simp)) | (with_reducible refine World.ownsRow.drew ?_)
                · repeat first | (with_reducible exact HF) | (with_reducible refine Below.setCell ?_ (by first | (simp; done) | (simp; omega)) _) | (with_reducible refine Below.drew ?_)
            · have EE : Hid (commitR ⟨l, 1099511627776, nxt⟩ id = (St.zero, 0, 51)) := Lib.hid (by rw [EE0.out]; simp)
              clear EE0
              go_wp2
              refine bodyPost_ret (v := .tuple #[.agg #[.slice none 0 0, .int .i64 0, .int .i64 0], .int .i64 0, .int .i64 51]) (by simp [results, Try.results11, go_sem, c10, c11, c12, l1]) rfl ?_
              rw [EE.out]
              exact ⟨_, rfl, StV.zero _, Below.setCell (Below.setCell (Below.setCell HF (by simp) _) (by simp) _) (by simp) _⟩
        | false =>
          rcases hp with hp | rfl
          · have EE : Hid (commitR ⟨l, clk, nxt⟩ id = (⟨l.set i (Tx.ends ⟨xid, xst, 0, false, xout⟩ (clk + 1)), clk + 1, nxt⟩, clk + 1, 0)) := Lib.hid (by
              have : ¬ clk = 1099511627776 := by simpa using hp
              rw [EE0.out]; simp [this])
            clear EE0
            have HO5 := Lib.hid ((own_set HO4'.out ⟨w.heap.size, 1, none⟩ (.int .i64 (clk + 1)) (by simp)).stored (i * 5 + 2) (.int .i64 (clk + 1))).1
            have FS5 : Hid ((l.flatMap encT).set (i * 5 + 2) (.int .i64 (clk + 1)) = (l.set i (Tx.ends ⟨xid, xst, 0, false, xout⟩ (clk + 1))).flatMap encT) := Lib.hid (FS.out _ _ rfl)
            have hwr : IntKind.i64.wrap (clk + 1) = clk + 1 := IntWalk.i64_in _ ⟨by omega, by omega⟩
            go_wp2_with fail
            go_region_with (fail)
            all_goals go_wp2
            all_goals
              refine bodyPost_ret (v := .tuple #[.agg #[.slice (some ⟨g, 0, none⟩) l.length cv, .int .i64 (clk + 1), .int .i64 nxt], .int .i64 (clk + 1), .int .i64 0]) (by simp [results, Try.results11, go_sem, c10, c11, c12, l1, hwr]) rfl ?_
              rw [EE.out]
              refine ⟨_, rfl, ⟨.slice (some ⟨g, 0, none⟩) l.length cv, rfl, SlB.own (base := w.heap.size + 2) (n := l.length) (by omega) ?_⟩, ?_⟩
              · dsimp only
                rw [← FS5.out]
                repeat first | (with_reducible exact HO5.out) | (with_reducible refine own_set ?_ _ _ (by simp)) | (with_reducible refine World.ownsRow.drew ?_)
              · repeat first | (with_reducible exact HF) | (with_reducible refine Below.setCell ?_ (by first | (simp; done) | (simp; omega)) _) | (with_reducible refine Below.drew ?_)
          · have EE : Hid (commitR ⟨l, 1099511627776, nxt⟩ id = (St.zero, 0, 51)) := Lib.hid (by rw [EE0.out]; simp)
            clear EE0
            go_wp2
            refine bodyPost_ret (v := .tuple #[.agg #[.slice none 0 0, .int .i64 0, .int .i64 0], .int .i64 0, .int .i64 51]) (by simp [results, Try.results11, go_sem, c10, c11, c12, l1]) rfl ?_
            rw [EE.out]
            exact ⟨_, rfl, StV.zero _, Below.setCell (Below.setCell (Below.setCell HF (by simp) _) (by simp) _) (by simp) _⟩
      · have EE : Hid (commitR ⟨l, clk, nxt⟩ id = (St.zero, 0, 9)) := Lib.hid (by rw [EE0.out]; simp [q0])
        have q0' : (xen == 0) = false := by simpa using q0
        clear EE0
        go_wp2
        refine bodyPost_ret (v := .tuple #[.agg #[.slice none 0 0, .int .i64 0, .int .i64 0], .int .i64 0, .int .i64 9]) (by simp [results, Try.results11, go_sem, c10, c11, c12, l1]) rfl ?_
        rw [EE.out]
        exact ⟨_, rfl, StV.zero _, Below.setCell (Below.setCell (Below.setCell HF (by simp) _) (by simp) _) (by simp) _⟩
  · have EE : Hid (commitR ⟨l, clk, nxt⟩ id = (St.zero, 0, k)) := Lib.hid (E1.out k0)
    clear E1 E2 E3 CK
    obtain ⟨c00, c01, c02, f00, f01, f02, l0⟩ := HB0
    obtain ⟨c10, c11, c12, f10, f11, f12, l1⟩ := HB1
    go_wp2
    refine bodyPost_ret (v := .tuple #[.agg #[.slice none 0 0, .int .i64 0, .int .i64 0], .int .i64 0, .int .i64 k]) (by simp [results, Try.results11, go_sem, c10, c11, c12, l1]) rfl ?_
    rw [EE.out]
    exact ⟨_, rfl, StV.zero _, Below.setCell (Below.setCell (Below.setCell HF (by simp) _) (by simp) _) (by simp) _⟩
end Go.Proofs.Ytdajginkipaghaa
