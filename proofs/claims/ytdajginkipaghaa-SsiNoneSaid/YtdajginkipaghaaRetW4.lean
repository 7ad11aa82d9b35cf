/- Package ssi: Retire. -/
import Derived.Test.YtdajginkipaghaaRetW3
namespace Go.Proofs.Ytdajginkipaghaa
open Go.RowKit
open Go.Shelf
set_option linter.unusedVariables false
set_option linter.unusedSimpArgs false
set_option maxHeartbeats 4000000 in
set_option maxRecDepth 100000 in
theorem delete_nil (c : Nat) (n : Int) (B1 B2 base : Nat) (w : World) (h1 : B1 < base) (h12 : B1 ≠ B2) (hn : w.cell? ⟨B1, 0, none⟩ = some (.int .i64 n)) (hL : Log w base B2 []) :
    Calls Try.prog 22 #[.slice none 0 c, .func (.func 23) #[] #[.pointer (some ⟨B1, 0, none⟩), .pointer (some ⟨B2, 0, none⟩)]] w fun e w' =>
      e = .returned (.slice none 0 c) ∧ Kept base (· = B2) w w' ∧ Log w' base B2 [] := by
  have hix := index_any none c [] n B1 B2 base w RowE.nil (fun b off h => by cases h) h1 h12 hn hL (by simp)
  clear hn hL
  go_enter Try.func22, Try.ntmps22
  go_wp2_with fail
  refine hix.mono ?_; rintro e w1 ⟨hk1, ⟨rfl, hno, hL1⟩ | ⟨i, x, rfl, hx, hgx, hpre, hL1⟩⟩
  · have HK1 := Lib.hid hk1
    have HL1 := Lib.hid hL1
    clear hk1 hL1 hno hix
    go_wp2
    go_ret
    exact ⟨rfl, HK1.out, HL1.out⟩
  · simp at hx
theorem delete_own (A : Option Addr) (cap b0 : Nat) (l : List Tx) (n : Int) (B1 B2 base : Nat) (w : World) (HO : w.ownsRow b0 40 5 (.slice A l.length cap) l.length (l.flatMap encT)) (hb0 : b0 ≤ base) (hg : ∀ b, A = some ⟨b, 0, none⟩ → b < base) (h1 : B1 < b0) (h2 : B2 < b0) (h12 : B1 ≠ B2) (hn : w.cell? ⟨B1, 0, none⟩ = some (.int .i64 n)) (hL : Log w base B2 []) (hl : l.length ≤ 1000) :
    Calls Try.prog 22 #[.slice A l.length cap, .func (.func 23) #[] #[.pointer (some ⟨B1, 0, none⟩), .pointer (some ⟨B2, 0, none⟩)]] w fun e w' =>
      ∃ A', e = .returned (.slice A' (l.filter (fun t => !gone n t)).length cap) ∧ Kept b0 (· = B2) w w' ∧ w'.ownsRow b0 40 5 (.slice A' (l.filter (fun t => !gone n t)).length cap) (l.filter (fun t => !gone n t)).length ((l.filter (fun t => !gone n t)).flatMap encT) ∧ Log w' base B2 ((l.filter (gone n)).map (·.id)) := by
  rcases HO.2 with ⟨hv, h0⟩ | ⟨g, cap', cur, hv, hbg, hgg, hnc, hcm, hcs, htake⟩
  · obtain rfl : l = [] := List.eq_nil_of_length_eq_zero h0
    obtain ⟨rfl, rfl⟩ : A = none ∧ cap = 0 := by simpa using hv
    refine (delete_nil 0 n B1 B2 base w (by omega) h12 hn hL).mono ?_
    rintro e w' ⟨rfl, h3, h4⟩
    exact ⟨none, rfl, ⟨h3.os, h3.tape, h3.output, h3.size, fun k hk hb => h3.block k (by omega) hb⟩, World.ownsRow_nil _ _ _ _, h4⟩
  · obtain ⟨rfl, rfl⟩ : A = some ⟨g, 0, none⟩ ∧ cap = cap' := by simpa using hv
    refine (delete_any g cap b0 l n B1 B2 base w HO (hg g rfl) (by omega) (by omega) (by omega) h12 hn hL hl).mono ?_
    rintro e w' ⟨rfl, h3, h4, h5⟩
    exact ⟨_, rfl, ⟨h3.os, h3.tape, h3.output, h3.size, fun k hk hb => h3.block k (by omega) (by rintro (h | h); exact hb h; omega)⟩, h4, h5⟩
/-- A slice of numbers. -/
def encI (n : Int) : List Value := [.int .i64 n]
theorem encI_len (x : Int) : (encI x).length = 1 := rfl
theorem encI_flat (l : List Int) : l.flatMap encI = l.map (Value.int .i64) := by induction l <;> simp_all [encI]
theorem SlB.ints {N : Nat} {w : World} {base n : Nat} {v : Value} {l : List Int} (hN : N ≤ base) (h : w.ownsRow base 3 1 v n (l.map (Value.int .i64))) : SlB encI 1 N w v l := SlB.of_own encI_len (by decide) hN (by rw [encI_flat]; exact h)
set_option maxHeartbeats 4000000 in
set_option maxRecDepth 100000 in
theorem retire_any (A : Option Addr) (c : Nat) (s : St) (w : World) (HR : RowE encT 5 w A s.l) (hn : A = none → c = 0) (hl : s.l.length ≤ 140737488355328) :
    Calls Try.prog 16 #[.agg #[.slice A s.l.length c, .int .i64 s.clk, .int .i64 s.nxt]] w fun e w' => ∃ v u, e = .returned (.tuple #[v, u, .int .i64 (retireR s).2.2]) ∧ StV w.heap.size w' v (retireR s).1 ∧ SlB encI 1 w.heap.size w' u (retireR s).2.1 ∧ Below w.heap.size w w' := by
  have HB0 := (Box3.new w (.slice A s.l.length c) (.int .i64 s.clk) (.int .i64 s.nxt) 26).alloc (.cells #[.slice none 0 0, .int .i64 0, .int .i64 0] 26)
  have HB1 := Box3.new (w.alloc (.cells #[.slice A s.l.length c, .int .i64 s.clk, .int .i64 s.nxt] 26)) (.slice none 0 0) (.int .i64 0) (.int .i64 0) 26
  have ba : Below w.heap.size w ((w.alloc (.cells #[.slice A s.l.length c, .int .i64 s.clk, .int .i64 s.nxt] 26)).alloc (.cells #[.slice none 0 0, .int .i64 0, .int .i64 0] 26)) := (by (repeat (first | (with_reducible exact Below.refl _ _) | apply below_alloc _ (Nat.le_refl _) | refine below_set ?_ (by first | exact Nat.le_refl _ | omega) | apply below_drewN | refine below_step ?_ HB)))
  have hc := horizon_any A c s _ (HR.below ba) hl
  have E1 : Hid ((horizonR s).2 ≠ 0 → retireR s = (St.zero, [], (horizonR s).2)) := Lib.hid (fun h => by
    unfold horizonR at h ⊢; unfold retireR
    by_cases k : s.chk = 0
    · simp [k] at h
    · rw [if_pos k, if_pos k])
  have E2 : Hid ((horizonR s).2 = 0 → retireR s = (⟨s.l.filter (fun t => !gone (horizonR s).1 t), s.clk, s.nxt⟩, (s.l.filter (gone (horizonR s).1)).map (·.id), 0)) := Lib.hid (fun h => by
    unfold horizonR at h ⊢; unfold retireR
    by_cases k : s.chk = 0
    · simp [k]
    · simp [k] at h)
  have CK : Hid ((horizonR s).2 = 0 → s.l.length ≤ 64) := Lib.hid (fun h => by
    unfold horizonR at h
    by_cases k : s.chk = 0
    · exact chk_len k
    · simp [k] at h)
  have HR' := Lib.hid HR
  clear HR
  generalize hk : horizonR s = k at *
  clear hk
  obtain ⟨n, k⟩ := k
  obtain ⟨l, clk, nxt⟩ := s
  dsimp only at *
  simp only [World.size_alloc] at HB1
  go_enter Try.func16, Try.ntmps16
  go_wp2_with fail
  refine hc.mono ?_; rintro e w1 ⟨rfl, h1⟩
  replace HB0 := HB0.below h1 (by simp <;> omega)
  replace HB1 := HB1.below h1 (by simp <;> omega)
  have HF := ba.trans (h1.mono (by simp <;> omega))
  clear h1 hc ba
  by_cases k0 : k = 0
  · subst k0
    have hlen : l.length ≤ 64 := CK.out (by trivial)
    have EE : Hid (retireR ⟨l, clk, nxt⟩ = (⟨l.filter (fun t => !gone n t), clk, nxt⟩, (l.filter (gone n)).map (·.id), 0)) := Lib.hid (E2.out (by trivial))
    clear E1 E2 CK
    have l0 := HB0.lt
    have l1 := HB1.lt
    have HR1 := HR'.out.below HF
    have bb : Below w1.heap.size w1 ((w1.alloc (.cells #[.int .i64 n] 3)).alloc (.cells #[.slice none 0 0] 30)) := ((Below.refl _ w1).alloc (Nat.le_refl _) _).alloc (by simp) _
    have hcl := clone_any A c l clk nxt ((w1.alloc (.cells #[.int .i64 n] 3)).alloc (.cells #[.slice none 0 0] 30)) (HR1.below bb) hn (by omega)
    have HB0' := Lib.hid (HB0.below bb l0)
    have HB1' := Lib.hid (HB1.below bb l1)
    have HF' := Lib.hid (below_step' HF bb)
    clear HR1 hn HR' HB1 bb HF
    obtain ⟨c00, c01, c02, f00, f01, f02, _⟩ := HB0
    go_wp2_with fail
    refine hcl.mono ?_; rintro e w2 ⟨v, rfl, hown, h2⟩
    simp only [World.size_alloc] at h2 hown
    have hsz2 : w1.heap.size + 2 ≤ w2.heap.size := by have := h2.size; simpa using this
    have HB0 := HB0'.out.below h2 (by omega)
    have HB1 := HB1'.out.below h2 (by omega)
    have HF := HF'.out.trans (h2.mono (by omega))
    have p5 : w2.cell? ⟨w1.heap.size, 0, none⟩ = some (.int .i64 n) := (h2.cell (p := ⟨w1.heap.size, 0, none⟩) (by simp; omega)).trans (by go_simp)
    have p7 : w2.cell? ⟨w1.heap.size + 1, 0, none⟩ = some (.slice none 0 0) := (h2.cell (p := ⟨w1.heap.size + 1, 0, none⟩) (by simp)).trans (by go_simp)
    have q7 : w2.frozen? ⟨w1.heap.size + 1, 0, none⟩ = false := (h2.frozen (p := ⟨w1.heap.size + 1, 0, none⟩) (by simp)).trans (by go_simp)
    clear c00 c01 c02 f00 f01 f02 hcl HB0' HB1' HF' h2
    obtain ⟨Av, cv, rfl, hcv, hnv⟩ := own_slice hown
    have hgb : ∀ b, Av = some ⟨b, 0, none⟩ → b < w2.heap.size := fun b h => by subst h; exact (hown.lt b rfl).2
    have HO3 := own_set (own_set (own_set hown ⟨w.heap.size, 0, none⟩ (.slice Av l.length cv) (by simp; omega)) ⟨w.heap.size, 1, none⟩ (.int .i64 clk) (by simp; omega)) ⟨w.heap.size, 2, none⟩ (.int .i64 nxt) (by simp; omega)
    have HB3 := Lib.hid (((HB0.set0 (.slice Av l.length cv)).set1 (.int .i64 clk)).set2 (.int .i64 nxt))
    have HC3 := Lib.hid (((HB1.other ⟨w.heap.size, 0, none⟩ (.slice Av l.length cv) (by simp)).other ⟨w.heap.size, 1, none⟩ (.int .i64 clk) (by simp)).other ⟨w.heap.size, 2, none⟩ (.int .i64 nxt) (by simp))
    have HF3 := Lib.hid (Below.setCell (Below.setCell (Below.setCell HF (p := ⟨w.heap.size, 0, none⟩) (by simp) (.slice Av l.length cv)) (p := ⟨w.heap.size, 1, none⟩) (by simp) (.int .i64 clk)) (p := ⟨w.heap.size, 2, none⟩) (by simp) (.int .i64 nxt))
    have n5 : w1.heap.size ≠ w.heap.size := by omega
    have n7 : w1.heap.size + 1 ≠ w.heap.size := by omega
    have hdel := delete_own Av cv (w1.heap.size + 2) l n w1.heap.size (w1.heap.size + 1) w2.heap.size _ HO3 hsz2 hgb (by omega) (by omega) (by omega) (by go_simp) ⟨.slice none 0 0, by go_simp, by go_simp, by omega, by simp, World.ownsRow_nil _ _ _ _⟩ (by omega)
    clear p5 p7 q7 hown HO3 HB1 HF
    obtain ⟨c00, c01, c02, f00, f01, f02, _⟩ := HB0
    go_wp2_with fail
    refine hdel.mono ?_; rintro e w4 ⟨A', rfl, hk4, hown4, hlog4⟩
    clear c00 c01 c02 f00 f01 f02 hdel
    have HB4 := hk4.box HB3.out (by omega) (by omega)
    have HC4 := hk4.box HC3.out (by omega) (by omega)
    have HF4 := HF3.out.trans (hk4.to_below (by omega) (by intro k h; omega))
    obtain ⟨u, hu, hfu, hb1, hb2, hou⟩ := hlog4
    have HO4 := Lib.hid hown4
    have HU4 := Lib.hid hou
    clear HB3 HC3 HF3 hown4 hou hk4 hfu
    generalize hF : l.filter (fun t => !gone n t) = F at *
    generalize hZ : (l.filter (gone n)).map (·.id) = Z at *
    clear hF hZ
    have lu := World.block_lt_of_cell? _ _ hu
    obtain ⟨c00, c01, c02, f00, f01, f02, l00⟩ := HB4
    obtain ⟨c10, c11, c12, f10, f11, f12, l11⟩ := HC4
    obtain ⟨Au, cu, rfl, hcu, hnu⟩ := own_slice HU4.out
    go_wp2_with fail
    go_region_with (fail)
    all_goals go_wp2
    all_goals
      refine bodyPost_ret (v := .tuple #[.agg #[.slice A' F.length cv, .int .i64 clk, .int .i64 nxt], .slice Au Z.length cu, .int .i64 0]) (by simp [results, Try.results16, go_sem, c10, c11, c12, l11]) rfl ?_
      rw [EE.out]
      refine ⟨_, _, rfl, ⟨_, rfl, SlB.own (base := w1.heap.size + 2) (n := F.length) (by omega) ?_⟩, SlB.ints (base := w2.heap.size) (n := Z.length) (by omega) ?_, ?_⟩
      · repeat first | (with_reducible exact HO4.out) | (with_reducible refine own_set ?_ _ _ (by simp; omega)) | (with_reducible refine World.ownsRow.drew ?_)
      · repeat first | (with_reducible exact HU4.out) | (with_reducible refine own_set ?_ _ _ (by simp; omega)) | (with_reducible refine World.ownsRow.drew ?_)
      · repeat first | (with_reducible exact HF4) | (with_reducible refine Below.setCell ?_ (by simp) _) | (with_reducible refine Below.drew ?_)
  · have EE : Hid (retireR ⟨l, clk, nxt⟩ = (St.zero, [], k)) := Lib.hid (E1.out k0)
    clear E1 E2 CK
    obtain ⟨c00, c01, c02, f00, f01, f02, l0⟩ := HB0
    obtain ⟨c10, c11, c12, f10, f11, f12, l1⟩ := HB1
    go_wp2
    refine bodyPost_ret (v := .tuple #[.agg #[.slice none 0 0, .int .i64 0, .int .i64 0], .slice none 0 0, .int .i64 k]) (by simp [results, Try.results16, go_sem, c10, c11, c12, l1]) rfl ?_
    rw [EE.out]
    refine ⟨_, _, rfl, StV.zero _, SlB.nil _, ?_⟩
    repeat first | (with_reducible exact HF) | (with_reducible refine Below.setCell ?_ (by simp) _) | (with_reducible refine Below.alloc ?_ (by simp; omega) _)
end Go.Proofs.Ytdajginkipaghaa
