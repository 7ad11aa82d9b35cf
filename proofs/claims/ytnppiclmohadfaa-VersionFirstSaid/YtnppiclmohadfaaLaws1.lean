/- The laws of layer 15: whoever has a snapshot from the horizon on sees the same behind a pruning. -/
import Derived.Test.YtnppiclmohadfaaVerW3
namespace Go.Proofs.Ytnppiclmohadfaa
open Go.RowKit
open Go.Shelf
set_option linter.unusedVariables false
set_option linter.unusedSimpArgs false
theorem below_step' {w w1 w2 : World} (h : Below w.heap.size w w1) (k : Below w1.heap.size w1 w2) : Below w.heap.size w w2 := h.trans (k.mono h.size)
theorem num_any (a : Int) (w : World) : Calls Try.prog 9 #[.int .i64 a] w fun e w' => e = .returned (.int .i64 a) ∧ w = w' := by
  go_enter Try.func9, Try.ntmps9
  go_wp2
  go_ret
  exact ⟨rfl, rfl⟩
theorem example_see : seeR 4 9 [⟨5, 2, false, ⟨#[98]⟩⟩, ⟨3, 1, false, ⟨#[97]⟩⟩] = (⟨#[97]⟩, true, 3, 0) := by kernel_rfl
set_option maxHeartbeats 1000000 in
set_option maxRecDepth 100000 in
theorem alive_any (w : World) : Calls Try.prog 6 #[] w fun e w' => e = .returned (.bool true) ∧ Below w.heap.size w w' := by
  go_enter Try.func6, Try.ntmps6
  go_wp2_with fail
  have c := see_any (some ⟨w.heap.size, 0, none⟩) 2 [⟨5, 2, false, ⟨#[98]⟩⟩, ⟨3, 1, false, ⟨#[97]⟩⟩] 4 9 _ (RowE.lit (T := 41) (fr := (0, 0)) (cs := #[.int .i64 5, .int .i64 2, .bool false, .string ⟨#[98]⟩, .int .i64 3, .int .i64 1, .bool false, .string ⟨#[97]⟩]) encVer_len (heap_alloc_new w _) rfl) (by simp)
  rw [example_see] at c
  refine c.mono ?_
  rintro e w1 ⟨rfl, h1⟩
  go_wp2_with (go_at_call 9; refine (num_any _ _).mono ?_; rintro e w' ⟨rfl, rfl⟩)
  go_ret
  exact ⟨ret_bool (by decide +kernel), ((Below.refl _ w).alloc (Nat.le_refl _) _).trans (h1.mono (by simp))⟩
theorem sees_same {h snap tx : Int} {l : List Ver} (hs : h ≤ snap) (h0 : chk l = 0) :
    (seeR snap tx l).2.1 = (seeR snap tx (prune h l)).2.1 ∧ ((seeR snap tx l).2.1 = true → (seeR snap tx l).1.toList = (seeR snap tx (prune h l)).1.toList) := by
  have e := see_prune h snap tx hs l
  unfold seeR
  rw [if_pos h0, if_pos (chk_prune h h0)]
  cases h1 : see snap tx l with
  | none =>
    cases h2 : see snap tx (prune h l) with
    | none => simp
    | some v =>
      rw [h1, h2] at e
      cases hg : v.gone <;> simp [Option.filter, hg] at e ⊢
  | some u =>
    cases h2 : see snap tx (prune h l) with
    | none =>
      rw [h1, h2] at e
      cases hg : u.gone <;> simp [Option.filter, hg] at e ⊢
    | some v =>
      rw [h1, h2] at e
      cases hg : u.gone <;> cases hv : v.gone <;> simp [Option.filter, hg, hv] at e ⊢
      rw [e]
set_option maxHeartbeats 4000000 in
set_option maxRecDepth 100000 in
theorem prunes_any (A : Option Addr) (c : Nat) (l : List Ver) (h snap tx : Int) (w : World) (HR : RowE encVer 4 w A l) (hl : l.length * 40 ≤ 140737488351232) :
    Calls Try.prog 3 #[.slice A l.length c, .int .i64 h, .int .i64 snap, .int .i64 tx] w fun e w' => e = .returned (.bool true) ∧ Below w.heap.size w w' := by
  have HF := Below.refl w.heap.size w
  go_enter Try.func3, Try.ntmps3
  go_wp2_with fail
  refine (alive_any _).mono ?_; rintro e w1 ⟨rfl, g⟩
  replace HF := below_step' HF g
  clear g
  go_wp2_with fail
  refine (of_any A c l w1 (HR.below HF) hl).mono ?_; rintro e w2 ⟨v1, rfl, s1, g⟩
  replace HF := below_step' HF g
  clear g
  obtain ⟨A1, c1, rfl, hc1, hr1, hn1⟩ := s1
  go_wp2_with fail
  refine (prune_any A1 c1 l h w2 hr1 hn1 hc1).mono ?_; rintro e w3 ⟨va, rfl, s2, g⟩
  replace HF := below_step' HF g
  clear g hr1 hc1 hn1
  by_cases h0 : chk l = 0
  · have e2 : pruneR h l = prune h l := by unfold pruneR; rw [if_pos h0]
    rw [e2] at s2
    clear e2
    have h1 := chk_prune h h0
    have pp := prune_prune h l
    have SS := Lib.hid (fun hs => sees_same (h := h) (snap := snap) (tx := tx) (l := l) hs h0)
    rw [h0]
    have HL0 := Lib.hid h0
    clear h0
    have PP : Hid (pruneR h (prune h l) = prune h l) := Lib.hid (by unfold pruneR; rw [if_pos h1, pp])
    clear pp
    obtain ⟨A2, c2, rfl, hc2, hr2, hn2⟩ := s2
    have H1 := Lib.hid h1
    have LP := prune_len h l
    clear h1
    generalize prune h l = m at *
    go_wp2_with (go_at_call 9; refine (num_any _ _).mono ?_; rintro e w' ⟨rfl, rfl⟩)
    have cp := prune_any A2 c2 m h w3 hr2 hn2 hc2
    rw [H1.out] at cp
    refine cp.mono ?_; rintro e w4 ⟨vb, rfl, s3, g⟩
    have F4 := g
    replace HF := below_step' HF g
    clear g cp
    rw [PP.out] at s3
    obtain ⟨A3, c3, rfl, hc3, hr3, hn3⟩ := s3
    have ck := check_any A2 c2 m w4 (hr2.below F4)
    rw [H1.out] at ck
    clear hr3 hc3 hn3
    go_wp2_with (first | (go_at_call 9; refine (num_any _ _).mono ?_; rintro e w' ⟨rfl, rfl⟩) | (go_at_call 10; refine ck.mono ?_; rintro e w5 ⟨rfl, F5⟩))
    have HF5 := below_step' HF F5
    have F35 := below_step' F4 F5
    refine (of_any A c l w5 (HR.below HF5) hl).mono ?_; rintro e w6 ⟨v6, rfl, s6, g⟩
    have HF6 := below_step' HF5 g
    have F36 := below_step' F35 g
    clear g ck
    obtain ⟨A6, c6, rfl, hc6, hr6, hn6⟩ := s6
    go_wp2_with fail
    refine (see_any A6 c6 l snap tx w6 hr6 (by omega)).mono ?_; rintro e w7 ⟨rfl, g⟩
    have HF7 := below_step' HF6 g
    have F37 := below_step' F36 g
    clear g hr6 hc6 hn6
    go_wp2_with fail
    refine (see_any A2 c2 m snap tx w7 (hr2.below F37) (by omega)).mono ?_; rintro e w8 ⟨rfl, g⟩
    have HF8 := below_step' HF7 g
    clear g
    generalize seeR snap tx l = ra at *
    generalize seeR snap tx m = rb at *
    obtain ⟨ra1, ra2, ra3, ra4⟩ := ra
    obtain ⟨rb1, rb2, rb3, rb4⟩ := rb
    dsimp only at SS ⊢
    by_cases hs : snap < h
    · go_wp2
      all_goals (go_ret; exact ⟨ret_bool (by simp_all), HF8⟩)
    · obtain ⟨q1, q2⟩ := SS.out (by omega)
      subst q1
      clear SS
      cases ra2 with
      | false =>
        go_wp2
        all_goals (go_ret; exact ⟨ret_bool (by simp_all), HF8⟩)
      | true =>
        have q3 := q2 rfl
        go_wp2
        all_goals (go_ret; exact ⟨ret_bool (by simp_all), HF8⟩)
  · have e2 : pruneR h l = [] := by unfold pruneR; rw [if_neg h0]
    rw [e2] at s2
    obtain ⟨A2, c2, rfl, hc2, hr2, hn2⟩ := s2
    generalize chk l = k at *
    go_wp2_with (go_at_call 9; refine (num_any _ _).mono ?_; rintro e w' ⟨rfl, rfl⟩)
    all_goals (go_ret; exact ⟨ret_bool (by simp_all), HF⟩)
end Go.Proofs.Ytnppiclmohadfaa
