/- Walks of the laws of layer 1: exact, where the sum is a number. -/
import Derived.Test.YtekldpghidmeaaaEx0
namespace Go.Proofs.Ytekldpghidmeaaa
open Go.RowKit
set_option linter.unusedVariables false
set_option linter.unusedSimpArgs false
attribute [local go_sem high] eqVal
set_option maxRecDepth 100000 in
set_option maxHeartbeats 8000000 in
theorem exact_in (a b : Int) (w : World) (ha : InR a) (hb : InR b) (hS : InR (a + b)) :
    Calls Try.prog 5 #[.int .i64 a, .int .i64 b] w fun e w' => e = .returned (.bool true) ∧ Below w.heap.size w w' := by
  have HF := Below.refl w.heap.size w
  have a1 := ha.1; have a2 := ha.2; have b1 := hb.1; have b2 := hb.2
  go_enter Try.func5, Try.ntmps5
  go_wp2_with fail
  refine (alive_any _).mono ?_; rintro e w1 ⟨rfl, h⟩
  replace HF := below_step HF h
  clear h
  go_wp2_with fail
  refine (number_any _ _).mono ?_; rintro e w2 ⟨rfl, h⟩
  replace HF := below_step HF h
  clear h
  go_wp2_with fail
  refine (number_any _ _).mono ?_; rintro e w3 ⟨rfl, h⟩
  replace HF := below_step HF h
  clear h
  go_wp2_with fail
  refine (reckonN (op := 4) (r := a + b) (by omega) (by omega) ha hb (by simp [nreckon, hS]) _).mono ?_; rintro e w4 ⟨rfl, h⟩
  replace HF := below_step HF h
  clear h
  have R5 := Lib.hid (fun W => reckonN (op := 5) (a := a + b) (b := b) (r := a) (by omega) (by omega) hS hb (by unfold nreckon; rw [if_neg (by omega), if_pos rfl, if_pos (by rw [Int.add_sub_cancel]; exact ha), Int.add_sub_cancel]) W)
  have HR5 := below_alloc HF (Nat.le_refl _) (.cells #[.int .i64 1, .int .i64 (a + b), .string ⟨#[]⟩] 23)
  have BS : Box (w4.alloc (.cells #[.int .i64 1, .int .i64 (a + b), .string ⟨#[]⟩] 23)) w4.heap.size 1 (a + b) := ⟨by go_simp, by go_simp, by go_simp⟩
  have LS := BS.lt
  go_wp2_with (go_at_call 12; refine (num_any _ _).mono ?_; rintro e w' ⟨rfl, rfl⟩)
  generalize (w4.alloc (.cells #[.int .i64 1, .int .i64 (a + b), .string ⟨#[]⟩] 23)) = wq at *
  generalize w4.heap.size = S at *
  go_cut [7, 8] (fun p e wx => ∃ g, p = .pointer (some ⟨g, 0, none⟩) ∧ e = .int .i64 0 ∧ Box wx g 1 a ∧ Below w.heap.size w wx)
  case first =>
    obtain ⟨qs0, qs1, qs2⟩ := id BS
    go_region_with (first
      | (go_at_call 19; refine (number_any b wq.drew).mono ?_; rintro e wn ⟨rfl, hN1⟩
         obtain ⟨xs0, xs1, xs2⟩ := BS.drew.below hN1
         have lsn : S < wn.heap.size := World.block_lt_of_cell? _ _ xs0
         have HN := below_step HR5.drew hN1)
      | (go_at_call 19; refine (number_any b (wq.alloc (.cells #[.int .i64 0, .int .i64 0, .string ⟨#[]⟩] 23)).drew).mono ?_; rintro e wn ⟨rfl, hN2⟩
         obtain ⟨xs0, xs1, xs2⟩ := (BS.alloc (.cells #[.int .i64 0, .int .i64 0, .string ⟨#[]⟩] 23)).drew.below hN2
         have lsn : S < wn.heap.size := World.block_lt_of_cell? _ _ xs0
         have FD := (Free.new wq).drew.below hN2
         have HN := below_step (below_alloc HR5 (Nat.le_refl _) (.cells #[.int .i64 0, .int .i64 0, .string ⟨#[]⟩] 23)).drew hN2)
      | (go_at_call 18; have hh := hN1; refine (R5.out wn).mono ?_; rintro e wm ⟨rfl, hR1⟩
         have HM := below_step HN hR1
         have hq1 := hN1)
      | (go_at_call 18; have hh := hN1; refine (R5.out (wn.alloc (.cells #[.int .i64 0, .int .i64 0, .string ⟨#[]⟩] 23))).mono ?_; rintro e wm ⟨rfl, hR2⟩
         obtain ⟨⟨d0, d1, d2⟩, f0, f1, f2⟩ := (Free.new wn).below hR2
         have HM := below_step (below_alloc HN (Nat.le_refl _) (.cells #[.int .i64 0, .int .i64 0, .string ⟨#[]⟩] 23)) hR2)
      | (go_at_call 18; have hh := hN2; refine (R5.out wn).mono ?_; rintro e wm ⟨rfl, hR3⟩
         obtain ⟨⟨d0, d1, d2⟩, f0, f1, f2⟩ := FD.below hR3
         have HM := below_step HN hR3))
    all_goals
      go_wp2_with fail
      go_meet
      first
        | exact ⟨_, rfl, rfl, ⟨by go_simp, by go_simp, by go_simp⟩, below_alloc HM (Nat.le_refl _) _⟩
        | exact ⟨_, rfl, rfl, ⟨by go_simp, by go_simp, by go_simp⟩, ((HM.setCell (p := ⟨wn.heap.size, 0, none⟩) HN.size _).setCell (p := ⟨wn.heap.size, 1, none⟩) HN.size _).setCell (p := ⟨wn.heap.size, 2, none⟩) HN.size _⟩
        | exact ⟨_, rfl, rfl, ⟨by go_simp, by go_simp, by go_simp⟩, ((HM.setCell (p := ⟨wq.heap.size, 0, none⟩) HR5.size _).setCell (p := ⟨wq.heap.size, 1, none⟩) HR5.size _).setCell (p := ⟨wq.heap.size, 2, none⟩) HR5.size _⟩
  case rest =>
    obtain ⟨g, rfl, rfl, BG, HW0⟩ := hcut
    clear R5 BS LS HR5 HF
    have ld := BG.lt
    obtain ⟨qd0, qd1, qd2⟩ := BG
    have pd0 := later_cell ld qd0
    have pd1 := later_cell ld qd1
    have pd2 := later_cell ld qd2
    have s0 : sameB 1 a ⟨#[]⟩ 1 a ⟨#[]⟩ = true := by simp [sameB]
    go_wp2_with fail
    (refine wp_region_later (by kernel_rfl) (by kernel_rfl) ?_
     repeat (first | go_big_quiet_step ((first | (go_at_call 12; exact later_same (num_any _ _)) | (go_at_call 19; exact later_of (number_any _ _)))) | quiet_step ((first | (go_at_call 12; exact later_same (num_any _ _)) | (go_at_call 19; exact later_of (number_any _ _)))))
     refine wpQuiet_nil ?_
     intro _ hw'
     obtain ⟨qL, hw''⟩ := hw'
     subst hw''
     obtain ⟨wL, h⟩ := qL)
    dsimp only
    have HF2 := below_step HW0 h
    clear h pd0 pd1 pd2 qd0 qd1 qd2 ld HW0
    go_wp2_with (go_at_call 12; refine (num_any _ _).mono ?_; rintro e w' ⟨rfl, rfl⟩)
    refine (number_any _ _).mono ?_; rintro e w5 ⟨rfl, h⟩
    have HF3 := below_step HF2 h
    clear h
    go_wp2_with fail
    refine (number_any _ _).mono ?_; rintro e w6 ⟨rfl, h⟩
    have HF4 := below_step HF3 h
    clear h
    go_wp2_with fail
    by_cases hb0 : b = 0
    · subst hb0
      refine (reckonE (op := 7) (r := 0) (c := 85) (by omega) (by omega) ha hb (by simp [nreckon]) (by omega) _).mono ?_; rintro e w7 ⟨rfl, h⟩
      have HF5 := below_step HF4 h
      go_wp2_with (go_at_call 12; refine (num_any _ _).mono ?_; rintro e w' ⟨rfl, rfl⟩)
      go_ret
      exact ⟨rfl, below_alloc HF5 (Nat.le_refl _) _⟩
    · by_cases hm : a = -9223372036854775808 ∧ b = -1
      · obtain ⟨rfl, rfl⟩ := hm
        refine (reckonE (op := 7) (r := 0) (c := 84) (by omega) (by omega) ha hb (by simp [nreckon]) (by omega) _).mono ?_; rintro e w7 ⟨rfl, h⟩
        have HF5 := below_step HF4 h
        go_wp2_with (go_at_call 12; refine (num_any _ _).mono ?_; rintro e w' ⟨rfl, rfl⟩)
        go_ret
        exact ⟨rfl, below_alloc HF5 (Nat.le_refl _) _⟩
      · obtain ⟨hq, hp, hr, hs, ht⟩ := exact_rest ha hb hb0 hm
        refine (reckonN (op := 7) (r := a.tdiv b) (by omega) (by omega) ha hb (by unfold nreckon; rw [if_neg (by omega), if_neg (by omega), if_neg (by omega), if_neg hb0, if_neg hm]) _).mono ?_; rintro e w7 ⟨rfl, h⟩
        have HF5 := below_alloc (below_step HF4 h) (Nat.le_refl _) (.cells #[.int .i64 1, .int .i64 (a.tdiv b), .string ⟨#[]⟩] 23)
        have R6 := Lib.hid (fun W => reckonN (op := 6) (a := a.tdiv b) (b := b) (r := a.tdiv b * b) (by omega) (by omega) hq hb (by unfold nreckon; rw [if_neg (by omega), if_neg (by omega), if_pos rfl, if_pos hp]) W)
        clear h HF4 HF3 HF2
        generalize a.tdiv b = q at *
        have BS : Box (w7.alloc (.cells #[.int .i64 1, .int .i64 q, .string ⟨#[]⟩] 23)) w7.heap.size 1 q := ⟨by go_simp, by go_simp, by go_simp⟩
        have LS := BS.lt
        go_wp2_with (go_at_call 12; refine (num_any _ _).mono ?_; rintro e w' ⟨rfl, rfl⟩)
        generalize (w7.alloc (.cells #[.int .i64 1, .int .i64 q, .string ⟨#[]⟩] 23)) = w8 at *
        generalize w7.heap.size = S at *
        have hr1 := hr.1
        have hr2 := hr.2
        have hp1 := hp.1
        have hp2 := hp.2
        clear hq hm
        go_cut [11, 12] (fun p e wx => ∃ g, p = .pointer (some ⟨g, 0, none⟩) ∧ e = .int .i64 0 ∧ wx.cell? ⟨g, 1, none⟩ = some (.int .i64 (q * b)) ∧ Below w.heap.size w wx)
        case first =>
          obtain ⟨qs0, qs1, qs2⟩ := id BS
          go_region_with (first
            | (go_at_call 19; refine (number_any b w8.drew).mono ?_; rintro e wn ⟨rfl, hN1⟩
               obtain ⟨xs0, xs1, xs2⟩ := BS.drew.below hN1
               have lsn : S < wn.heap.size := World.block_lt_of_cell? _ _ xs0
               have HN := below_step HF5.drew hN1)
            | (go_at_call 19; refine (number_any b (w8.alloc (.cells #[.int .i64 0, .int .i64 0, .string ⟨#[]⟩] 23)).drew).mono ?_; rintro e wn ⟨rfl, hN2⟩
               obtain ⟨xs0, xs1, xs2⟩ := (BS.alloc (.cells #[.int .i64 0, .int .i64 0, .string ⟨#[]⟩] 23)).drew.below hN2
               have lsn : S < wn.heap.size := World.block_lt_of_cell? _ _ xs0
               have FD := (Free.new w8).drew.below hN2
               have HN := below_step (below_alloc HF5 (Nat.le_refl _) (.cells #[.int .i64 0, .int .i64 0, .string ⟨#[]⟩] 23)).drew hN2)
            | (go_at_call 18; have hh := hN1; refine (R6.out wn).mono ?_; rintro e wm ⟨rfl, hR1⟩
               have HM := below_step HN hR1
               have hq1 := hN1)
            | (go_at_call 18; have hh := hN1; refine (R6.out (wn.alloc (.cells #[.int .i64 0, .int .i64 0, .string ⟨#[]⟩] 23))).mono ?_; rintro e wm ⟨rfl, hR2⟩
               obtain ⟨⟨d0, d1, d2⟩, f0, f1, f2⟩ := (Free.new wn).below hR2
               have HM := below_step (below_alloc HN (Nat.le_refl _) (.cells #[.int .i64 0, .int .i64 0, .string ⟨#[]⟩] 23)) hR2)
            | (go_at_call 18; have hh := hN2; refine (R6.out wn).mono ?_; rintro e wm ⟨rfl, hR3⟩
               obtain ⟨⟨d0, d1, d2⟩, f0, f1, f2⟩ := FD.below hR3
               have HM := below_step HN hR3))
          all_goals
            go_wp2_with fail
            go_meet
            first
              | exact ⟨_, rfl, rfl, by go_simp, below_alloc HM (Nat.le_refl _) _⟩
              | exact ⟨_, rfl, rfl, by go_simp, ((HM.setCell (p := ⟨wn.heap.size, 0, none⟩) HN.size _).setCell (p := ⟨wn.heap.size, 1, none⟩) HN.size _).setCell (p := ⟨wn.heap.size, 2, none⟩) HN.size _⟩
              | exact ⟨_, rfl, rfl, by go_simp, ((HM.setCell (p := ⟨w8.heap.size, 0, none⟩) HF5.size _).setCell (p := ⟨w8.heap.size, 1, none⟩) HF5.size _).setCell (p := ⟨w8.heap.size, 2, none⟩) HF5.size _⟩
        case rest =>
          obtain ⟨g, rfl, rfl, g1, HW⟩ := hcut
          clear R6 BS LS HF5
          generalize q * b = pp at *
          obtain ⟨r, hrr⟩ : ∃ r, r = a - pp := ⟨_, rfl⟩
          have HRR := Lib.hid hrr
          have HS := Lib.hid hs
          have HT := Lib.hid ht
          clear hrr hs ht
          go_wp2_with (go_at_call 12; refine (num_any _ _).mono ?_; rintro e w' ⟨rfl, rfl⟩)
          all_goals
            go_ret
            refine ⟨ret_bool ?_, HW⟩
            have hs := HS.out
            have ht := HT.out
            clear HS HT HRR HW
            first
              | (exfalso; omega)
              | (exfalso; simp only [wrap64] at *; omega)
              | (exfalso; rename_i z0; apply z0; by_cases z1 : a - pp < 0 <;> by_cases z2 : a - pp = 0 <;> simp [z1, z2] <;> omega)
              | (rw [decide_eq_true_eq, IntKind.wrap_u64, IntKind.wrap_u64]; simp only [wrap64] at *; omega)
              | (rw [Bool.and_eq_true, Bool.not_eq_true', decide_eq_true_eq, decide_eq_false_iff_not, IntKind.wrap_u64]; simp only [wrap64] at *; omega)
end Go.Proofs.Ytekldpghidmeaaa
