/- The page's locks: Check. -/
import Derived.Test.YtdiclnkkddnncaaRL1
namespace Go.Proofs.Ytdiclnkkddnncaa
open Go.RowKit
set_option linter.unusedVariables false
set_option linter.unusedSimpArgs false
set_option maxHeartbeats 4000000 in
set_option maxRecDepth 100000 in
theorem rlcheck_any (A : Option Addr) (c : Nat) (l : List Lk) (w : World) (HR : RowE encL 3 w A l) (hl : l.length ≤ 140737488355328) :
    Calls Try.prog 25 #[.agg #[.slice A l.length c]] w fun e w' => e = .returned (.int .i64 (chkL l)) ∧ Below w.heap.size w w' := by
  have HR' := Lib.hid HR
  clear HR
  by_cases h512 : 512 < l.length
  · have e : chkL l = 9 := by unfold chkL; rw [if_pos h512]
    rw [e]
    go_enter Try.func25, Try.ntmps25
    go_wp2
    go_ret
    exact ⟨rfl, (by (repeat (first | (with_reducible exact Below.refl _ _) | apply below_alloc _ (Nat.le_refl _) | refine below_set ?_ (by first | exact Nat.le_refl _ | omega) | apply below_drewN | refine below_step ?_ HB)))⟩
  · have E9 : Hid (chkLFrom none l = false → chkL l = 9) := Lib.hid (fun h => by unfold chkL; rw [if_neg h512, h]; rfl)
    have E0 : Hid (chkLFrom none l = true → chkL l = 0) := Lib.hid (fun h => by unfold chkL; rw [if_neg h512, h]; rfl)
    have a1 : ¬ (512 : Int) < (l.length : Int) := by omega
    generalize chkL l = r at *
    go_enter Try.func25, Try.ntmps25
    go_wp2_with fail
    have hb0 : Below w.heap.size w (w.alloc (.cells #[.slice A l.length c] 24)) := (by (repeat (first | (with_reducible exact Below.refl _ _) | apply below_alloc _ (Nat.le_refl _) | refine below_set ?_ (by first | exact Nat.le_refl _ | omega) | apply below_drewN | refine below_step ?_ HB)))
    have hc0 : (w.alloc (.cells #[.slice A l.length c] 24)).cell? ⟨w.heap.size, 0, none⟩ = some (.slice A l.length c) := by go_simp
    have hw0 := HR'.out.below hb0
    generalize w.alloc (.cells #[.slice A l.length c] 24) = w0 at *
    have HR0 := Lib.hid hw0
    have hlt0 : w.heap.size < w0.heap.size := World.block_lt_of_cell? _ _ hc0
    have hz0 : w.heap.size ≤ w0.heap.size := by omega
    clear hw0 HR'
    go_loopw [3] (fun i wr => ∃ j : Nat, j ≤ l.length ∧ i = .int .i64 j ∧ Below w0.heap.size w0 wr ∧ Hid (chkLFrom none l = chkLFrom (if j = 0 then none else l[j - 1]?) (l.drop j))) (fun i _ => l.length - (Lib.intOf i).toNat)
    case atStart => exact ⟨0, Nat.zero_le _, rfl, Below.refl _ _, Lib.hid (by simp)⟩
    case round =>
      obtain ⟨j, hj, rfl, hbel, HE⟩ := hrel
      by_cases hlt : j < l.length
      · obtain ⟨x, hx⟩ : ∃ x, l[j]? = some x := ⟨_, List.getElem?_eq_getElem hlt⟩
        obtain ⟨b0, off, rfl, hb0', g0, g1, g2⟩ := HR0.out.tri hx hbel
        have HN : Hid (chkLFrom none l = (mayL x && after? (if j = 0 then none else l[j - 1]?) x && chkLFrom (some x) (l.drop (j + 1)))) := Lib.hid (by rw [HE.out, drop_cons hx, chkL_cons])
        have HNX : Hid (l[j + 1 - 1]? = some x) := Lib.hid (by simpa using hx)
        have s0 := (hbel.cell (p := ⟨w.heap.size, 0, none⟩) hlt0).trans hc0
        have lw : w.heap.size < wr.heap.size := World.block_lt_of_cell? _ _ s0
        have lb0 : b0 < wr.heap.size := World.block_lt_of_cell? _ _ g0
        have q0 := later_cell lb0 g0
        have q1 := later_cell lb0 g1
        have q2 := later_cell lb0 g2
        have q3 := later_cell lw s0
        have i1 : (j : Int) < (l.length : Int) := by omega
        clear HE hx
        cases hm : mayL x with
        | false =>
          have EE := Lib.hid (E9.out (by rw [HN.out, hm]; rfl))
          have M := fun W => rmay_any x W
          rw [hm] at M
          obtain ⟨tx, lo, hi⟩ := x
          dsimp only at *
          clear HN HNX
          go_wp2_with fail
          (refine wp_region_later (by kernel_rfl) (by kernel_rfl) ?_
           repeat (first | go_big_quiet_step ((go_at_call 37; exact later_of (M _))) | quiet_step ((go_at_call 37; exact later_of (M _))))
           refine wpQuiet_nil ?_
           intro _ hw'
           obtain ⟨qL, hw''⟩ := hw'
           subst hw''
           obtain ⟨wL, h⟩ := qL)
          go_wp2
          go_ret
          exact ⟨ret_int EE.out.symm, hb0.trans ((hbel.trans (h.mono hbel.size)).mono hz0)⟩
        | true =>
          have M := fun W => rmay_any x W
          rw [hm] at M
          by_cases j0 : j = 0
          · subst j0
            have HN2 : Hid (chkLFrom none l = chkLFrom (if 0 + 1 = 0 then none else l[0 + 1 - 1]?) (l.drop (0 + 1))) := Lib.hid (by rw [HN.out, hm, if_pos rfl, if_neg (by omega), HNX.out]; rfl)
            obtain ⟨tx, lo, hi⟩ := x
            dsimp only at *
            simp only [Nat.zero_mul, Nat.add_zero] at q0 q1 q2
            have i2 : (0 : Int) < (l.length : Int) := by omega
            clear HN HNX
            go_wp2_with fail
            (refine wp_region_later (by kernel_rfl) (by kernel_rfl) ?_
             repeat (first | go_big_quiet_step ((go_at_call 37; exact later_of (M _))) | quiet_step ((go_at_call 37; exact later_of (M _))))
             refine wpQuiet_nil ?_
             intro _ hw'
             obtain ⟨qL, hw''⟩ := hw'
             subst hw''
             obtain ⟨wL, h⟩ := qL)
            go_wp2
            go_roundw
            case rel => exact ⟨0 + 1, by omega, by go_num, hbel.trans (h.mono hbel.size), HN2⟩
            case measure => simp [Lib.intOf]; omega
          · obtain ⟨y, hy⟩ : ∃ y, l[j - 1]? = some y := ⟨_, List.getElem?_eq_getElem (by omega)⟩
            obtain ⟨b1, off1, e1, hb1', p0, p1, p2⟩ := HR0.out.tri hy hbel
            obtain ⟨rfl, rfl⟩ : b0 = b1 ∧ off = off1 := by simpa using e1
            have HN2 := Lib.hid (show chkLFrom none l = (decide (lorder y x < 0) && chkLFrom (some x) (l.drop (j + 1))) by rw [HN.out, hm, if_neg j0, hy]; rfl)
            have lb : b0 < wr.heap.size := lb0
            have r0 := later_cell lb p0
            have r1 := later_cell lb p1
            have r2 := later_cell lb p2
            have O : ∀ W, Calls Try.prog 45 #[.agg #[.int .i64 y.tx, .string y.lo, .string y.hi], .agg #[.int .i64 x.tx, .string x.lo, .string x.hi]] W fun e w' => e = .returned (.bool (decide (lorder y x < 0))) ∧ Below W.heap.size W w' := fun W => by rw [← before_order]; exact rbefore_any y x W
            have jj : ((j : Int) - 1) = ((j - 1 : Nat) : Int) := by omega
            have jp : (0 : Int) < (j : Int) := by omega
            have jd : decide ((0 : Int) < (j : Int)) = true := decide_eq_true jp
            have jd2 : decide (0 < j) = true := decide_eq_true (by omega)
            obtain ⟨tx, lo, hi⟩ := x
            obtain ⟨tx', lo', hi'⟩ := y
            dsimp only at *
            clear HN p0 p1 p2 hy
            generalize decide (lorder ⟨tx', lo', hi'⟩ ⟨tx, lo, hi⟩ < 0) = o at *
            cases o with
            | true =>
              have HN3 : Hid (chkLFrom none l = chkLFrom (if j + 1 = 0 then none else l[j + 1 - 1]?) (l.drop (j + 1))) := Lib.hid (by rw [HN2.out, if_neg (by omega), HNX.out]; rfl)
              clear HN2 HNX
              go_wp2_with fail
              (refine wp_region_later (by kernel_rfl) (by kernel_rfl) ?_
               repeat (first | go_big_quiet_step ((first | (go_at_call 37; exact later_of (M _)) | (go_at_call 45; exact later_of (O _)))) | quiet_step ((first | (go_at_call 37; exact later_of (M _)) | (go_at_call 45; exact later_of (O _)))))
               refine wpQuiet_nil ?_
               intro _ hw'
               obtain ⟨qL, hw''⟩ := hw'
               subst hw''
               obtain ⟨wL, h⟩ := qL)
              go_wp2
              go_roundw
              case rel => exact ⟨j + 1, by omega, by go_num, hbel.trans (h.mono hbel.size), HN3⟩
              case measure => simp [Lib.intOf]; omega
            | false =>
              have EE := Lib.hid (E9.out (by rw [HN2.out]; rfl))
              clear HN2 HNX
              go_wp2_with fail
              (refine wp_region_later (by kernel_rfl) (by kernel_rfl) ?_
               repeat (first | go_big_quiet_step ((first | (go_at_call 37; exact later_of (M _)) | (go_at_call 45; exact later_of (O _)))) | quiet_step ((first | (go_at_call 37; exact later_of (M _)) | (go_at_call 45; exact later_of (O _)))))
               refine wpQuiet_nil ?_
               intro _ hw'
               obtain ⟨qL, hw''⟩ := hw'
               subst hw''
               obtain ⟨wL, h⟩ := qL)
              go_wp2
              go_ret
              exact ⟨ret_int EE.out.symm, hb0.trans ((hbel.trans (h.mono hbel.size)).mono hz0)⟩
      · obtain rfl : j = l.length := by omega
        have EE := Lib.hid (E0.out (by rw [HE.out, List.drop_length]; rfl))
        have s0 := (hbel.cell (p := ⟨w.heap.size, 0, none⟩) hlt0).trans hc0
        go_wp2
        go_ret
        exact ⟨ret_int EE.out.symm, hb0.trans (hbel.mono (by omega))⟩
end Go.Proofs.Ytdiclnkkddnncaa
