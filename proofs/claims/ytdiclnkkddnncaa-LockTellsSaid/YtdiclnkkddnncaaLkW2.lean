/- Package lock: join, Check. -/
import Derived.Test.YtdiclnkkddnncaaLkW
namespace Go.Proofs.Ytdiclnkkddnncaa
open Go.RowKit
set_option linter.unusedVariables false
set_option linter.unusedSimpArgs false
@[go_sem] theorem run_min_str2 {P : Program} {w : World} (ts : Array TypeId) (t : TypeId) (x y : ByteArray) : (Builtin.min_ ts t #[.string x, .string y]).run P w = .ok (.string (if Op.bytesLess y.toList x.toList then y else x)) w := by
  cases h : Op.bytesLess y.toList x.toList <;> simp [Builtin.min_, Builtin.min2, Op.stringOp, less_le, h, asBool]
set_option maxHeartbeats 2000000 in
set_option maxRecDepth 100000 in
theorem join_any (x y : Lk) (w : World) : Calls Try.prog 33 #[.agg #[.int .i64 x.tx, .string x.lo, .string x.hi], .agg #[.int .i64 y.tx, .string y.lo, .string y.hi]] w fun e w' => e = .returned (.agg #[.int .i64 (joinL x y).tx, .string (joinL x y).lo, .string (joinL x y).hi]) ∧ Below w.heap.size w w' := by
  obtain ⟨tx, lo, hi⟩ := x
  obtain ⟨tx', lo', hi'⟩ := y
  dsimp only [joinL, minS]
  have C3 := ends_any hi hi'
  generalize endsR hi hi' = c at *
  by_cases hb : lt? lo' lo = true <;> by_cases hc : c < 0
  · rw [if_pos hb, if_pos hc]
    have hb' : Op.bytesLess lo'.toList lo.toList = true := hb
    clear hb
    go_enter Try.func33, Try.ntmps33
    go_wp2_with (refine (C3 _).mono ?_; rintro e wn ⟨rfl, rfl⟩)
    refine bodyPost_ret (v := .agg #[.int .i64 tx, .string lo', .string hi']) (by simp [results, Try.results33, go_sem]) rfl ⟨rfl, ?_⟩
    repeat first | (with_reducible exact Below.refl _ _) | (with_reducible refine Below.setCell ?_ (by first | (simp; done) | (simp; omega)) _) | (with_reducible refine Below.alloc ?_ (by first | (simp; done) | (simp; omega)) _)
  · rw [if_pos hb, if_neg hc]
    have hb' : Op.bytesLess lo'.toList lo.toList = true := hb
    clear hb
    go_enter Try.func33, Try.ntmps33
    go_wp2_with (refine (C3 _).mono ?_; rintro e wn ⟨rfl, rfl⟩)
    refine bodyPost_ret (v := .agg #[.int .i64 tx, .string lo', .string hi]) (by simp [results, Try.results33, go_sem]) rfl ⟨rfl, ?_⟩
    repeat first | (with_reducible exact Below.refl _ _) | (with_reducible refine Below.setCell ?_ (by first | (simp; done) | (simp; omega)) _) | (with_reducible refine Below.alloc ?_ (by first | (simp; done) | (simp; omega)) _)
  · rw [if_neg hb, if_pos hc]
    have hb' : Op.bytesLess lo'.toList lo.toList = false := by simpa [lt?] using hb
    clear hb
    go_enter Try.func33, Try.ntmps33
    go_wp2_with (refine (C3 _).mono ?_; rintro e wn ⟨rfl, rfl⟩)
    refine bodyPost_ret (v := .agg #[.int .i64 tx, .string lo, .string hi']) (by simp [results, Try.results33, go_sem]) rfl ⟨rfl, ?_⟩
    repeat first | (with_reducible exact Below.refl _ _) | (with_reducible refine Below.setCell ?_ (by first | (simp; done) | (simp; omega)) _) | (with_reducible refine Below.alloc ?_ (by first | (simp; done) | (simp; omega)) _)
  · rw [if_neg hb, if_neg hc]
    have hb' : Op.bytesLess lo'.toList lo.toList = false := by simpa [lt?] using hb
    clear hb
    go_enter Try.func33, Try.ntmps33
    go_wp2_with (refine (C3 _).mono ?_; rintro e wn ⟨rfl, rfl⟩)
    refine bodyPost_ret (v := .agg #[.int .i64 tx, .string lo, .string hi]) (by simp [results, Try.results33, go_sem]) rfl ⟨rfl, ?_⟩
    repeat first | (with_reducible exact Below.refl _ _) | (with_reducible refine Below.setCell ?_ (by first | (simp; done) | (simp; omega)) _) | (with_reducible refine Below.alloc ?_ (by first | (simp; done) | (simp; omega)) _)
theorem RowE.tri {w wr : World} {A : Option Addr} {l : List Lk} {j : Nat} {x : Lk} (h : RowE encL 3 w A l) (hx : l[j]? = some x) (hb : Below w.heap.size w wr) :
    ∃ b off, A = some ⟨b, off, none⟩ ∧ b < w.heap.size ∧ wr.cell? ⟨b, off + j * 3, none⟩ = some (.int .i64 x.tx) ∧ wr.cell? ⟨b, off + j * 3 + 1, none⟩ = some (.string x.lo) ∧ wr.cell? ⟨b, off + j * 3 + 2, none⟩ = some (.string x.hi) := by
  obtain ⟨b, off, hA, hlt, hc⟩ := h.atE hx hb
  exact ⟨b, off, hA, hlt, hc 0 _ rfl, hc 1 _ rfl, hc 2 _ rfl⟩
theorem chkL_cons (p : Option Lk) (x : Lk) (l : List Lk) : chkLFrom p (x :: l) = (mayL x && after? p x && chkLFrom (some x) l) := by conv => lhs; unfold chkLFrom
set_option maxHeartbeats 4000000 in
set_option maxRecDepth 100000 in
theorem lcheck_any (A : Option Addr) (c : Nat) (l : List Lk) (w : World) (HR : RowE encL 3 w A l) (hl : l.length ≤ 140737488355328) :
    Calls Try.prog 13 #[.agg #[.slice A l.length c]] w fun e w' => e = .returned (.int .i64 (chkL l)) ∧ Below w.heap.size w w' := by
  have HR' := Lib.hid HR
  clear HR
  by_cases h512 : 512 < l.length
  · have e : chkL l = 9 := by unfold chkL; rw [if_pos h512]
    rw [e]
    go_enter Try.func13, Try.ntmps13
    go_wp2
    go_ret
    exact ⟨rfl, (by (repeat (first | (with_reducible exact Below.refl _ _) | apply below_alloc _ (Nat.le_refl _) | refine below_set ?_ (by first | exact Nat.le_refl _ | omega) | apply below_drewN | refine below_step ?_ HB)))⟩
  · have E9 : Hid (chkLFrom none l = false → chkL l = 9) := Lib.hid (fun h => by unfold chkL; rw [if_neg h512, h]; rfl)
    have E0 : Hid (chkLFrom none l = true → chkL l = 0) := Lib.hid (fun h => by unfold chkL; rw [if_neg h512, h]; rfl)
    have a1 : ¬ (512 : Int) < (l.length : Int) := by omega
    generalize chkL l = r at *
    go_enter Try.func13, Try.ntmps13
    go_wp2_with fail
    have hb0 : Below w.heap.size w (w.alloc (.cells #[.slice A l.length c] 30)) := (by (repeat (first | (with_reducible exact Below.refl _ _) | apply below_alloc _ (Nat.le_refl _) | refine below_set ?_ (by first | exact Nat.le_refl _ | omega) | apply below_drewN | refine below_step ?_ HB)))
    have hc0 : (w.alloc (.cells #[.slice A l.length c] 30)).cell? ⟨w.heap.size, 0, none⟩ = some (.slice A l.length c) := by go_simp
    have hw0 := HR'.out.below hb0
    generalize w.alloc (.cells #[.slice A l.length c] 30) = w0 at *
    have HR0 := Lib.hid hw0
    have hlt0 : w.heap.size < w0.heap.size := World.block_lt_of_cell? _ _ hc0
    have hz0 : w.heap.size ≤ w0.heap.size := by omega
    clear hw0 HR'
    go_loopw [12] (fun i wr => ∃ j : Nat, j ≤ l.length ∧ i = .int .i64 j ∧ Below w0.heap.size w0 wr ∧ Hid (chkLFrom none l = chkLFrom (if j = 0 then none else l[j - 1]?) (l.drop j))) (fun i _ => l.length - (Lib.intOf i).toNat)
    case atStart => exact ⟨0, Nat.zero_le _, rfl, Below.refl _ _, Lib.hid (by simp)⟩
    case round =>
      obtain ⟨j, hj, rfl, hbel, HE⟩ := hrel
      by_cases hlt : j < l.length
      · obtain ⟨x, hx⟩ : ∃ x, l[j]? = some x := ⟨_, List.getElem?_eq_getElem hlt⟩
        obtain ⟨b0, off, rfl, hb0', g0, g1, g2⟩ := HR0.out.tri hx hbel
        have HN : Hid (chkLFrom none l = (mayL x && after? (if j = 0 then none else l[j - 1]?) x && chkLFrom (some x) (l.drop (j + 1)))) := Lib.hid (by rw [HE.out, drop_cons hx, chkL_cons])
        have HNX : Hid (l[j + 1 - 1]? = some x) := Lib.hid (by simpa using hx)
        have W4 : Below wr.heap.size wr (wr.alloc (.cells #[.int .i64 x.tx, .string x.lo, .string x.hi] 35)) := (Below.refl _ _).alloc (Nat.le_refl _) _
        have hb4 := hbel.alloc hbel.size (.cells #[.int .i64 x.tx, .string x.lo, .string x.hi] 35)
        have s0 := (hb4.cell (p := ⟨w.heap.size, 0, none⟩) hlt0).trans hc0
        have l4 : wr.heap.size < (wr.alloc (.cells #[.int .i64 x.tx, .string x.lo, .string x.hi] 35)).heap.size := by simp
        have lh : w.heap.size < (wr.alloc (.cells #[.int .i64 x.tx, .string x.lo, .string x.hi] 35)).heap.size := by have := hbel.size; simp; omega
        have q0 := later_cell (a := ⟨wr.heap.size, 0, none⟩) (v := .int .i64 x.tx) l4 (by go_simp)
        have q1 := later_cell (a := ⟨wr.heap.size, 1, none⟩) (v := .string x.lo) l4 (by go_simp)
        have q2 := later_cell (a := ⟨wr.heap.size, 2, none⟩) (v := .string x.hi) l4 (by go_simp)
        have q3 := later_cell lh s0
        clear HE hx
        cases hm : mayL x with
        | false =>
          have EE := Lib.hid (E9.out (by rw [HN.out, hm]; rfl))
          have M := fun W => may_any x W
          rw [hm] at M
          obtain ⟨tx, lo, hi⟩ := x
          dsimp only at *
          clear HN HNX
          go_wp2_with fail
          (refine wp_region_later (by kernel_rfl) (by kernel_rfl) ?_
           repeat (first | go_big_quiet_step ((go_at_call 26; exact later_of (M _))) | quiet_step ((go_at_call 26; exact later_of (M _))))
           refine wpQuiet_nil ?_
           intro _ hw'
           obtain ⟨qL, hw''⟩ := hw'
           subst hw''
           obtain ⟨wL, h⟩ := qL)
          go_wp2
          go_ret
          exact ⟨ret_int EE.out.symm, hb0.trans ((hb4.trans (h.mono hb4.size)).mono hz0)⟩
        | true =>
          have M := fun W => may_any x W
          rw [hm] at M
          by_cases j0 : j = 0
          · subst j0
            have HN2 : Hid (chkLFrom none l = chkLFrom (if 0 + 1 = 0 then none else l[0 + 1 - 1]?) (l.drop (0 + 1))) := Lib.hid (by rw [HN.out, hm, if_pos rfl, if_neg (by omega), HNX.out]; rfl)
            obtain ⟨tx, lo, hi⟩ := x
            dsimp only at *
            simp only [Nat.zero_mul, Nat.add_zero] at g0 g1 g2
            clear HN HNX
            go_wp2_with fail
            (refine wp_region_later (by kernel_rfl) (by kernel_rfl) ?_
             repeat (first | go_big_quiet_step ((go_at_call 26; exact later_of (M _))) | quiet_step ((go_at_call 26; exact later_of (M _))))
             refine wpQuiet_nil ?_
             intro _ hw'
             obtain ⟨qL, hw''⟩ := hw'
             subst hw''
             obtain ⟨wL, h⟩ := qL)
            go_wp2
            go_roundw
            case rel => exact ⟨0 + 1, by omega, by go_num, hb4.trans (h.mono hb4.size), HN2⟩
            case measure => simp [Lib.intOf]; omega
          · obtain ⟨y, hy⟩ : ∃ y, l[j - 1]? = some y := ⟨_, List.getElem?_eq_getElem (by omega)⟩
            obtain ⟨b1, off1, e1, hb1', p0, p1, p2⟩ := HR0.out.tri hy hb4
            obtain ⟨rfl, rfl⟩ : b0 = b1 ∧ off = off1 := by simpa using e1
            have HN2 := Lib.hid (show chkLFrom none l = (decide (lorder y x < 0) && chkLFrom (some x) (l.drop (j + 1))) by rw [HN.out, hm, if_neg j0, hy]; rfl)
            have lb : b0 < (wr.alloc (.cells #[.int .i64 x.tx, .string x.lo, .string x.hi] 35)).heap.size := by have := hbel.size; simp; omega
            have r0 := later_cell lb p0
            have r1 := later_cell lb p1
            have r2 := later_cell lb p2
            have O := fun W => lorder_any y x W
            have jj : ((j : Int) - 1) = ((j - 1 : Nat) : Int) := by omega
            have jp : (0 : Int) < (j : Int) := by omega
            have jd : decide ((0 : Int) < (j : Int)) = true := decide_eq_true jp
            have jd2 : decide (0 < j) = true := decide_eq_true (by omega)
            obtain ⟨tx, lo, hi⟩ := x
            obtain ⟨tx', lo', hi'⟩ := y
            dsimp only at *
            clear HN p0 p1 p2 hy
            generalize lorder ⟨tx', lo', hi'⟩ ⟨tx, lo, hi⟩ = o at *
            by_cases ho : o < 0
            · have HN3 : Hid (chkLFrom none l = chkLFrom (if j + 1 = 0 then none else l[j + 1 - 1]?) (l.drop (j + 1))) := Lib.hid (by rw [HN2.out, decide_eq_true ho, if_neg (by omega), HNX.out]; rfl)
              have ho' : decide (0 ≤ o) = false := decide_eq_false (by omega)
              clear HN2 HNX
              go_wp2_with fail
              (refine wp_region_later (by kernel_rfl) (by kernel_rfl) ?_
               repeat (first | go_big_quiet_step ((first | (go_at_call 26; exact later_of (M _)) | (go_at_call 35; exact later_of (O _)))) | quiet_step ((first | (go_at_call 26; exact later_of (M _)) | (go_at_call 35; exact later_of (O _)))))
               refine wpQuiet_nil ?_
               intro _ hw'
               obtain ⟨qL, hw''⟩ := hw'
               subst hw''
               obtain ⟨wL, h⟩ := qL)
              go_wp2
              go_roundw
              case rel => exact ⟨j + 1, by omega, by go_num, hb4.trans (h.mono hb4.size), HN3⟩
              case measure => simp [Lib.intOf]; omega
            · have EE := Lib.hid (E9.out (by rw [HN2.out, decide_eq_false ho]; rfl))
              clear HN2 HNX
              go_wp2_with fail
              (refine wp_region_later (by kernel_rfl) (by kernel_rfl) ?_
               repeat (first | go_big_quiet_step ((first | (go_at_call 26; exact later_of (M _)) | (go_at_call 35; exact later_of (O _)))) | quiet_step ((first | (go_at_call 26; exact later_of (M _)) | (go_at_call 35; exact later_of (O _)))))
               refine wpQuiet_nil ?_
               intro _ hw'
               obtain ⟨qL, hw''⟩ := hw'
               subst hw''
               obtain ⟨wL, h⟩ := qL)
              go_wp2
              go_ret
              exact ⟨ret_int EE.out.symm, hb0.trans ((hb4.trans (h.mono hb4.size)).mono hz0)⟩
      · obtain rfl : j = l.length := by omega
        have EE := Lib.hid (E0.out (by rw [HE.out, List.drop_length]; rfl))
        go_wp2
        go_ret
        exact ⟨ret_int EE.out.symm, hb0.trans (hbel.mono (by omega))⟩
end Go.Proofs.Ytdiclnkkddnncaa
