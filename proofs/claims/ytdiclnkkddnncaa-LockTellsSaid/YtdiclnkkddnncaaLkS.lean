/- Package lock: slices.BinarySearchFunc with order. -/
import Derived.Test.YtdiclnkkddnncaaCloW
import Derived.Test.YtdiclnkkddnncaaLkO
namespace Go.Proofs.Ytdiclnkkddnncaa
open Go.RowKit
open Go.Shelf
set_option linter.unusedVariables false
set_option linter.unusedSimpArgs false
set_option maxHeartbeats 4000000 in
set_option maxRecDepth 100000 in
/-- Where a lock would stand. -/
theorem search_any (A : Option Addr) (c : Nat) (l : List Lk) (x : Lk) (w : World) (HR : RowE encL 3 w A l) (hs : Inc l) (hl : l.length ≤ 1000) :
    Calls Try.prog 47 #[.slice A l.length c, .agg #[.int .i64 x.tx, .string x.lo, .string x.hi], .func (.func 35) #[] #[]] w fun e w' => ∃ i : Nat, ∃ ok : Bool, e = .returned (.tuple #[.int .i64 i, .bool ok]) ∧ i ≤ l.length ∧ (∀ (k : Nat) (y : Lk), k < i → l[k]? = some y → llt y x) ∧ (∀ (k : Nat) (y : Lk), i ≤ k → l[k]? = some y → ¬ llt y x) ∧ Below w.heap.size w w' := by
  have eg : ∀ args w, (callFunc 35 args).run Try.prog w = .ok (.enter 35 args) w := enters_of Try.func35 (by kernel_rfl) rfl
  have HR0 := Lib.hid HR
  have HS := Lib.hid hs
  have OR := fun y W => lorder_any y x W
  have ON := Lib.hid (fun y => lorder_neg y x)
  have hb0 : Below w.heap.size w (w.alloc (.cells #[.int .i64 x.tx, .string x.lo, .string x.hi] 35)) := (by (repeat (first | (with_reducible exact Below.refl _ _) | apply below_alloc _ (Nat.le_refl _) | refine below_set ?_ (by first | exact Nat.le_refl _ | omega) | apply below_drewN | refine below_step ?_ HB)))
  have HB := Box3.new w (.int .i64 x.tx) (.string x.lo) (.string x.hi) 35
  have HR' := Lib.hid (HR.below hb0)
  clear HR hs HR0
  obtain ⟨tx, lo', hi'⟩ := x
  dsimp only at OR HB hb0 HR'
  go_enter Try.func47, Try.ntmps47
  go_wp2_with fail
  generalize w.alloc (.cells #[.int .i64 tx, .string lo', .string hi'] 35) = w0 at *
  have hz0 := hb0.size
  go_loopw [9, 10] (fun s9 s10 wr => ∃ lo hi : Nat, s9 = .int .i64 lo ∧ s10 = .int .i64 hi ∧ lo ≤ hi ∧ hi ≤ l.length ∧ Hid ((∀ (k : Nat) (y : Lk), k < lo → l[k]? = some y → llt y ⟨tx, lo', hi'⟩) ∧ (∀ (k : Nat) (y : Lk), hi ≤ k → l[k]? = some y → ¬ llt y ⟨tx, lo', hi'⟩)) ∧ Below w0.heap.size w0 wr) (fun s9 s10 _ => (Lib.intOf s10).toNat - (Lib.intOf s9).toNat)
  case atStart => exact ⟨0, l.length, rfl, rfl, Nat.zero_le _, Nat.le_refl _, Lib.hid ⟨fun k y h => absurd h (Nat.not_lt_zero _), fun k y h h2 => absurd (lt_of_get h2) (by omega)⟩, Below.refl _ _⟩
  case round =>
    obtain ⟨lo, hi, rfl, rfl, hlh, hin, HE, hbel⟩ := hrel
    have HBr := HB.below hbel HB.lt
    have q0 := later_cell HBr.lt HBr.c0
    have q1 := later_cell HBr.lt HBr.c1
    have q2 := later_cell HBr.lt HBr.c2
    clear HBr
    by_cases hlt : lo < hi
    · obtain ⟨y, hy⟩ : ∃ y, l[(lo + hi) / 2]? = some y := ⟨_, List.getElem?_eq_getElem (by omega)⟩
      obtain ⟨b0, off, rfl, hb0', g0, g1, g2⟩ := HR'.out.tri hy hbel
      have lb : b0 < wr.heap.size := by have := hbel.size; omega
      have p0 := later_cell lb g0
      have p1 := later_cell lb g1
      have p2 := later_cell lb g2
      have O := fun W => OR y W
      have N := ON.out y
      have HX := Lib.hid hy
      clear hy g0 g1 g2 OR
      by_cases q : llt y ⟨tx, lo', hi'⟩
      · have hn := N.2 q
        have LO : Hid (∀ (k : Nat) (z : Lk), k < (lo + hi) / 2 + 1 → l[k]? = some z → llt z ⟨tx, lo', hi'⟩) := Lib.hid (fun k z hk hz => by
          by_cases e : k = (lo + hi) / 2
          · subst e; rw [HX.out] at hz; cases hz; exact q
          · exact llt_trans (inc_get HS.out hz HX.out (by omega)) q)
        clear N q
        obtain ⟨ytx, ylo, yhi⟩ := y
        dsimp only at *
        generalize lorder ⟨ytx, ylo, yhi⟩ ⟨tx, lo', hi'⟩ = o at *
        have hd : decide (o < 0) = true := decide_eq_true hn
        go_wp2_with fail
        (refine wp_region_later (by kernel_rfl) (by kernel_rfl) ?_
         repeat (first | go_big_quiet_step ((go_at_fn 35; exact later_of (O _))) | quiet_step ((go_at_fn 35; exact later_of (O _))))
         refine wpQuiet_nil ?_
         intro _ hw'
         obtain ⟨qL, hw''⟩ := hw'
         subst hw''
         obtain ⟨wL, h⟩ := qL)
        go_wp2
        go_roundw
        case rel => exact ⟨(lo + hi) / 2 + 1, hi, by rw [show ((lo : Int) + (hi : Int)) / 2 + 1 = (((lo + hi) / 2 + 1 : Nat) : Int) by omega], rfl, by omega, hin, Lib.hid ⟨LO.out, HE.out.2⟩, below_step' hbel h⟩
        case measure => simp [Lib.intOf]; omega
      · have hn : ¬ lorder y ⟨tx, lo', hi'⟩ < 0 := fun h => q (N.1 h)
        have LO : Hid (∀ (k : Nat) (z : Lk), (lo + hi) / 2 ≤ k → l[k]? = some z → ¬ llt z ⟨tx, lo', hi'⟩) := Lib.hid (fun k z hk hz hzz => by
          by_cases e : k = (lo + hi) / 2
          · subst e; rw [HX.out] at hz; cases hz; exact q hzz
          · exact q (llt_trans (inc_get HS.out HX.out hz (by omega)) hzz))
        clear N q
        obtain ⟨ytx, ylo, yhi⟩ := y
        dsimp only at *
        generalize lorder ⟨ytx, ylo, yhi⟩ ⟨tx, lo', hi'⟩ = o at *
        have hd : decide (o < 0) = false := decide_eq_false hn
        go_wp2_with fail
        (refine wp_region_later (by kernel_rfl) (by kernel_rfl) ?_
         repeat (first | go_big_quiet_step ((go_at_fn 35; exact later_of (O _))) | quiet_step ((go_at_fn 35; exact later_of (O _))))
         refine wpQuiet_nil ?_
         intro _ hw'
         obtain ⟨qL, hw''⟩ := hw'
         subst hw''
         obtain ⟨wL, h⟩ := qL)
        go_wp2
        go_roundw
        case rel => exact ⟨lo, (lo + hi) / 2, rfl, by rw [show ((lo : Int) + (hi : Int)) / 2 = (((lo + hi) / 2 : Nat) : Int) by omega], by omega, by omega, Lib.hid ⟨HE.out.1, LO.out⟩, below_step' hbel h⟩
        case measure => simp [Lib.intOf]; omega
    · obtain rfl : hi = lo := by omega
      by_cases hn : hi < l.length
      · obtain ⟨y, hy⟩ : ∃ y, l[hi]? = some y := ⟨_, List.getElem?_eq_getElem hn⟩
        obtain ⟨b0, off, rfl, hb0', g0, g1, g2⟩ := HR'.out.tri hy hbel
        have lb : b0 < wr.heap.size := by have := hbel.size; omega
        have p0 := later_cell lb g0
        have p1 := later_cell lb g1
        have p2 := later_cell lb g2
        have O := fun W => OR y W
        clear hy g0 g1 g2 OR
        obtain ⟨ytx, ylo, yhi⟩ := y
        dsimp only at *
        generalize lorder ⟨ytx, ylo, yhi⟩ ⟨tx, lo', hi'⟩ = o at *
        have hd : decide ((hi : Int) < (l.length : Int)) = true := decide_eq_true (by omega)
        go_wp2_with fail
        (refine wp_region_later (by kernel_rfl) (by kernel_rfl) ?_
         repeat (first | go_big_quiet_step ((go_at_fn 35; exact later_of (O _))) | quiet_step ((go_at_fn 35; exact later_of (O _))))
         refine wpQuiet_nil ?_
         intro _ hw'
         obtain ⟨qL, hw''⟩ := hw'
         subst hw''
         obtain ⟨wL, h⟩ := qL)
        go_wp2
        exact bodyPost_ret (v := .tuple #[.int .i64 hi, .bool (o == 0)]) (by simp [results, Try.results47, go_sem]) rfl ⟨hi, _, rfl, hin, HE.out.1, HE.out.2, hb0.trans ((below_step' hbel h).mono hz0)⟩
      · have hd : decide ((hi : Int) < (l.length : Int)) = false := decide_eq_false (by omega)
        clear OR
        go_wp2_with fail
        (refine wp_region_later (by kernel_rfl) (by kernel_rfl) ?_
         repeat (first | go_big_quiet_step (fail) | quiet_step (fail))
         refine wpQuiet_nil ?_
         intro _ hw'
         obtain ⟨qL, hw''⟩ := hw'
         subst hw''
         obtain ⟨wL, h⟩ := qL)
        go_wp2
        exact bodyPost_ret (v := .tuple #[.int .i64 hi, .bool false]) (by simp [results, Try.results47, go_sem]) rfl ⟨hi, _, rfl, hin, HE.out.1, HE.out.2, hb0.trans ((below_step' hbel h).mono hz0)⟩
end Go.Proofs.Ytdiclnkkddnncaa
