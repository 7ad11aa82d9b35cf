/- The law LockMay: its walk. -/
import Derived.Test.YtdiclnkkddnncaaAliveL
import Derived.Test.YtdiclnkkddnncaaLkM
namespace Go.Proofs.Ytdiclnkkddnncaa
open Go.RowKit
open Go.Shelf
set_option linter.unusedVariables false
set_option linter.unusedSimpArgs false
attribute [local go_sem high] eqLk
theorem Box3.drew' {w : World} {b : Nat} {x y z : Value} (h : Box3 w b x y z) : Box3 w.drew b x y z := ⟨h.c0, h.c1, h.c2, h.f0, h.f1, h.f2, h.lt⟩
theorem below_undrew {w w' : World} (h : Below w.drew.heap.size w.drew w') : Below w.heap.size w w' := ⟨h.os, h.tape, h.output, h.size, h.block⟩
set_option maxHeartbeats 4000000 in
set_option maxRecDepth 100000 in
theorem may_law (A : Option Addr) (c : Nat) (l : List Lk) (x : Lk) (w : World) (HR : RowE encL 3 w A l) (hl : l.length * 40 ≤ 140737488351232) :
    Calls Try.prog 3 #[.agg #[.slice A l.length c], .agg #[.int .i64 x.tx, .string x.lo, .string x.hi]] w fun e w' => e = .returned (.bool true) ∧ Below w.heap.size w w' := by
  have B2 := (Box1.new w (.slice A l.length c) 24).alloc (.cells #[.int .i64 x.tx, .string x.lo, .string x.hi] 26)
  have B3 := Box3.new (w.alloc (.cells #[.slice A l.length c] 24)) (.int .i64 x.tx) (.string x.lo) (.string x.hi) 26
  have ba : Below w.heap.size w ((w.alloc (.cells #[.slice A l.length c] 24)).alloc (.cells #[.int .i64 x.tx, .string x.lo, .string x.hi] 26)) := (by (repeat (first | (with_reducible exact Below.refl _ _) | apply below_alloc _ (Nat.le_refl _) | refine below_set ?_ (by first | exact Nat.le_refl _ | omega) | apply below_drewN | refine below_step ?_ HB)))
  have hal := alive_any ((w.alloc (.cells #[.slice A l.length c] 24)).alloc (.cells #[.int .i64 x.tx, .string x.lo, .string x.hi] 26))
  have HR0 := Lib.hid (HR.below ba)
  simp only [World.size_alloc] at B3
  clear HR
  go_enter Try.func3, Try.ntmps3
  go_wp2_with fail
  refine hal.mono ?_; rintro e wq ⟨rfl, h1⟩
  have HB2 := B2.step h1
  have HB3 := B3.below h1 B3.lt
  have HR1 := Lib.hid (HR0.out.below h1)
  have HF1 := ba.trans (h1.mono (by simp; omega))
  clear hal h1 HR0 B2 B3 ba
  have hof := fun (W : World) (h : RowE encL 3 W A l) => of_any A c l W h hl
  have hl2 : l.length ≤ 140737488355328 := by omega
  have had := fun (W : World) (A0 : Option Addr) (c0 : Nat) (h : RowE encL 3 W A0 l) (hn : A0 = none → c0 = 0) => add_any A0 c0 l x W h hn hl2
  have HOF := Lib.hid hof
  have HAD := Lib.hid had
  have HB2' := Lib.hid HB2
  have HB3' := Lib.hid HB3
  clear hof had hl2
  obtain ⟨c20, f20, l2⟩ := HB2
  obtain ⟨c30, c31, c32, f30, f31, f32, l3⟩ := HB3
  have Wn : Below wq.heap.size wq (wq.alloc (.cells #[.slice none 0 0] 30)) := (Below.refl _ _).alloc (Nat.le_refl _) _
  have HWn := Lib.hid Wn
  clear Wn
  go_wp2_with fail
  go_cut [5, 6] (fun p e wx => ∃ b A' c', p = .pointer (some ⟨b, 0, none⟩) ∧ e = .int .i64 (addL l x).2 ∧ Box1 wx b (.slice A' (addL l x).1.length c') ∧ Hid (RowE encL 3 wx A' (addL l x).1) ∧ (A' = none → c' = 0) ∧ Hid (Below wq.heap.size wq wx))
  case first =>
    go_region_with (first
      | (go_at_call 11; with_reducible refine (HOF.out wq.drew (RowE.drew HR1.out)).mono ?_; rintro e wn ⟨v0, rfl, hv0, h0⟩
         obtain ⟨A0, c0, rfl, hr0, hn0, _⟩ := hv0.outL
         have m1 := below_undrew h0
         have M1 := Lib.hid m1
         have R0 := Lib.hid hr0
         obtain ⟨d30, d31, d32, _, _, _, ld⟩ := HB3'.out.below m1 l3
         clear hr0 hv0 h0)
      | (go_at_call 11; with_reducible refine (HOF.out (wq.alloc (.cells #[.slice none 0 0] 30)).drew (RowE.drew (HR1.out.below HWn.out))).mono ?_; rintro e wn ⟨v0, rfl, hv0, h0⟩
         obtain ⟨A0, c0, rfl, hr0, hn0, _⟩ := hv0.outL
         have m2 := below_undrew h0
         have M2 := Lib.hid m2
         have R0 := Lib.hid hr0
         have BD := Lib.hid ((Box1.new wq (.slice none 0 0) 30).step m2)
         obtain ⟨d30, d31, d32, _, _, _, ld⟩ := HB3'.out.below (below_step' HWn.out m2) l3
         clear hr0 hv0 h0)
      | (go_at_call 10; with_reducible refine (HAD.out wn A0 c0 R0.out hn0).mono ?_; rintro e wm ⟨v4, rfl, hv4, h4⟩
         have Q4 := Lib.hid h4
         obtain ⟨A4, c4, rfl, hr4, hn4, hN4⟩ := hv4.outL
         have R4 := Lib.hid hr4
         have hm4 := M1
         have HX := Lib.hid (below_step' M1.out h4)
         clear hr4 hv4 h4)
      | (go_at_call 10; with_reducible refine (HAD.out wn A0 c0 R0.out hn0).mono ?_; rintro e wm ⟨v4, rfl, hv4, h4⟩
         have Q4 := Lib.hid h4
         obtain ⟨A4, c4, rfl, hr4, hn4, hN4⟩ := hv4.outL
         have R4 := Lib.hid hr4
         have hm4 := M2
         have HX := Lib.hid (below_step' (below_step' HWn.out M2.out) h4)
         have hlq : wq.heap.size < wn.heap.size := BD.out.lt
         have BE := Lib.hid (BD.out.step h4)
         obtain ⟨x0, y0, lb⟩ := id BE.out
         clear hr4 hv4 h4)
      | (go_at_call 10; with_reducible refine (HAD.out (wn.alloc (.cells #[.slice none 0 0] 30)) A0 c0 (R0.out.below ((Below.refl wn.heap.size wn).alloc (Nat.le_refl _) _)) hn0).mono ?_; rintro e wm ⟨v4, rfl, hv4, h4⟩
         have Q4 := Lib.hid h4
         obtain ⟨A4, c4, rfl, hr4, hn4, hN4⟩ := hv4.outL
         have R4 := Lib.hid hr4
         have hm4 := M1
         have HX := Lib.hid (below_step' (M1.out.alloc M1.out.size (.cells #[.slice none 0 0] 30)) h4)
         have BE := Lib.hid ((Box1.new wn (.slice none 0 0) 30).step h4)
         obtain ⟨x0, y0, lb⟩ := id BE.out
         clear hr4 hv4 h4))
    all_goals
      go_wp2_with fail
      go_meet
      first
        | exact ⟨_, A4, c4, rfl, rfl, Box1.new _ _ _, Lib.hid (R4.out.below ((Below.refl wm.heap.size wm).alloc (Nat.le_refl _) _)), hn4, Lib.hid (HX.out.alloc HX.out.size _)⟩
        | exact ⟨_, A4, c4, rfl, rfl, (Box1.new wm _ _).set0 _, Lib.hid (R4.out.below (Below.setCell ((Below.refl wm.heap.size wm).alloc (Nat.le_refl _) _) (Nat.le_refl _) _)), hn4, Lib.hid (Below.setCell (HX.out.alloc HX.out.size _) HX.out.size _)⟩
        | exact ⟨_, A4, c4, rfl, rfl, BE.out.set0 _, Lib.hid (R4.out.set hN4 _ _ hlq), hn4, Lib.hid (Below.setCell HX.out (Nat.le_refl _) _)⟩
        | exact ⟨_, A4, c4, rfl, rfl, BE.out.set0 _, Lib.hid (R4.out.set hN4 _ _ (by simp)), hn4, Lib.hid (Below.setCell HX.out (M1.out.size) _)⟩
  case rest =>
    obtain ⟨b5, A5, c5, rfl, rfl, HB5, HR5, hn5, HW5⟩ := hcut
    have OKC : Hid ((addL l x).2 = 0 → chkL (addL l x).1 = 0 ∧ addL (addL l x).1 x = ((addL l x).1, 0)) := Lib.hid (fun h => ⟨add_chk h, add_again h⟩)
    have BAD : Hid ((addL l x).2 ≠ 0 → (addL l x).1 = []) := Lib.hid add_bad
    generalize (addL l x).2 = e at *
    generalize (addL l x).1 = r at *
    have hF5 := HF1.trans (HW5.out.mono HF1.size)
    have HC3 := HB3'.out.below HW5.out HB3'.out.lt
    clear c20 f20 l2 c30 c31 c32 f30 f31 f32 l3 HOF HAD HB2' HB3' HWn HR1 HF1 HW5
    have HB5' := Lib.hid HB5
    have HC3' := Lib.hid HC3
    obtain ⟨c50, f50, l5⟩ := HB5
    obtain ⟨c30, c31, c32, f30, f31, f32, l3⟩ := HC3
    by_cases he : e = 0
    · subst he
      obtain ⟨hck, hag⟩ := OKC.out (by trivial)
      have hrl : r.length ≤ 512 := ((chkL_iff r).1 hck).1
      have hadd := add_any A5 c5 r x wc HR5.out hn5 (by omega)
      rw [hag] at hadd
      dsimp only at hadd
      have HCK := Lib.hid hck
      clear OKC BAD hag hck
      go_wp2_with (refine (num_any _ _).mono ?_; rintro e wn ⟨rfl, rfl⟩)
      refine hadd.mono ?_; rintro e w6 ⟨v6, rfl, hv6, h6⟩
      obtain ⟨A6, c6, rfl, hr6, hn6, _⟩ := hv6.outL
      have W7 : Below w6.heap.size w6 (w6.alloc (.cells #[.slice A6 r.length c6] 30)) := (Below.refl _ _).alloc (Nat.le_refl _) _
      have B5 := (HB5'.out.step h6).alloc (.cells #[.slice A6 r.length c6] 30)
      have B7 := Lib.hid (Box1.new w6 (.slice A6 r.length c6) 30)
      have R5 := Lib.hid ((HR5.out.below h6).below W7)
      have R6 := Lib.hid (hr6.below W7)
      have hF7 := (hF5.trans (h6.mono hF5.size)).alloc (hF5.trans (h6.mono hF5.size)).size (.cells #[.slice A6 r.length c6] 30)
      have hchk := lcheck_any A5 c5 r _ R5.out (by omega)
      rw [HCK.out] at hchk
      have B5' := Lib.hid B5
      clear c50 f50 l5 c30 c31 c32 f30 f31 f32 l3 hadd hv6 hr6 h6 W7 HB5' HC3' HR5 hF5
      obtain ⟨c50, f50, l5⟩ := B5
      have hw7 : (w6.alloc (.cells #[.slice A6 r.length c6] 30)).heap.size = w6.heap.size + 1 := by simp
      go_wp2_with (first | (with_reducible refine (num_any _ _).mono ?_; rintro e wn ⟨rfl, rfl⟩) | (refine hchk.mono ?_; rintro e w8 ⟨rfl, h8⟩; have D5 := B5'.out.step h8; have D7 := B7.out.step h8; have H8 := Lib.hid h8; clear c50 f50 l5 hchk h8; obtain ⟨c50, f50, l5⟩ := D5; obtain ⟨c70, f70, l7⟩ := D7))
      go_loopw [9] (fun i wr => ∃ m : Nat, m ≤ r.length ∧ i = .int .i64 m ∧ Below w8.heap.size w8 wr) (fun i _ => r.length - (Lib.intOf i).toNat)
      case atStart => exact ⟨0, Nat.zero_le _, rfl, Below.refl _ _⟩
      case round =>
        obtain ⟨m, hm, rfl, hbr⟩ := hrel
        have h87 := H8.out.trans (hbr.mono H8.out.size)
        clear c50 f50 l5 c70 f70 l7
        obtain ⟨c50, f50, l5⟩ := B5'.out.step h87
        obtain ⟨c70, f70, l7⟩ := B7.out.step h87
        by_cases hlm : m < r.length
        · obtain ⟨y, hy⟩ : ∃ y, r[m]? = some y := ⟨_, List.getElem?_eq_getElem hlm⟩
          obtain ⟨ba, oa, rfl, _, g0, g1, g2⟩ := R5.out.tri hy h87
          obtain ⟨bb, ob, rfl, _, k0, k1, k2⟩ := R6.out.tri hy h87
          clear hy
          obtain ⟨ty, yl, yh⟩ := y
          dsimp only at g0 g1 g2 k0 k1 k2
          have hs : sameLB ty yl yh ty yl yh = true := by simp [sameLB]
          go_wp2_with fail
          go_quiet (fail)
          go_wp2
          go_roundw
          case rel => exact ⟨m + 1, by omega, by go_num, below_drewN hbr _⟩
          case measure => simp [Lib.intOf]; omega
        · obtain rfl : m = r.length := by omega
          go_wp2
          go_ret
          exact ⟨rfl, hF7.trans (h87.mono hF7.size)⟩
    · have he' : (e == 0) = false := by simpa using he
      obtain rfl := BAD.out he
      clear OKC BAD
      go_wp2_with (refine (num_any _ _).mono ?_; rintro e wn ⟨rfl, rfl⟩)
      go_ret
      exact ⟨rfl, hF5⟩
end Go.Proofs.Ytdiclnkkddnncaa
