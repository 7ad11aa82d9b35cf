/- The law LockTurns: its walk. (Printed by gen16.py.) -/
import Derived.Test.YtdiclnkkddnncaaAliveL
import Derived.Test.YtdiclnkkddnncaaMayL
import Derived.Test.YtdiclnkkddnncaaRdL
namespace Go.Proofs.Ytdiclnkkddnncaa
open Go.RowKit
open Go.Shelf
set_option linter.unusedVariables false
set_option linter.unusedSimpArgs false
theorem add_len (l : List Lk) (x : Lk) : (addL l x).1.length ≤ 512 := by
  by_cases h : (addL l x).2 = 0
  · exact ((chkL_iff _).1 (add_chk h)).1
  · rw [add_bad h]; simp
theorem turns_cov {l : List Lk} {x y : Lk} (h1 : (addL l x).2 = 0) (h2 : (addL (addL l x).1 y).2 = 0) (h3 : (addL l y).2 = 0) (h4 : (addL (addL l y).1 x).2 = 0) (t : Int) (k : ByteArray) :
    covT (addL (addL l x).1 y).1 t k = covT (addL (addL l y).1 x).1 t k := by
  have e1 := add_cov h2 t k
  have e2 := add_cov h4 t k
  rw [add_cov h1 t k] at e1
  rw [add_cov h3 t k] at e2
  rw [Bool.eq_iff_iff, e1, e2]
  constructor <;> rintro (h | h | h) <;> simp [h]
set_option maxHeartbeats 40000000 in
set_option maxRecDepth 100000 in
theorem turn_law (A : Option Addr) (c : Nat) (l : List Lk) (x y : Lk) (key : ByteArray) (w : World) (HR : RowE encL 3 w A l) (hl : l.length * 40 ≤ 140737488351232) (hk : key.size ≤ 140737488351232) :
    Calls Try.prog 5 #[.agg #[.slice A l.length c], .agg #[.int .i64 x.tx, .string x.lo, .string x.hi], .agg #[.int .i64 y.tx, .string y.lo, .string y.hi], .string key] w fun e w' => e = .returned (.bool true) ∧ Below w.heap.size w w' := by
  have BS := Lib.hid (((Box1.new w (.slice A l.length c) 24).alloc (.cells #[.int .i64 x.tx, .string x.lo, .string x.hi] 26)).alloc (.cells #[.int .i64 y.tx, .string y.lo, .string y.hi] 26))
  have BX := Lib.hid ((Box3.new (w.alloc (.cells #[.slice A l.length c] 24)) (.int .i64 x.tx) (.string x.lo) (.string x.hi) 26).alloc (.cells #[.int .i64 y.tx, .string y.lo, .string y.hi] 26))
  have BY := Lib.hid (Box3.new ((w.alloc (.cells #[.slice A l.length c] 24)).alloc (.cells #[.int .i64 x.tx, .string x.lo, .string x.hi] 26)) (.int .i64 y.tx) (.string y.lo) (.string y.hi) 26)
  have HF : Hid (Below w.heap.size w (((w.alloc (.cells #[.slice A l.length c] 24)).alloc (.cells #[.int .i64 x.tx, .string x.lo, .string x.hi] 26)).alloc (.cells #[.int .i64 y.tx, .string y.lo, .string y.hi] 26))) := Lib.hid (by (repeat (first | (with_reducible exact Below.refl _ _) | apply below_alloc _ (Nat.le_refl _) | refine below_set ?_ (by first | exact Nat.le_refl _ | omega) | apply below_drewN | refine below_step ?_ HB)))
  have hal := alive_any (((w.alloc (.cells #[.slice A l.length c] 24)).alloc (.cells #[.int .i64 x.tx, .string x.lo, .string x.hi] 26)).alloc (.cells #[.int .i64 y.tx, .string y.lo, .string y.hi] 26))
  have RS := Lib.hid (HR.below HF.out)
  simp only [World.size_alloc] at BX BY
  clear HR
  go_enter Try.func5, Try.ntmps5
  go_wp2_with fail
  refine hal.mono ?_; rintro e wq ⟨rfl, h1⟩
  replace BS := Lib.hid (BS.out.step h1); replace BX := Lib.hid (BX.out.below h1 BX.out.lt); replace BY := Lib.hid (BY.out.below h1 BY.out.lt); replace RS := Lib.hid (RS.out.below h1); replace HF := Lib.hid (below_step' HF.out h1)
  clear hal h1
  obtain ⟨cBS0, fBS0, lBS⟩ := id BS.out; obtain ⟨cBX0, cBX1, cBX2, fBX0, fBX1, fBX2, lBX⟩ := id BX.out; obtain ⟨cBY0, cBY1, cBY2, fBY0, fBY1, fBY2, lBY⟩ := id BY.out
  go_wp2_with fail
  go_cut [9, 10] (fun p e wx => ∃ b A' c', p = .pointer (some ⟨b, 0, none⟩) ∧ e = .int .i64 (addL l x).2 ∧ Box1 wx b (.slice A' (addL l x).1.length c') ∧ Hid (RowE encL 3 wx A' (addL l x).1) ∧ (A' = none → c' = 0) ∧ Hid (Below wq.heap.size wq wx))
  case first =>
    have HOF := Lib.hid (fun (W : World) (h : RowE encL 3 W A l) => of_any A c l W h hl)
    have HAD := Lib.hid (fun (W : World) (A0 : Option Addr) (c0 : Nat) (h : RowE encL 3 W A0 l) (hn : A0 = none → c0 = 0) => add_any A0 c0 l x W h hn (by omega))
    have HWn := Lib.hid ((Below.refl wq.heap.size wq).alloc (Nat.le_refl _) (.cells #[.slice none 0 0] 30))
    go_region_with (first
      | (go_at_call 11; with_reducible refine (HOF.out wq.drew (RowE.drew RS.out)).mono ?_; rintro e wn ⟨v0, rfl, hv0, h0⟩
         obtain ⟨A0, c0, rfl, hr0, hn0, _⟩ := hv0.outL
         have m1 := below_undrew h0
         have M1 := Lib.hid m1
         have R0 := Lib.hid hr0
         obtain ⟨d30, d31, d32, _, _, _, ld⟩ := BX.out.below m1 BX.out.lt
         clear hr0 hv0 h0)
      | (go_at_call 11; with_reducible refine (HOF.out (wq.alloc (.cells #[.slice none 0 0] 30)).drew (RowE.drew (RS.out.below HWn.out))).mono ?_; rintro e wn ⟨v0, rfl, hv0, h0⟩
         obtain ⟨A0, c0, rfl, hr0, hn0, _⟩ := hv0.outL
         have m2 := below_undrew h0
         have M2 := Lib.hid m2
         have R0 := Lib.hid hr0
         have BD := Lib.hid ((Box1.new wq (.slice none 0 0) 30).step m2)
         obtain ⟨d30, d31, d32, _, _, _, ld⟩ := BX.out.below (below_step' HWn.out m2) BX.out.lt
         clear hr0 hv0 h0)
      | (go_at_call 10; with_reducible refine (HAD.out wn A0 c0 R0.out hn0).mono ?_; rintro e wm ⟨v4, rfl, hv4, h4⟩
         have Q4 := Lib.hid h4
         obtain ⟨A4, c4, rfl, hr4, hn4, hN4⟩ := hv4.outL
         have R4 := Lib.hid hr4
         have hm4 := M1
         have HX := Lib.hid (below_step' M1.out h4)
         clear hr4 hv4 h4)
      | (go_at_call 10; with_reducible refine (HAD.out wn A0 c0 R0.out hn0).mono ?_; rintro e wm ⟨v4, rfl, hv4, h4⟩
         have Q4 := Lib.hid h4
         obtain ⟨A4, c4, rfl, hr4, hn4, hN4⟩ := hv4.outL
         have R4 := Lib.hid hr4
         have hm4 := M2
         have HX := Lib.hid (below_step' (below_step' HWn.out M2.out) h4)
         have hlq : wq.heap.size < wn.heap.size := BD.out.lt
         have BE := Lib.hid (BD.out.step h4)
         obtain ⟨x0, y0, lb⟩ := id BE.out
         clear hr4 hv4 h4)
      | (go_at_call 10; with_reducible refine (HAD.out (wn.alloc (.cells #[.slice none 0 0] 30)) A0 c0 (R0.out.below ((Below.refl wn.heap.size wn).alloc (Nat.le_refl _) _)) hn0).mono ?_; rintro e wm ⟨v4, rfl, hv4, h4⟩
         have Q4 := Lib.hid h4
         obtain ⟨A4, c4, rfl, hr4, hn4, hN4⟩ := hv4.outL
         have R4 := Lib.hid hr4
         have hm4 := M1
         have HX := Lib.hid (below_step' (M1.out.alloc M1.out.size (.cells #[.slice none 0 0] 30)) h4)
         have BE := Lib.hid ((Box1.new wn (.slice none 0 0) 30).step h4)
         obtain ⟨x0, y0, lb⟩ := id BE.out
         clear hr4 hv4 h4))
    all_goals
      go_wp2_with fail
      go_meet
      first
        | exact ⟨_, A4, c4, rfl, rfl, Box1.new _ _ _, Lib.hid (R4.out.below ((Below.refl wm.heap.size wm).alloc (Nat.le_refl _) _)), hn4, Lib.hid (HX.out.alloc HX.out.size _)⟩
        | exact ⟨_, A4, c4, rfl, rfl, (Box1.new wm _ _).set0 _, Lib.hid (R4.out.below (Below.setCell ((Below.refl wm.heap.size wm).alloc (Nat.le_refl _) _) (Nat.le_refl _) _)), hn4, Lib.hid (Below.setCell (HX.out.alloc HX.out.size _) HX.out.size _)⟩
        | exact ⟨_, A4, c4, rfl, rfl, BE.out.set0 _, Lib.hid (R4.out.set hN4 _ _ hlq), hn4, Lib.hid (Below.setCell HX.out (Nat.le_refl _) _)⟩
        | exact ⟨_, A4, c4, rfl, rfl, BE.out.set0 _, Lib.hid (R4.out.set hN4 _ _ (by simp)), hn4, Lib.hid (Below.setCell HX.out (M1.out.size) _)⟩
  case rest =>
    obtain ⟨b9, A9, c9, rfl, rfl, h9, hr9, hn9, hW⟩ := hcut
    have hW' := hW.out
    have B9 := Lib.hid h9
    clear cBS0 fBS0 lBS; clear cBX0 fBX0 cBX1 fBX1 cBX2 fBX2 lBX; clear cBY0 fBY0 cBY1 fBY1 cBY2 fBY2 lBY
    replace BS := Lib.hid (BS.out.step hW'); replace BX := Lib.hid (BX.out.below hW' BX.out.lt); replace BY := Lib.hid (BY.out.below hW' BY.out.lt); replace RS := Lib.hid (RS.out.below hW'); replace HF := Lib.hid (below_step' HF.out hW')
    clear hW hW' h9
    have E1 : Hid ((addL l x).2 ≠ 0 → (addL l x).1 = []) := Lib.hid add_bad
    have E2 : Hid ((addL (addL l x).1 y).2 ≠ 0 → (addL (addL l x).1 y).1 = []) := Lib.hid add_bad
    have E3 : Hid ((addL l y).2 ≠ 0 → (addL l y).1 = []) := Lib.hid add_bad
    have E4 : Hid ((addL (addL l y).1 x).2 ≠ 0 → (addL (addL l y).1 x).1 = []) := Lib.hid add_bad
    have HT : Hid ((addL l x).2 = 0 → (addL (addL l x).1 y).2 = 0 → (addL l y).2 = 0 → (addL (addL l y).1 x).2 = 0 → chkL (addL (addL l x).1 y).1 = 0 ∧ chkL (addL (addL l y).1 x).1 = 0 ∧ ∀ t, covT (addL (addL l x).1 y).1 t key = covT (addL (addL l y).1 x).1 t key) := Lib.hid (fun h1 h2 h3 h4 => ⟨add_chk h2, add_chk h4, fun t => turns_cov h1 h2 h3 h4 t key⟩)
    have hl1 := add_len l x
    have hl3 := add_len l y
    generalize hr1 : (addL l x).1 = r1 at *
    have had2 := add_any A9 c9 r1 y _ hr9.out hn9 (by omega)
    obtain ⟨cBS0, fBS0, lBS⟩ := id BS.out; obtain ⟨cB90, fB90, lB9⟩ := id B9.out; obtain ⟨cBX0, cBX1, cBX2, fBX0, fBX1, fBX2, lBX⟩ := id BX.out; obtain ⟨cBY0, cBY1, cBY2, fBY0, fBY1, fBY2, lBY⟩ := id BY.out
    go_wp2_with fail
    refine had2.mono ?_; rintro e w2 ⟨v2, rfl, hv2, h2⟩
    obtain ⟨A2, c2, rfl, hr2, hn2, _⟩ := hv2.outL
    clear cBS0 fBS0 lBS; clear cB90 fB90 lB9; clear cBX0 fBX0 cBX1 fBX1 cBX2 fBX2 lBX; clear cBY0 fBY0 cBY1 fBY1 cBY2 fBY2 lBY
    have RA := hr9
    have RB := Lib.hid hr2
    replace BS := Lib.hid (BS.out.step h2); replace B9 := Lib.hid (B9.out.step h2); replace BX := Lib.hid (BX.out.below h2 BX.out.lt); replace BY := Lib.hid (BY.out.below h2 BY.out.lt); replace RS := Lib.hid (RS.out.below h2); replace RA := Lib.hid (RA.out.below h2); replace HF := Lib.hid (below_step' HF.out h2)
    have BB := Lib.hid (Box1.new w2 (.slice A2 (addL r1 y).1.length c2) 30)
    replace BS := Lib.hid (BS.out.alloc (.cells #[.slice A2 (addL r1 y).1.length c2] 30)); replace B9 := Lib.hid (B9.out.alloc (.cells #[.slice A2 (addL r1 y).1.length c2] 30)); replace BX := Lib.hid (BX.out.alloc (.cells #[.slice A2 (addL r1 y).1.length c2] 30)); replace BY := Lib.hid (BY.out.alloc (.cells #[.slice A2 (addL r1 y).1.length c2] 30)); replace RS := Lib.hid (RS.out.below ((Below.refl _ _).alloc (Nat.le_refl _) (.cells #[.slice A2 (addL r1 y).1.length c2] 30))); replace RA := Lib.hid (RA.out.below ((Below.refl _ _).alloc (Nat.le_refl _) (.cells #[.slice A2 (addL r1 y).1.length c2] 30))); replace RB := Lib.hid (RB.out.below ((Below.refl _ _).alloc (Nat.le_refl _) (.cells #[.slice A2 (addL r1 y).1.length c2] 30))); replace HF := Lib.hid (HF.out.alloc HF.out.size (.cells #[.slice A2 (addL r1 y).1.length c2] 30))
    clear had2 hv2 hr2 h2 hr9
    go_upto_region 5 with (fail)
    generalize w2.heap.size = b11 at *
    generalize w2.alloc (.cells #[.slice A2 (addL r1 y).1.length c2] 30) = wd at *
    obtain ⟨cBS0, fBS0, lBS⟩ := id BS.out; obtain ⟨cB90, fB90, lB9⟩ := id B9.out; obtain ⟨cBB0, fBB0, lBB⟩ := id BB.out; obtain ⟨cBX0, cBX1, cBX2, fBX0, fBX1, fBX2, lBX⟩ := id BX.out; obtain ⟨cBY0, cBY1, cBY2, fBY0, fBY1, fBY2, lBY⟩ := id BY.out
    go_cut [13, 14] (fun p e wx => ∃ b A' c', p = .pointer (some ⟨b, 0, none⟩) ∧ e = .int .i64 (addL l y).2 ∧ Box1 wx b (.slice A' (addL l y).1.length c') ∧ Hid (RowE encL 3 wx A' (addL l y).1) ∧ (A' = none → c' = 0) ∧ Hid (Below wd.heap.size wd wx))
    case first =>
      have HOF := Lib.hid (fun (W : World) (h : RowE encL 3 W A l) => of_any A c l W h hl)
      have HAD := Lib.hid (fun (W : World) (A0 : Option Addr) (c0 : Nat) (h : RowE encL 3 W A0 l) (hn : A0 = none → c0 = 0) => add_any A0 c0 l y W h hn (by omega))
      have HWn := Lib.hid ((Below.refl wd.heap.size wd).alloc (Nat.le_refl _) (.cells #[.slice none 0 0] 30))
      go_region_with (first
        | (go_at_call 11; with_reducible refine (HOF.out wd.drew (RowE.drew RS.out)).mono ?_; rintro e wn ⟨v0, rfl, hv0, h0⟩
           obtain ⟨A0, c0, rfl, hr0, hn0, _⟩ := hv0.outL
           have m1 := below_undrew h0
           have M1 := Lib.hid m1
           have R0 := Lib.hid hr0
           obtain ⟨d30, d31, d32, _, _, _, ld⟩ := BY.out.below m1 BY.out.lt
           clear hr0 hv0 h0)
        | (go_at_call 11; with_reducible refine (HOF.out (wd.alloc (.cells #[.slice none 0 0] 30)).drew (RowE.drew (RS.out.below HWn.out))).mono ?_; rintro e wn ⟨v0, rfl, hv0, h0⟩
           obtain ⟨A0, c0, rfl, hr0, hn0, _⟩ := hv0.outL
           have m2 := below_undrew h0
           have M2 := Lib.hid m2
           have R0 := Lib.hid hr0
           have BD := Lib.hid ((Box1.new wd (.slice none 0 0) 30).step m2)
           obtain ⟨d30, d31, d32, _, _, _, ld⟩ := BY.out.below (below_step' HWn.out m2) BY.out.lt
           clear hr0 hv0 h0)
        | (go_at_call 10; with_reducible refine (HAD.out wn A0 c0 R0.out hn0).mono ?_; rintro e wm ⟨v4, rfl, hv4, h4⟩
           have Q4 := Lib.hid h4
           obtain ⟨A4, c4, rfl, hr4, hn4, hN4⟩ := hv4.outL
           have R4 := Lib.hid hr4
           have hm4 := M1
           have HX := Lib.hid (below_step' M1.out h4)
           clear hr4 hv4 h4)
        | (go_at_call 10; with_reducible refine (HAD.out wn A0 c0 R0.out hn0).mono ?_; rintro e wm ⟨v4, rfl, hv4, h4⟩
           have Q4 := Lib.hid h4
           obtain ⟨A4, c4, rfl, hr4, hn4, hN4⟩ := hv4.outL
           have R4 := Lib.hid hr4
           have hm4 := M2
           have HX := Lib.hid (below_step' (below_step' HWn.out M2.out) h4)
           have hlq : wd.heap.size < wn.heap.size := BD.out.lt
           have BE := Lib.hid (BD.out.step h4)
           obtain ⟨x0, y0, lb⟩ := id BE.out
           clear hr4 hv4 h4)
        | (go_at_call 10; with_reducible refine (HAD.out (wn.alloc (.cells #[.slice none 0 0] 30)) A0 c0 (R0.out.below ((Below.refl wn.heap.size wn).alloc (Nat.le_refl _) _)) hn0).mono ?_; rintro e wm ⟨v4, rfl, hv4, h4⟩
           have Q4 := Lib.hid h4
           obtain ⟨A4, c4, rfl, hr4, hn4, hN4⟩ := hv4.outL
           have R4 := Lib.hid hr4
           have hm4 := M1
           have HX := Lib.hid (below_step' (M1.out.alloc M1.out.size (.cells #[.slice none 0 0] 30)) h4)
           have BE := Lib.hid ((Box1.new wn (.slice none 0 0) 30).step h4)
           obtain ⟨x0, y0, lb⟩ := id BE.out
           clear hr4 hv4 h4))
      all_goals
        go_wp2_with fail
        go_meet
        first
          | exact ⟨_, A4, c4, rfl, rfl, Box1.new _ _ _, Lib.hid (R4.out.below ((Below.refl wm.heap.size wm).alloc (Nat.le_refl _) _)), hn4, Lib.hid (HX.out.alloc HX.out.size _)⟩
          | exact ⟨_, A4, c4, rfl, rfl, (Box1.new wm _ _).set0 _, Lib.hid (R4.out.below (Below.setCell ((Below.refl wm.heap.size wm).alloc (Nat.le_refl _) _) (Nat.le_refl _) _)), hn4, Lib.hid (Below.setCell (HX.out.alloc HX.out.size _) HX.out.size _)⟩
          | exact ⟨_, A4, c4, rfl, rfl, BE.out.set0 _, Lib.hid (R4.out.set hN4 _ _ hlq), hn4, Lib.hid (Below.setCell HX.out (Nat.le_refl _) _)⟩
          | exact ⟨_, A4, c4, rfl, rfl, BE.out.set0 _, Lib.hid (R4.out.set hN4 _ _ (by simp)), hn4, Lib.hid (Below.setCell HX.out (M1.out.size) _)⟩
    case rest =>
      obtain ⟨b13, A13, c13, rfl, rfl, h13, hr13, hn13, hW⟩ := hcut
      have hW' := hW.out
      have BC := Lib.hid h13
      have RC := hr13
      clear cBS0 fBS0 lBS; clear cB90 fB90 lB9; clear cBB0 fBB0 lBB; clear cBX0 fBX0 cBX1 fBX1 cBX2 fBX2 lBX; clear cBY0 fBY0 cBY1 fBY1 cBY2 fBY2 lBY
      replace BS := Lib.hid (BS.out.step hW'); replace B9 := Lib.hid (B9.out.step hW'); replace BB := Lib.hid (BB.out.step hW'); replace BX := Lib.hid (BX.out.below hW' BX.out.lt); replace BY := Lib.hid (BY.out.below hW' BY.out.lt); replace RS := Lib.hid (RS.out.below hW'); replace RA := Lib.hid (RA.out.below hW'); replace RB := Lib.hid (RB.out.below hW'); replace HF := Lib.hid (below_step' HF.out hW')
      clear hW hW' h13
      generalize hr3 : (addL l y).1 = r3 at *
      have had4 := add_any A13 c13 r3 x _ hr13.out hn13 (by omega)
      obtain ⟨cBS0, fBS0, lBS⟩ := id BS.out; obtain ⟨cB90, fB90, lB9⟩ := id B9.out; obtain ⟨cBB0, fBB0, lBB⟩ := id BB.out; obtain ⟨cBC0, fBC0, lBC⟩ := id BC.out; obtain ⟨cBX0, cBX1, cBX2, fBX0, fBX1, fBX2, lBX⟩ := id BX.out; obtain ⟨cBY0, cBY1, cBY2, fBY0, fBY1, fBY2, lBY⟩ := id BY.out
      go_wp2_with fail
      refine had4.mono ?_; rintro e w4 ⟨v4, rfl, hv4, h4⟩
      obtain ⟨A4, c4, rfl, hr4, hn4, _⟩ := hv4.outL
      clear cBS0 fBS0 lBS; clear cB90 fB90 lB9; clear cBB0 fBB0 lBB; clear cBC0 fBC0 lBC; clear cBX0 fBX0 cBX1 fBX1 cBX2 fBX2 lBX; clear cBY0 fBY0 cBY1 fBY1 cBY2 fBY2 lBY
      have RD := Lib.hid hr4
      replace BS := Lib.hid (BS.out.step h4); replace B9 := Lib.hid (B9.out.step h4); replace BB := Lib.hid (BB.out.step h4); replace BC := Lib.hid (BC.out.step h4); replace BX := Lib.hid (BX.out.below h4 BX.out.lt); replace BY := Lib.hid (BY.out.below h4 BY.out.lt); replace RS := Lib.hid (RS.out.below h4); replace RA := Lib.hid (RA.out.below h4); replace RB := Lib.hid (RB.out.below h4); replace RC := Lib.hid (RC.out.below h4); replace HF := Lib.hid (below_step' HF.out h4)
      have BD := Lib.hid (Box1.new w4 (.slice A4 (addL r3 x).1.length c4) 30)
      replace BS := Lib.hid (BS.out.alloc (.cells #[.slice A4 (addL r3 x).1.length c4] 30)); replace B9 := Lib.hid (B9.out.alloc (.cells #[.slice A4 (addL r3 x).1.length c4] 30)); replace BB := Lib.hid (BB.out.alloc (.cells #[.slice A4 (addL r3 x).1.length c4] 30)); replace BC := Lib.hid (BC.out.alloc (.cells #[.slice A4 (addL r3 x).1.length c4] 30)); replace BX := Lib.hid (BX.out.alloc (.cells #[.slice A4 (addL r3 x).1.length c4] 30)); replace BY := Lib.hid (BY.out.alloc (.cells #[.slice A4 (addL r3 x).1.length c4] 30)); replace RS := Lib.hid (RS.out.below ((Below.refl _ _).alloc (Nat.le_refl _) (.cells #[.slice A4 (addL r3 x).1.length c4] 30))); replace RA := Lib.hid (RA.out.below ((Below.refl _ _).alloc (Nat.le_refl _) (.cells #[.slice A4 (addL r3 x).1.length c4] 30))); replace RB := Lib.hid (RB.out.below ((Below.refl _ _).alloc (Nat.le_refl _) (.cells #[.slice A4 (addL r3 x).1.length c4] 30))); replace RC := Lib.hid (RC.out.below ((Below.refl _ _).alloc (Nat.le_refl _) (.cells #[.slice A4 (addL r3 x).1.length c4] 30))); replace RD := Lib.hid (RD.out.below ((Below.refl _ _).alloc (Nat.le_refl _) (.cells #[.slice A4 (addL r3 x).1.length c4] 30))); replace HF := Lib.hid (HF.out.alloc HF.out.size (.cells #[.slice A4 (addL r3 x).1.length c4] 30))
      clear had4 hv4 hr4 h4 hr13
      have hL2 := add_len r1 y
      have hL4 := add_len r3 x
      go_upto_region 7 with (fail)
      generalize w4.heap.size = b15 at *
      generalize w4.alloc (.cells #[.slice A4 (addL r3 x).1.length c4] 30) = we at *
      clear hr1 hr3
      generalize (addL l x).2 = e1 at *
      generalize (addL r1 y).2 = e2 at *
      generalize (addL l y).2 = e3 at *
      generalize (addL r3 x).2 = e4 at *
      generalize (addL r1 y).1 = r2 at *
      generalize (addL r3 x).1 = r4 at *
      obtain ⟨cB90, fB90, lB9⟩ := id B9.out; obtain ⟨cBB0, fBB0, lBB⟩ := id BB.out; obtain ⟨cBC0, fBC0, lBC⟩ := id BC.out; obtain ⟨cBD0, fBD0, lBD⟩ := id BD.out
      by_cases k1 : e1 = 0
      · subst k1
        by_cases k2 : e2 = 0
        · subst k2
          by_cases k3 : e3 = 0
          · subst k3
            by_cases k4 : e4 = 0
            · subst k4
              obtain ⟨kb, kd, kt⟩ := HT.out rfl rfl rfl rfl
              have KX := kt x.tx
              have KY := kt y.tx
              have P1 := fun (W : World) (h : RowE encL 3 W A2 r2) => reads_any A2 c2 r2 x.tx key W h kb hk
              have P2 := fun (W : World) (h : RowE encL 3 W A4 r4) => reads_any A4 c4 r4 x.tx key W h kd hk
              have P3 := fun (W : World) (h : RowE encL 3 W A2 r2) => reads_any A2 c2 r2 y.tx key W h kb hk
              have P4 := fun (W : World) (h : RowE encL 3 W A4 r4) => reads_any A4 c4 r4 y.tx key W h kd hk
              rw [KX] at P1
              rw [KY] at P3
              clear E1 E2 E3 E4 HT kt
              generalize covT r4 x.tx key = qx at *
              generalize covT r4 y.tx key = qy at *
              have C1 : Hid (∀ p : Later we, Calls Try.prog 14 #[.agg #[.slice A2 r2.length c2], .int .i64 x.tx, .string key] p.W fun e w' => e = .returned (.bool qx) ∧ Below p.W.heap.size p.W w') := Lib.hid (fun p => P1 _ (RB.out.below p.h))
              have C2 : Hid (∀ p : Later we, Calls Try.prog 14 #[.agg #[.slice A4 r4.length c4], .int .i64 x.tx, .string key] p.W fun e w' => e = .returned (.bool qx) ∧ Below p.W.heap.size p.W w') := Lib.hid (fun p => P2 _ (RD.out.below p.h))
              have C3 : Hid (∀ p : Later we, Calls Try.prog 14 #[.agg #[.slice A2 r2.length c2], .int .i64 y.tx, .string key] p.W fun e w' => e = .returned (.bool qy) ∧ Below p.W.heap.size p.W w') := Lib.hid (fun p => P3 _ (RB.out.below p.h))
              have C4 : Hid (∀ p : Later we, Calls Try.prog 14 #[.agg #[.slice A4 r4.length c4], .int .i64 y.tx, .string key] p.W fun e w' => e = .returned (.bool qy) ∧ Below p.W.heap.size p.W w') := Lib.hid (fun p => P4 _ (RD.out.below p.h))
              have q0 := later_cell BB.out.lt BB.out.c0
              have q1 := later_cell BD.out.lt BD.out.c0
              have q2 := later_cell BX.out.lt BX.out.c0
              have q3 := later_cell BY.out.lt BY.out.c0
              have hze := HF.out.size
              clear P1 P2 P3 P4 kb kd KX KY
              obtain ⟨xt, xl, xh⟩ := x
              obtain ⟨yt, yl, yh⟩ := y
              dsimp only at *
              go_upto_region 9 with ((with_reducible refine (num_any _ _).mono ?_); rintro e wn ⟨rfl, rfl⟩)
              refine wp_region_later (by kernel_rfl) (by kernel_rfl) ?_
              iterate 4 (first | go_big_quiet_step (fail) | quiet_step (fail))
              go_big_quiet_step ((go_at_call 14; exact later_of (C1.out _)))
              iterate 4 (first | go_big_quiet_step (fail) | quiet_step (fail))
              go_big_quiet_step ((go_at_call 14; exact later_of (C2.out _)))
              iterate 6 (first | go_big_quiet_step (fail) | quiet_step (fail))
              go_big_quiet_step ((go_at_call 14; exact later_of (C3.out _)))
              iterate 4 (first | go_big_quiet_step (fail) | quiet_step (fail))
              go_big_quiet_step ((go_at_call 14; exact later_of (C4.out _)))
              iterate 3 (first | go_big_quiet_step (fail) | quiet_step (fail))
              refine wpQuiet_nil ?_
              intro _ hw'
              obtain ⟨qL, hw''⟩ := hw'
              subst hw''
              obtain ⟨wL, h⟩ := qL
              go_wp2
              go_ret
              exact ⟨ret_bool (by simp), HF.out.trans (h.mono hze)⟩
            · have k4' : (e4 == 0) = false := by simpa using k4
              obtain rfl := E4.out k4
              clear HT E1 E2 E3 E4
              go_wp2_with ((with_reducible refine (num_any _ _).mono ?_); rintro e wn ⟨rfl, rfl⟩)
              all_goals (go_ret; exact ⟨ret_bool (by simp), HF.out⟩)
          · have k3' : (e3 == 0) = false := by simpa using k3
            obtain rfl := E3.out k3
            clear HT E1 E2 E3 E4
            go_wp2_with ((with_reducible refine (num_any _ _).mono ?_); rintro e wn ⟨rfl, rfl⟩)
            all_goals (go_ret; exact ⟨ret_bool (by simp), HF.out⟩)
        · have k2' : (e2 == 0) = false := by simpa using k2
          obtain rfl := E2.out k2
          clear HT E1 E2 E3 E4
          go_wp2_with ((with_reducible refine (num_any _ _).mono ?_); rintro e wn ⟨rfl, rfl⟩)
          all_goals (go_ret; exact ⟨ret_bool (by simp), HF.out⟩)
      · have k1' : (e1 == 0) = false := by simpa using k1
        obtain rfl := E1.out k1
        clear HT E1 E2 E3 E4
        go_wp2_with ((with_reducible refine (num_any _ _).mono ?_); rintro e wn ⟨rfl, rfl⟩)
        all_goals (go_ret; exact ⟨ret_bool (by simp), HF.out⟩)
end Go.Proofs.Ytdiclnkkddnncaa
