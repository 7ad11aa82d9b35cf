/- The law GcSweeps. -/
import Derived.Test.YtpkacnoimdjckaaAliveG
import Derived.Test.YtpkacnoimdjckaaLawG
namespace Go.Proofs.Ytpkacnoimdjckaa
open Go.RowKit
open Go.Shelf
set_option linter.unusedVariables false
set_option linter.unusedSimpArgs false
theorem range_ok {ks : List ByteArray} {ls : List (List Ver)} (h : chkC ks ls = 0) (fr tt : ByteArray) (snap tx : Int) : (rangeR ks ls fr tt snap tx).2 = 0 := by
  unfold rangeR; rw [if_neg (by simp [h])]
theorem range_len (ks : List ByteArray) (ls : List (List Ver)) (fr tt : ByteArray) (snap tx : Int) : (rangeR ks ls fr tt snap tx).1.length ≤ ks.length := by
  unfold rangeR
  split
  · simp
  · exact Nat.le_trans (tell_len fr tt snap tx (ks.zip ls)) (by rw [List.length_zip]; omega)
set_option maxHeartbeats 4000000 in
set_option maxRecDepth 100000 in
theorem sweeps_law (AK AL : Option Addr) (ck cl : Nat) (ks : List ByteArray) (ls : List (List Ver)) (h snap tx : Int) (w : World) (HK : RowE encS 1 w AK ks) (HL : RowL w AL ls) (hnk : AK = none → ck = 0) (hk : ks.length * 16 ≤ 140737488351232) (hl : ls.length * 24 ≤ 140737488351232) (hls : ∀ l ∈ ls, l.length * 40 ≤ 140737488351232) :
    Calls Try.prog 5 #[.agg #[.slice AK ks.length ck, .slice AL ls.length cl], .int .i64 h, .int .i64 snap, .int .i64 tx] w fun e w' => e = .returned (.bool true) ∧ Below w.heap.size w w' := by
  have h0 : Below w.heap.size w (w.alloc (.cells #[.slice AK ks.length ck, .slice AL ls.length cl] 25)) := (by (repeat (first | (with_reducible exact Below.refl _ _) | apply below_alloc _ (Nat.le_refl _) | refine below_set ?_ (by first | exact Nat.le_refl _ | omega) | apply below_drewN | refine below_step ?_ HB)))
  have BC := Lib.hid (Box.new w #[.slice AK ks.length ck, .slice AL ls.length cl] 25)
  have HF := Lib.hid h0
  have RK := Lib.hid (HK.below h0)
  have RL := Lib.hid (HL.below h0)
  have HLS := Lib.hid hls
  clear h0 HK HL hls
  go_enter Try.func5, Try.ntmps5
  go_wp2_with fail
  generalize w.alloc (.cells #[.slice AK ks.length ck, .slice AL ls.length cl] 25) = w0 at *
  refine (alive_any _).mono ?_; rintro e w1 ⟨rfl, h1⟩
  replace BC := Lib.hid (BC.out.below h1 BC.out.lt); replace HF := Lib.hid (below_step' HF.out h1); replace RK := Lib.hid (RK.out.below h1); replace RL := Lib.hid (RL.out.below h1)
  clear h1
  have hof := gof_any AK AL ck cl ks ls w1 RK.out RL.out hnk hk hl HLS.out
  have cBC0 := BC.out.c 0 _ rfl; have fBC0 := BC.out.f 0 (by simp); have cBC1 := BC.out.c 1 _ rfl; have fBC1 := BC.out.f 1 (by simp); have lBC := BC.out.lt
  go_wp2_with fail
  clear cBC0 fBC0 cBC1 fBC1 lBC
  refine hof.mono ?_; rintro e w2 ⟨v2, rfl, hv2, h2⟩
  replace BC := Lib.hid (BC.out.below h2 BC.out.lt); replace HF := Lib.hid (below_step' HF.out h2); replace RK := Lib.hid (RK.out.below h2); replace RL := Lib.hid (RL.out.below h2)
  obtain ⟨AK2, AL2, ck2, cl2, rfl, hrk2, hrl2, _⟩ := hv2
  have hsw := sweep_any AK2 AL2 ck2 cl2 ks ls h w2 hrk2 hrl2.row (by omega) (by omega)
  have HLE := Lib.hid (fun hc : chkC ks ls = 0 => sweep_left (h := h) hc)
  have HCK := Lib.hid (sweep_chk (h := h) (ks := ks) (ls := ls))
  have HBD := Lib.hid (fun hh => sweep_bad (T := sweepT h) (ks := ks) (ls := ls) hh)
  generalize chgR (sweepT h) ks ls = g at *
  clear hof h2 hrk2 hrl2
  go_wp2_with fail
  refine hsw.mono ?_; rintro e w3 ⟨v3, rfl, hv3, h3⟩
  replace BC := Lib.hid (BC.out.below h3 BC.out.lt); replace HF := Lib.hid (below_step' HF.out h3); replace RK := Lib.hid (RK.out.below h3); replace RL := Lib.hid (RL.out.below h3)
  obtain ⟨AK3, AL3, ck3, cl3, rfl, hrk3, hrl3, _⟩ := hv3
  have OBX := Lib.hid (Box.new w3 #[.slice AK3 g.1.length ck3, .slice AL3 g.2.1.length cl3] 28)
  have HB := (Below.refl _ w3).alloc (Nat.le_refl _) (.cells #[.slice AK3 g.1.length ck3, .slice AL3 g.2.1.length cl3] 28)
  have SK := Lib.hid (hrk3.below HB)
  have SL := Lib.hid (hrl3.row.below HB)
  replace BC := Lib.hid (BC.out.below HB BC.out.lt); replace HF := Lib.hid (below_step' HF.out HB); replace RK := Lib.hid (RK.out.below HB); replace RL := Lib.hid (RL.out.below HB)
  clear hsw h3 hrk3 hrl3 HB
  go_upto_region 4 with (fail)
  generalize w3.alloc (.cells #[.slice AK3 g.1.length ck3, .slice AL3 g.2.1.length cl3] 28) = w4 at *
  generalize w3.heap.size = bx at *
  by_cases hr : g.2.2.2 = 0
  · have hc0 : chkC ks ls = 0 := by rw [← HCK.out, hr]
    have hLE := HLE.out hc0
    have HAG := Lib.hid (again_left (h := h) hc0)
    have HC2 := Lib.hid (chkC_turn (T := sweepT h) (sweepT_ok h) hc0)
    have HRS := Lib.hid (fun hs : h ≤ snap => range_swept (tx := tx) hs hc0 ⟨#[]⟩ ⟨#[]⟩)
    have HKL := Lib.hid (keyflat_le (sweepT h) ks ls)
    have HLN := Lib.hid (len_flat (sweepT h) (ks.zip ls))
    have HC0 := Lib.hid hc0
    obtain ⟨g1, g2, g3, g4⟩ := g
    obtain ⟨rfl, rfl, rfl, rfl⟩ : g1 = _ ∧ g2 = _ ∧ g3 = _ ∧ g4 = _ := by simpa using hLE
    have hk8 := (chkC_ok hc0).2.1
    clear HLE HBD HCK hLE hr hc0
    dsimp only at *
    generalize (ks.zip ls).flatMap (keyT (sweepT h)) = K at *
    generalize (ks.zip ls).flatMap (lstT (sweepT h)) = L at *
    have hkl := HKL.out
    have hll : L.length ≤ ks.length := by have := HLN.out; omega
    have hsw2 := sweep_any AK3 AL3 ck3 cl3 K L h w4 SK.out SL.out (by omega) (by omega)
    rw [HAG.out] at hsw2
    clear HAG HKL HLN
    have cOBX0 := OBX.out.c 0 _ rfl; have fOBX0 := OBX.out.f 0 (by simp); have cOBX1 := OBX.out.c 1 _ rfl; have fOBX1 := OBX.out.f 1 (by simp); have lOBX := OBX.out.lt
    go_wp2_with (go_at_call 13; (with_reducible refine (num_any _ _).mono ?_); rintro e w' ⟨rfl, rfl⟩)
    clear cOBX0 fOBX0 cOBX1 fOBX1 lOBX
    refine hsw2.mono ?_; rintro e w5 ⟨v5, rfl, hv5, h5⟩
    replace BC := Lib.hid (BC.out.below h5 BC.out.lt); replace OBX := Lib.hid (OBX.out.below h5 OBX.out.lt); replace HF := Lib.hid (below_step' HF.out h5); replace RK := Lib.hid (RK.out.below h5); replace RL := Lib.hid (RL.out.below h5); replace SK := Lib.hid (SK.out.below h5); replace SL := Lib.hid (SL.out.below h5)
    obtain ⟨AK5, AL5, ck5, cl5, rfl, _⟩ := hv5
    have OB2 := Lib.hid (Box.new w5 #[.slice AK5 K.length ck5, .slice AL5 L.length cl5] 28)
    have HB := (Below.refl _ w5).alloc (Nat.le_refl _) (.cells #[.slice AK5 K.length ck5, .slice AL5 L.length cl5] 28)
    replace BC := Lib.hid (BC.out.below HB BC.out.lt); replace OBX := Lib.hid (OBX.out.below HB OBX.out.lt); replace HF := Lib.hid (below_step' HF.out HB); replace RK := Lib.hid (RK.out.below HB); replace RL := Lib.hid (RL.out.below HB); replace SK := Lib.hid (SK.out.below HB); replace SL := Lib.hid (SL.out.below HB)
    clear hsw2 h5 HB
    go_upto_region 7 with (fail)
    generalize w5.alloc (.cells #[.slice AK5 K.length ck5, .slice AL5 L.length cl5] 28) = w6 at *
    generalize w5.heap.size = by2 at *
    have hof := gof_any AK AL ck cl ks ls w6 RK.out RL.out hnk hk hl HLS.out
    have cBC0 := BC.out.c 0 _ rfl; have fBC0 := BC.out.f 0 (by simp); have cBC1 := BC.out.c 1 _ rfl; have fBC1 := BC.out.f 1 (by simp); have lBC := BC.out.lt
    go_wp2_with fail
    clear cBC0 fBC0 cBC1 fBC1 lBC
    refine hof.mono ?_; rintro e w7 ⟨v7, rfl, hv7, h7⟩
    replace BC := Lib.hid (BC.out.below h7 BC.out.lt); replace OBX := Lib.hid (OBX.out.below h7 OBX.out.lt); replace OB2 := Lib.hid (OB2.out.below h7 OB2.out.lt); replace HF := Lib.hid (below_step' HF.out h7); replace RK := Lib.hid (RK.out.below h7); replace RL := Lib.hid (RL.out.below h7); replace SK := Lib.hid (SK.out.below h7); replace SL := Lib.hid (SL.out.below h7)
    obtain ⟨AK7, AL7, ck7, cl7, rfl, hrk7, hrl7, _⟩ := hv7
    have hra := range_any AK7 AL7 ck7 cl7 ks ls ⟨#[]⟩ ⟨#[]⟩ snap tx w7 hrk7 hrl7.row (by omega) (by omega)
    have hP2 := range_ok HC0.out ⟨#[]⟩ ⟨#[]⟩ snap tx
    have hPl := range_len ks ls ⟨#[]⟩ ⟨#[]⟩ snap tx
    have hQ2 := range_ok HC2.out ⟨#[]⟩ ⟨#[]⟩ snap tx
    have hQl := range_len K L ⟨#[]⟩ ⟨#[]⟩ snap tx
    have HRE := HRS
    generalize hPP : rangeR ks ls ⟨#[]⟩ ⟨#[]⟩ snap tx = P at *
    generalize hQQ : rangeR K L ⟨#[]⟩ ⟨#[]⟩ snap tx = Q at *
    have HQQ := Lib.hid hQQ
    clear hof h7 hrk7 hrl7 HRS hPP hQQ
    obtain ⟨P1, P2⟩ := P
    obtain ⟨Q1, Q2⟩ := Q
    dsimp only at hP2 hQ2 hra hPl hQl
    subst hP2
    subst hQ2
    go_wp2_with fail
    refine hra.mono ?_; rintro e w8 ⟨v8, rfl, hv8, h8⟩
    replace BC := Lib.hid (BC.out.below h8 BC.out.lt); replace OBX := Lib.hid (OBX.out.below h8 OBX.out.lt); replace OB2 := Lib.hid (OB2.out.below h8 OB2.out.lt); replace HF := Lib.hid (below_step' HF.out h8); replace RK := Lib.hid (RK.out.below h8); replace RL := Lib.hid (RL.out.below h8); replace SK := Lib.hid (SK.out.below h8); replace SL := Lib.hid (SL.out.below h8)
    have VS := Lib.hid hv8
    obtain ⟨A8, c8, rfl, _⟩ := hv8
    have hrb := range_any AK3 AL3 ck3 cl3 K L ⟨#[]⟩ ⟨#[]⟩ snap tx w8 SK.out SL.out (by omega) (by omega)
    rw [HQQ.out] at hrb
    clear hra h8 HQQ
    have cOBX0 := OBX.out.c 0 _ rfl; have fOBX0 := OBX.out.f 0 (by simp); have cOBX1 := OBX.out.c 1 _ rfl; have fOBX1 := OBX.out.f 1 (by simp); have lOBX := OBX.out.lt
    go_wp2_with fail
    clear cOBX0 fOBX0 cOBX1 fOBX1 lOBX
    refine hrb.mono ?_; rintro e w9 ⟨v9, rfl, ⟨A9, c9, rfl, _, hr9, _⟩, h9⟩
    replace BC := Lib.hid (BC.out.below h9 BC.out.lt); replace OBX := Lib.hid (OBX.out.below h9 OBX.out.lt); replace OB2 := Lib.hid (OB2.out.below h9 OB2.out.lt); replace HF := Lib.hid (below_step' HF.out h9); replace RK := Lib.hid (RK.out.below h9); replace RL := Lib.hid (RL.out.below h9); replace SK := Lib.hid (SK.out.below h9); replace SL := Lib.hid (SL.out.below h9); replace VS := Lib.hid (VS.out.below h9)
    have hck := gcheck_any AK3 AL3 ck3 cl3 K L w9 SK.out SL.out (by omega) (by omega)
    rw [HC2.out] at hck
    have HR9 := Lib.hid hr9
    obtain ⟨A8', c8', e8, _, hr8, _⟩ := VS.out
    obtain ⟨rfl, rfl⟩ : A8 = A8' ∧ c8 = c8' := by simpa using e8
    have HR8 := Lib.hid hr8
    clear hrb h9 hr9 hr8 e8
    by_cases hsn : snap < h
    · have cOBX0 := OBX.out.c 0 _ rfl; have fOBX0 := OBX.out.f 0 (by simp); have cOBX1 := OBX.out.c 1 _ rfl; have fOBX1 := OBX.out.f 1 (by simp); have lOBX := OBX.out.lt; have cOB20 := OB2.out.c 0 _ rfl; have fOB20 := OB2.out.f 0 (by simp); have cOB21 := OB2.out.c 1 _ rfl; have fOB21 := OB2.out.f 1 (by simp); have lOB2 := OB2.out.lt
      go_wp2_with (first | (go_at_call 13; (with_reducible refine (num_any _ _).mono ?_); rintro e w' ⟨rfl, rfl⟩) | (go_at_call 17; (with_reducible refine hck.mono ?_); rintro e w' ⟨rfl, hb⟩; replace HF := Lib.hid (below_step' HF.out hb)))
      go_ret
      exact ⟨rfl, HF.out⟩
    · have e := HRE.out (by omega)
      obtain rfl : Q1 = P1 := by simpa using e
      clear HRE e
      have cOBX0 := OBX.out.c 0 _ rfl; have fOBX0 := OBX.out.f 0 (by simp); have cOBX1 := OBX.out.c 1 _ rfl; have fOBX1 := OBX.out.f 1 (by simp); have lOBX := OBX.out.lt; have cOB20 := OB2.out.c 0 _ rfl; have fOB20 := OB2.out.f 0 (by simp); have cOB21 := OB2.out.c 1 _ rfl; have fOB21 := OB2.out.f 1 (by simp); have lOB2 := OB2.out.lt
      go_wp2_with (first | (go_at_call 13; (with_reducible refine (num_any _ _).mono ?_); rintro e w' ⟨rfl, rfl⟩) | (go_at_call 17; (with_reducible refine hck.mono ?_); rintro e w' ⟨rfl, hb⟩; replace HF := Lib.hid (below_step' HF.out hb); replace HR8 := Lib.hid (HR8.out.below hb); replace HR9 := Lib.hid (HR9.out.below hb); clear hb) | (go_at_call 18; (with_reducible refine (samePairs_same A8 A9 c8 c9 Q1 _ HR8.out HR9.out (by omega)).mono ?_); rintro e w' ⟨rfl, hb⟩; replace HF := Lib.hid (below_step' HF.out hb)))
      go_ret
      exact ⟨rfl, HF.out⟩
  · have hg1 := (HBD.out hr).1
    have hr1 : (g.2.2.2 == 0) = false := by simpa using hr
    have hz : (g.1.length : Int) = 0 := by rw [hg1]; rfl
    clear HLE HBD HCK hg1 RL
    have cOBX0 := OBX.out.c 0 _ rfl; have fOBX0 := OBX.out.f 0 (by simp); have cOBX1 := OBX.out.c 1 _ rfl; have fOBX1 := OBX.out.f 1 (by simp); have lOBX := OBX.out.lt
    go_wp2_with (go_at_call 13; (with_reducible refine (num_any _ _).mono ?_); rintro e w' ⟨rfl, rfl⟩)
    go_ret
    exact ⟨ret_bool (by simp [hz]), HF.out⟩
end Go.Proofs.Ytpkacnoimdjckaa
