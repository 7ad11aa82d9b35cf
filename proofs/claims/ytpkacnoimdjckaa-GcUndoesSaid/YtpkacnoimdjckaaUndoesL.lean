/- The law GcUndoes. -/
import Derived.Test.YtpkacnoimdjckaaAliveG
import Derived.Test.YtpkacnoimdjckaaLawU
import Derived.Test.YtpkacnoimdjckaaAlikeG
namespace Go.Proofs.Ytpkacnoimdjckaa
open Go.RowKit
open Go.Shelf
set_option linter.unusedVariables false
set_option linter.unusedSimpArgs false
theorem range_ok' {ks : List ByteArray} {ls : List (List Ver)} (h : chkC ks ls = 0) (fr tt : ByteArray) (snap tx : Int) : (rangeR ks ls fr tt snap tx).2 = 0 := by
  unfold rangeR; rw [if_neg (by simp [h])]
theorem range_len' (ks : List ByteArray) (ls : List (List Ver)) (fr tt : ByteArray) (snap tx : Int) : (rangeR ks ls fr tt snap tx).1.length ≤ ks.length := by
  unfold rangeR
  split
  · simp
  · exact Nat.le_trans (tell_len fr tt snap tx (ks.zip ls)) (by rw [List.length_zip]; omega)
set_option maxHeartbeats 2000000 in
set_option maxRecDepth 100000 in
theorem undoes_law (AK AL : Option Addr) (ck cl : Nat) (ks : List ByteArray) (ls : List (List Ver)) (key : ByteArray) (snap tx : Int) (val : ByteArray) (w : World) (HK : RowE encS 1 w AK ks) (HL : RowL w AL ls) (hnk : AK = none → ck = 0) (hk : ks.length * 16 ≤ 140737488351232) (hl : ls.length * 24 ≤ 140737488351232) (hls : ∀ l ∈ ls, l.length * 40 ≤ 140737488351232) :
    Calls Try.prog 8 #[.agg #[.slice AK ks.length ck, .slice AL ls.length cl], .string key, .int .i64 snap, .int .i64 tx, .string val] w fun e w' => e = .returned (.bool true) ∧ Below w.heap.size w w' := by
  have h0 : Below w.heap.size w (w.alloc (.cells #[.slice AK ks.length ck, .slice AL ls.length cl] 25)) := (by (repeat (first | (with_reducible exact Below.refl _ _) | apply below_alloc _ (Nat.le_refl _) | refine below_set ?_ (by first | exact Nat.le_refl _ | omega) | apply below_drewN | refine below_step ?_ HB)))
  have BC := Lib.hid (Box.new w #[.slice AK ks.length ck, .slice AL ls.length cl] 25)
  have HF := Lib.hid h0
  have RK := Lib.hid HK
  have RL := Lib.hid HL
  have HLS := Lib.hid hls
  clear h0 HK HL hls
  go_enter Try.func8, Try.ntmps8
  go_wp2_with fail
  generalize w.alloc (.cells #[.slice AK ks.length ck, .slice AL ls.length cl] 25) = w0 at *
  refine (alive_any _).mono ?_; rintro e w1 ⟨rfl, h1⟩
  replace BC := Lib.hid (BC.out.below h1 BC.out.lt); replace HF := Lib.hid (below_step' HF.out h1)
  clear h1
  go_wp2_with fail
  go_loopw [11] (fun s3 wr => ∃ j : Nat, j ≤ ls.length ∧ s3 = .int .i64 j ∧ Hid (Below w.heap.size w wr) ∧ Hid (Box wr w.heap.size [.slice AK ks.length ck, .slice AL ls.length cl]) ∧ Hid (∀ i, i < j → ∀ l, ls[i]? = some l → openB tx l = false)) (fun s3 _ => ls.length - (Lib.intOf s3).toNat)
  case atStart => exact ⟨0, Nat.zero_le _, rfl, HF, BC, Lib.hid (fun i h => absurd h (Nat.not_lt_zero _))⟩
  case round =>
    obtain ⟨j, hj, rfl, HFr, BCr, HN⟩ := hrel
    clear HF BC
    by_cases hlt : j < ls.length
    · obtain ⟨l, hl0⟩ : ∃ l, ls[j]? = some l := ⟨_, List.getElem?_eq_getElem hlt⟩
      obtain ⟨bl, ol, v, rfl, hbl, hcl, A, c', rfl, hlc, hrl, hnl⟩ := RL.out j l hl0
      have gl : wr.cell? ⟨bl, ol + j, none⟩ = some (.slice A l.length c') := (HFr.out.cell (p := ⟨bl, ol + j, none⟩) hbl).trans hcl
      have hji : (j : Int) < (ls.length : Int) := by omega
      have HN2 : Hid (openB tx l = false → ∀ i, i < j + 1 → ∀ l, ls[i]? = some l → openB tx l = false) := Lib.hid (fun hl i hi l' h => by
        by_cases e : i = j
        · subst e; rw [hl0] at h; cases h; exact hl
        · exact HN.out i (by omega) l' h)
      clear hcl hl0 HN
      cases l with
      | nil =>
        clear hrl hnl
        simp only [List.length_nil] at gl
        have cBCr0 := BCr.out.c 0 _ rfl; have fBCr0 := BCr.out.f 0 (by simp); have cBCr1 := BCr.out.c 1 _ rfl; have fBCr1 := BCr.out.f 1 (by simp); have lBCr := BCr.out.lt
        go_wp2_with fail
        go_roundw
        case rel => exact ⟨j + 1, by omega, by go_num, HFr, BCr, Lib.hid (HN2.out rfl)⟩
        case measure => simp [Lib.intOf]; omega
      | cons x m =>
        obtain ⟨b0, off, rfl, hb0, e0, e1, e2, e3⟩ := hrl.four (j := 0) (x := x) (B := 0) rfl HFr.out
        simp only [Nat.zero_mul, Nat.add_zero] at e0 e1
        have hp2 : (0 : Int) < (m.length : Int) + 1 := by omega
        simp only [List.length_cons] at gl
        obtain ⟨st, tx', gn, vl⟩ := x
        dsimp only at e0 e1
        have HOB : Hid (openB tx (⟨st, tx', gn, vl⟩ :: m) = (st == 0 && tx' == tx)) := Lib.hid rfl
        clear hrl hnl e2 e3
        by_cases hst : st = 0
        · subst hst
          by_cases htx : tx' = tx
          · subst htx
            clear HN2 HOB
            have cBCr0 := BCr.out.c 0 _ rfl; have fBCr0 := BCr.out.f 0 (by simp); have cBCr1 := BCr.out.c 1 _ rfl; have fBCr1 := BCr.out.f 1 (by simp); have lBCr := BCr.out.lt
            go_wp2_with fail
            go_ret
            exact ⟨rfl, HFr.out⟩
          · have ht1 : (tx' == tx) = false := by simpa using htx
            have HN3 := Lib.hid (HN2.out (by rw [HOB.out, ht1]; rfl))
            clear HN2 HOB
            have cBCr0 := BCr.out.c 0 _ rfl; have fBCr0 := BCr.out.f 0 (by simp); have cBCr1 := BCr.out.c 1 _ rfl; have fBCr1 := BCr.out.f 1 (by simp); have lBCr := BCr.out.lt
            go_wp2_with fail
            go_roundw
            case rel => exact ⟨j + 1, by omega, by go_num, HFr, BCr, HN3⟩
            case measure => simp [Lib.intOf]; omega
        · have hs1 : (st == 0) = false := by simpa using hst
          have HN3 := Lib.hid (HN2.out (by rw [HOB.out, hs1]; rfl))
          clear HN2 HOB
          have cBCr0 := BCr.out.c 0 _ rfl; have fBCr0 := BCr.out.f 0 (by simp); have cBCr1 := BCr.out.c 1 _ rfl; have fBCr1 := BCr.out.f 1 (by simp); have lBCr := BCr.out.lt
          go_wp2_with fail
          go_roundw
          case rel => exact ⟨j + 1, by omega, by go_num, HFr, BCr, HN3⟩
          case measure => simp [Lib.intOf]; omega
    · obtain rfl : j = ls.length := by omega
      have HNA : Hid (∀ l ∈ ls, openB tx l = false) := Lib.hid (fun l hl => by
        obtain ⟨i, hi⟩ := List.mem_iff_getElem?.1 hl
        exact HN.out i (lt_of_get hi) l hi)
      have RKr := Lib.hid (RK.out.below HFr.out)
      have RLr := Lib.hid (RL.out.below HFr.out)
      have hof := gof_any AK AL ck cl ks ls wr RKr.out RLr.out hnk hk hl HLS.out
      clear HN RK RL
      have cBCr0 := BCr.out.c 0 _ rfl; have fBCr0 := BCr.out.f 0 (by simp); have cBCr1 := BCr.out.c 1 _ rfl; have fBCr1 := BCr.out.f 1 (by simp); have lBCr := BCr.out.lt
      go_wp2_with fail
      clear cBCr0 fBCr0 cBCr1 fBCr1 lBCr
      refine hof.mono ?_; rintro e w2 ⟨v2, rfl, hv2, h2⟩
      replace BCr := Lib.hid (BCr.out.below h2 BCr.out.lt); replace HFr := Lib.hid (below_step' HFr.out h2); replace RKr := Lib.hid (RKr.out.below h2); replace RLr := Lib.hid (RLr.out.below h2)
      obtain ⟨AK2, AL2, ck2, cl2, rfl, hrk2, hrl2, ⟨_, _, hnk2, hnl2⟩, _⟩ := hv2
      have hpu := gput_any AK2 AL2 ck2 cl2 ks ls key snap tx false val w2 hrk2 hrl2.row hnk2 hnl2 (by omega) (by omega)
      have HPU := Lib.hid (fun hp => put_undone (ks := ks) (ls := ls) (key := key) (snap := snap) (tx := tx) (gone := false) (val := val) HNA.out hp)
      have HPS := Lib.hid (fun hp => put_unseen (ks := ks) (ls := ls) (key := key) (snap := snap) (tx := tx) (T := 1125899906842624) (gone := false) (val := val) HNA.out hp (by decide) ⟨#[]⟩ ⟨#[]⟩ snap)
      have HPC := Lib.hid (fun hp => (put_new (ks := ks) (ls := ls) (key := key) (snap := snap) (tx := tx) (gone := false) (val := val) HNA.out hp).1)
      have HPB := Lib.hid (fun hp => put_bad (ks := ks) (ls := ls) (key := key) (snap := snap) (tx := tx) (gone := false) (val := val) hp)
      generalize putR ks ls key snap tx false val = g at *
      clear hof h2 hrk2 hrl2 HNA
      go_wp2_with fail
      refine hpu.mono ?_; rintro e w3 ⟨v3, rfl, hv3, h3⟩
      replace BCr := Lib.hid (BCr.out.below h3 BCr.out.lt); replace HFr := Lib.hid (below_step' HFr.out h3); replace RKr := Lib.hid (RKr.out.below h3); replace RLr := Lib.hid (RLr.out.below h3)
      obtain ⟨AK3, AL3, ck3, cl3, rfl, hrk3, hrl3, _⟩ := hv3
      have OBX := Lib.hid (Box.new w3 #[.slice AK3 g.1.length ck3, .slice AL3 g.2.1.length cl3] 28)
      have HB := (Below.refl _ w3).alloc (Nat.le_refl _) (.cells #[.slice AK3 g.1.length ck3, .slice AL3 g.2.1.length cl3] 28)
      have SK := Lib.hid (hrk3.below HB)
      have SL := Lib.hid (hrl3.row.below HB)
      replace BCr := Lib.hid (BCr.out.below HB BCr.out.lt); replace HFr := Lib.hid (below_step' HFr.out HB); replace RKr := Lib.hid (RKr.out.below HB); replace RLr := Lib.hid (RLr.out.below HB)
      clear hpu h3 hrk3 hrl3 HB
      go_upto_region 9 with (fail)
      generalize w3.alloc (.cells #[.slice AK3 g.1.length ck3, .slice AL3 g.2.1.length cl3] 28) = w4 at *
      generalize w3.heap.size = bx at *
      obtain ⟨K, L, er⟩ := g
      dsimp only at *
      by_cases hr : er = 0
      · obtain ⟨u1, u2, u3, u4⟩ := HPU.out hr
        have hps := HPS.out hr
        have hc0 := HPC.out hr
        have hr1 : (er == 0) = true := by simpa using hr
        subst hr
        have hk8 := (chkC_ok hc0).2.1
        have hll0 : ls.length ≤ 2048 := by have := (chkC_ok hc0).1; omega
        have hK8 := (chkC_ok u1).2.1
        have hL8 : L.length ≤ 2048 := by have := (chkC_ok u1).1; omega
        have hun := gundo_any AK3 AL3 ck3 cl3 K L tx w4 SK.out SL.out (by omega) (by omega)
        have U2 := Lib.hid u2
        have U3 := Lib.hid u3
        rw [u4] at hun
        generalize chgR (undoT tx) K L = q at *
        obtain ⟨q1, q2, q3, q4⟩ := q
        dsimp only at u2 u3 hun
        subst u2
        subst u3
        have hP2 := range_ok' hc0 ⟨#[]⟩ ⟨#[]⟩ snap 1125899906842624
        have hPl := range_len' q1 q2 ⟨#[]⟩ ⟨#[]⟩ snap 1125899906842624
        have HPSx := Lib.hid hps
        clear HPU HPS HPC HPB u1 u4 U2 U3 hps hc0
        generalize hPP : rangeR q1 q2 ⟨#[]⟩ ⟨#[]⟩ snap 1125899906842624 = P at *
        have HPP := Lib.hid hPP
        clear hPP
        obtain ⟨P1, P2⟩ := P
        dsimp only at hP2 hPl
        subst hP2
        have cOBX0 := OBX.out.c 0 _ rfl; have fOBX0 := OBX.out.f 0 (by simp); have cOBX1 := OBX.out.c 1 _ rfl; have fOBX1 := OBX.out.f 1 (by simp); have lOBX := OBX.out.lt
        go_wp2_with (go_at_call 13; (with_reducible refine (num_any _ _).mono ?_); rintro e w' ⟨rfl, rfl⟩)
        clear cOBX0 fOBX0 cOBX1 fOBX1 lOBX
        (with_reducible refine hun.mono ?_); rintro e w5 ⟨v5, rfl, hv5, h5⟩
        replace BCr := Lib.hid (BCr.out.below h5 BCr.out.lt); replace OBX := Lib.hid (OBX.out.below h5 OBX.out.lt); replace HFr := Lib.hid (below_step' HFr.out h5); replace RKr := Lib.hid (RKr.out.below h5); replace RLr := Lib.hid (RLr.out.below h5); replace SK := Lib.hid (SK.out.below h5); replace SL := Lib.hid (SL.out.below h5)
        obtain ⟨AK5, AL5, ck5, cl5, rfl, hrk5, hrl5, _⟩ := hv5
        have OB2 := Lib.hid (Box.new w5 #[.slice AK5 q1.length ck5, .slice AL5 q2.length cl5] 28)
        have HB := (Below.refl _ w5).alloc (Nat.le_refl _) (.cells #[.slice AK5 q1.length ck5, .slice AL5 q2.length cl5] 28)
        have UK := Lib.hid (hrk5.below HB)
        have UL := Lib.hid (hrl5.row.below HB)
        replace BCr := Lib.hid (BCr.out.below HB BCr.out.lt); replace OBX := Lib.hid (OBX.out.below HB OBX.out.lt); replace HFr := Lib.hid (below_step' HFr.out HB); replace RKr := Lib.hid (RKr.out.below HB); replace RLr := Lib.hid (RLr.out.below HB); replace SK := Lib.hid (SK.out.below HB); replace SL := Lib.hid (SL.out.below HB)
        clear hun h5 HB hrk5 hrl5
        go_upto_region 12 with (fail)
        generalize w5.alloc (.cells #[.slice AK5 q1.length ck5, .slice AL5 q2.length cl5] 28) = w6 at *
        generalize w5.heap.size = by2 at *
        have hof := gof_any AK AL ck cl q1 q2 w6 RKr.out RLr.out hnk hk hl HLS.out
        have cBCr0 := BCr.out.c 0 _ rfl; have fBCr0 := BCr.out.f 0 (by simp); have cBCr1 := BCr.out.c 1 _ rfl; have fBCr1 := BCr.out.f 1 (by simp); have lBCr := BCr.out.lt
        go_wp2_with fail
        clear cBCr0 fBCr0 cBCr1 fBCr1 lBCr
        refine hof.mono ?_; rintro e w7 ⟨v7, rfl, hv7, h7⟩
        replace BCr := Lib.hid (BCr.out.below h7 BCr.out.lt); replace OBX := Lib.hid (OBX.out.below h7 OBX.out.lt); replace OB2 := Lib.hid (OB2.out.below h7 OB2.out.lt); replace HFr := Lib.hid (below_step' HFr.out h7); replace RKr := Lib.hid (RKr.out.below h7); replace RLr := Lib.hid (RLr.out.below h7); replace SK := Lib.hid (SK.out.below h7); replace SL := Lib.hid (SL.out.below h7); replace UK := Lib.hid (UK.out.below h7); replace UL := Lib.hid (UL.out.below h7)
        obtain ⟨AK7, AL7, ck7, cl7, rfl, hrk7, hrl7, _⟩ := hv7
        have hra := range_any AK7 AL7 ck7 cl7 q1 q2 ⟨#[]⟩ ⟨#[]⟩ snap 1125899906842624 w7 hrk7 hrl7.row (by omega) (by omega)
        rw [HPP.out] at hra
        clear hof h7 hrk7 hrl7 HPP
        go_wp2_with fail
        refine hra.mono ?_; rintro e w8 ⟨v8, rfl, hv8, h8⟩
        replace BCr := Lib.hid (BCr.out.below h8 BCr.out.lt); replace OBX := Lib.hid (OBX.out.below h8 OBX.out.lt); replace OB2 := Lib.hid (OB2.out.below h8 OB2.out.lt); replace HFr := Lib.hid (below_step' HFr.out h8); replace RKr := Lib.hid (RKr.out.below h8); replace RLr := Lib.hid (RLr.out.below h8); replace SK := Lib.hid (SK.out.below h8); replace SL := Lib.hid (SL.out.below h8); replace UK := Lib.hid (UK.out.below h8); replace UL := Lib.hid (UL.out.below h8)
        have VS := Lib.hid hv8
        obtain ⟨A8, c8, rfl, _⟩ := hv8
        have hrb := range_any AK3 AL3 ck3 cl3 K L ⟨#[]⟩ ⟨#[]⟩ snap 1125899906842624 w8 SK.out SL.out (by omega) (by omega)
        rw [HPSx.out] at hrb
        clear hra h8 HPSx
        have cOBX0 := OBX.out.c 0 _ rfl; have fOBX0 := OBX.out.f 0 (by simp); have cOBX1 := OBX.out.c 1 _ rfl; have fOBX1 := OBX.out.f 1 (by simp); have lOBX := OBX.out.lt
        go_wp2_with fail
        clear cOBX0 fOBX0 cOBX1 fOBX1 lOBX
        refine hrb.mono ?_; rintro e w9 ⟨v9, rfl, ⟨A9, c9, rfl, _, hr9, _⟩, h9⟩
        replace BCr := Lib.hid (BCr.out.below h9 BCr.out.lt); replace OBX := Lib.hid (OBX.out.below h9 OBX.out.lt); replace OB2 := Lib.hid (OB2.out.below h9 OB2.out.lt); replace HFr := Lib.hid (below_step' HFr.out h9); replace RKr := Lib.hid (RKr.out.below h9); replace RLr := Lib.hid (RLr.out.below h9); replace UK := Lib.hid (UK.out.below h9); replace UL := Lib.hid (UL.out.below h9); replace VS := Lib.hid (VS.out.below h9)
        have hal := galike_same AK5 AL5 AK AL ck5 cl5 ck cl q1 q2 w9 UK.out UL.out RKr.out RLr.out (by omega) (by omega) (fun l hl => by have := HLS.out l hl; omega)
        have HR9 := Lib.hid hr9
        obtain ⟨A8', c8', e8, _, hr8, _⟩ := VS.out
        obtain ⟨rfl, rfl⟩ : A8 = A8' ∧ c8 = c8' := by simpa using e8
        have HR8 := Lib.hid hr8
        clear hrb h9 hr9 hr8 e8 VS
        have cBCr0 := BCr.out.c 0 _ rfl; have fBCr0 := BCr.out.f 0 (by simp); have cBCr1 := BCr.out.c 1 _ rfl; have fBCr1 := BCr.out.f 1 (by simp); have lBCr := BCr.out.lt; have cOB20 := OB2.out.c 0 _ rfl; have fOB20 := OB2.out.f 0 (by simp); have cOB21 := OB2.out.c 1 _ rfl; have fOB21 := OB2.out.f 1 (by simp); have lOB2 := OB2.out.lt
        go_wp2_with (first | (go_at_call 13; (with_reducible refine (num_any _ _).mono ?_); rintro e w' ⟨rfl, rfl⟩) | (go_at_call 12; (with_reducible refine hal.mono ?_); rintro e w' ⟨rfl, hb⟩; replace HFr := Lib.hid (below_step' HFr.out hb); replace HR8 := Lib.hid (HR8.out.below hb); replace HR9 := Lib.hid (HR9.out.below hb); clear hb) | (go_at_call 18; (with_reducible refine (samePairs_same A8 A9 c8 c9 P1 _ HR8.out HR9.out (by omega)).mono ?_); rintro e w' ⟨rfl, hb⟩; replace HFr := Lib.hid (below_step' HFr.out hb)))
        go_ret
        exact ⟨rfl, HFr.out⟩
      · have hg1 := HPB.out hr
        have hr1 : (er == 0) = false := by simpa using hr
        have hz : (K.length : Int) = 0 := by rw [hg1]; rfl
        clear HPU HPS HPC HPB hg1 SK SL
        have cOBX0 := OBX.out.c 0 _ rfl; have fOBX0 := OBX.out.f 0 (by simp); have cOBX1 := OBX.out.c 1 _ rfl; have fOBX1 := OBX.out.f 1 (by simp); have lOBX := OBX.out.lt
        go_wp2_with (go_at_call 13; (with_reducible refine (num_any _ _).mono ?_); rintro e w' ⟨rfl, rfl⟩)
        go_ret
        exact ⟨ret_bool (by simp [hz]), HFr.out⟩
end Go.Proofs.Ytpkacnoimdjckaa
