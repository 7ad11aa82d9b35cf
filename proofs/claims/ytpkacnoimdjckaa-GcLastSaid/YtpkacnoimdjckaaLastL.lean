/- The law GcLast. -/
import Derived.Test.YtpkacnoimdjckaaAliveG
import Derived.Test.YtpkacnoimdjckaaLawG
namespace Go.Proofs.Ytpkacnoimdjckaa
open Go.RowKit
open Go.Shelf
set_option linter.unusedVariables false
set_option linter.unusedSimpArgs false
set_option maxHeartbeats 4000000 in
set_option maxRecDepth 100000 in
theorem last_law (AK AL : Option Addr) (ck cl : Nat) (ks : List ByteArray) (ls : List (List Ver)) (w : World) (HK : RowE encS 1 w AK ks) (HL : RowL w AL ls) (hnk : AK = none → ck = 0) (hk : ks.length * 16 ≤ 140737488351232) (hl : ls.length * 24 ≤ 140737488351232) (hls : ∀ l ∈ ls, l.length * 40 ≤ 140737488351232) :
    Calls Try.prog 4 #[.agg #[.slice AK ks.length ck, .slice AL ls.length cl]] w fun e w' => e = .returned (.bool true) ∧ Below w.heap.size w w' := by
  have h0 : Below w.heap.size w (w.alloc (.cells #[.slice AK ks.length ck, .slice AL ls.length cl] 25)) := (by (repeat (first | (with_reducible exact Below.refl _ _) | apply below_alloc _ (Nat.le_refl _) | refine below_set ?_ (by first | exact Nat.le_refl _ | omega) | apply below_drewN | refine below_step ?_ HB)))
  have BC := Lib.hid (Box.new w #[.slice AK ks.length ck, .slice AL ls.length cl] 25)
  have HF := Lib.hid h0
  have RK := Lib.hid HK
  have RL := Lib.hid HL
  have HLS := Lib.hid hls
  clear h0 HK HL hls
  go_enter Try.func4, Try.ntmps4
  go_wp2_with fail
  generalize w.alloc (.cells #[.slice AK ks.length ck, .slice AL ls.length cl] 25) = w0 at *
  refine (alive_any _).mono ?_; rintro e w1 ⟨rfl, h1⟩
  replace BC := Lib.hid (BC.out.below h1 BC.out.lt); replace HF := Lib.hid (below_step' HF.out h1)
  clear h1
  go_wp2_with fail
  go_loopw [3] (fun s3 wr => ∃ j : Nat, j ≤ ls.length ∧ s3 = .int .i64 j ∧ Hid (Below w.heap.size w wr) ∧ Hid (Box wr w.heap.size [.slice AK ks.length ck, .slice AL ls.length cl]) ∧ Hid (∀ i, i < j → ∀ v m, ls[i]? = some (v :: m) → v.st ≠ 0)) (fun s3 _ => ls.length - (Lib.intOf s3).toNat)
  case atStart => exact ⟨0, Nat.zero_le _, rfl, HF, BC, Lib.hid (fun i h => absurd h (Nat.not_lt_zero _))⟩
  case round =>
    obtain ⟨j, hj, rfl, HFr, BCr, HN⟩ := hrel
    clear HF BC
    by_cases hlt : j < ls.length
    · obtain ⟨l, hl0⟩ : ∃ l, ls[j]? = some l := ⟨_, List.getElem?_eq_getElem hlt⟩
      obtain ⟨bl, ol, v, rfl, hbl, hcl, A, c', rfl, hlc, hrl, hnl⟩ := RL.out j l hl0
      have gl : wr.cell? ⟨bl, ol + j, none⟩ = some (.slice A l.length c') := (HFr.out.cell (p := ⟨bl, ol + j, none⟩) hbl).trans hcl
      have hji : (j : Int) < (ls.length : Int) := by omega
      cases l with
      | nil =>
        have HN2 : Hid (∀ i, i < j + 1 → ∀ v m, ls[i]? = some (v :: m) → v.st ≠ 0) := Lib.hid (fun i hi v m h => by
          by_cases e : i = j
          · subst e; rw [hl0] at h; cases h
          · exact HN.out i (by omega) v m h)
        clear hcl hrl hnl hl0 HN
        simp only [List.length_nil] at gl
        have cBCr0 := BCr.out.c 0 _ rfl; have fBCr0 := BCr.out.f 0 (by simp); have cBCr1 := BCr.out.c 1 _ rfl; have fBCr1 := BCr.out.f 1 (by simp); have lBCr := BCr.out.lt
        go_wp2_with fail
        go_roundw
        case rel => exact ⟨j + 1, by omega, by go_num, HFr, BCr, HN2⟩
        case measure => simp [Lib.intOf]; omega
      | cons x m =>
        obtain ⟨b0, off, rfl, hb0, e0, e1, e2, e3⟩ := hrl.four (j := 0) (x := x) (B := 0) rfl HFr.out
        simp only [Nat.zero_mul, Nat.add_zero] at e0
        have hp2 : (0 : Int) < (m.length : Int) + 1 := by omega
        simp only [List.length_cons] at gl
        by_cases hst : x.st = 0
        · rw [hst] at e0
          clear hcl hrl hnl e1 e2 e3 hl0
          have cBCr0 := BCr.out.c 0 _ rfl; have fBCr0 := BCr.out.f 0 (by simp); have cBCr1 := BCr.out.c 1 _ rfl; have fBCr1 := BCr.out.f 1 (by simp); have lBCr := BCr.out.lt
          go_wp2_with fail
          go_ret
          exact ⟨rfl, HFr.out⟩
        · have hs1 : (x.st == 0) = false := by simpa using hst
          have HN2 : Hid (∀ i, i < j + 1 → ∀ v m, ls[i]? = some (v :: m) → v.st ≠ 0) := Lib.hid (fun i hi v m h => by
            by_cases e : i = j
            · subst e; rw [hl0] at h; cases h; exact hst
            · exact HN.out i (by omega) v m h)
          clear hcl hrl hnl e1 e2 e3 hl0 HN
          have cBCr0 := BCr.out.c 0 _ rfl; have fBCr0 := BCr.out.f 0 (by simp); have cBCr1 := BCr.out.c 1 _ rfl; have fBCr1 := BCr.out.f 1 (by simp); have lBCr := BCr.out.lt
          go_wp2_with fail
          go_roundw
          case rel => exact ⟨j + 1, by omega, by go_num, HFr, BCr, HN2⟩
          case measure => simp [Lib.intOf]; omega
    · obtain rfl : j = ls.length := by omega
      have HNA : Hid (∀ l ∈ ls, ∀ v m, l = v :: m → v.st ≠ 0) := Lib.hid (fun l hl v m e => by
        obtain ⟨i, hi⟩ := List.mem_iff_getElem?.1 hl
        exact HN.out i (lt_of_get hi) v m (e ▸ hi))
      have hof := gof_any AK AL ck cl ks ls wr (RK.out.below HFr.out) (RL.out.below HFr.out) hnk hk hl HLS.out
      clear HN RK RL HLS
      have cBCr0 := BCr.out.c 0 _ rfl; have fBCr0 := BCr.out.f 0 (by simp); have cBCr1 := BCr.out.c 1 _ rfl; have fBCr1 := BCr.out.f 1 (by simp); have lBCr := BCr.out.lt
      go_wp2_with fail
      clear cBCr0 fBCr0 cBCr1 fBCr1 lBCr
      refine hof.mono ?_; rintro e w2 ⟨v2, rfl, hv2, h2⟩
      have HF2 := Lib.hid (below_step' HFr.out h2)
      obtain ⟨AK2, AL2, ck2, cl2, rfl, hrk2, hrl2, _⟩ := hv2
      have hsw := sweep_any AK2 AL2 ck2 cl2 ks ls 1099511627776 w2 hrk2 hrl2.row (by omega) (by omega)
      have HLL := Lib.hid (fun hc : chkC ks ls = 0 => last_left hc HNA.out)
      have HLE := Lib.hid (fun hc : chkC ks ls = 0 => sweep_left (h := 1099511627776) hc)
      have HLN := Lib.hid (len_flat (sweepT 1099511627776) (ks.zip ls))
      have HCK := Lib.hid (sweep_chk (h := 1099511627776) (ks := ks) (ls := ls))
      have HBD := Lib.hid (fun hh => sweep_bad (T := sweepT 1099511627776) (ks := ks) (ls := ls) hh)
      have HKL := Lib.hid (keyflat_le (sweepT 1099511627776) ks ls)
      generalize chgR (sweepT 1099511627776) ks ls = g at *
      clear hof h2 HFr HNA hrk2 hrl2
      go_wp2_with fail
      refine hsw.mono ?_; rintro e w3 ⟨v3, rfl, hv3, h3⟩
      have HF3 := Lib.hid (below_step' HF2.out h3)
      obtain ⟨AK3, AL3, ck3, cl3, rfl, hrk3, hrl3, _⟩ := hv3
      clear hsw h3 HF2
      have OBX := Lib.hid (Box.new w3 #[.slice AK3 g.1.length ck3, .slice AL3 g.2.1.length cl3] 28)
      have HB := (Below.refl _ w3).alloc (Nat.le_refl _) (.cells #[.slice AK3 g.1.length ck3, .slice AL3 g.2.1.length cl3] 28)
      have HF4 := Lib.hid (below_step' HF3.out HB)
      have RL4 := Lib.hid (hrl3.row.below HB)
      have hz4 := HF3.out.size
      clear hrk3 hrl3 HF3 HB
      go_upto_region 9 with (fail)
      generalize w3.alloc (.cells #[.slice AK3 g.1.length ck3, .slice AL3 g.2.1.length cl3] 28) = w4 at *
      generalize w3.heap.size = bx at *
      (try clear w3)
      by_cases hr : g.2.2.2 = 0
      · have hc0 : chkC ks ls = 0 := by rw [← HCK.out, hr]
        have hLL := HLL.out hc0
        have hLE := HLE.out hc0
        have hLN := HLN.out
        have hKL := HKL.out
        obtain ⟨g1, g2, g3, g4⟩ := g
        obtain ⟨rfl, rfl, rfl, rfl⟩ : g1 = _ ∧ g2 = _ ∧ g3 = _ ∧ g4 = _ := by simpa using hLE
        clear HLL HLE HLN HKL HBD HCK hLE hr
        dsimp only at *
        generalize (ks.zip ls).flatMap (keyT (sweepT 1099511627776)) = K at *
        generalize (ks.zip ls).flatMap (lstT (sweepT 1099511627776)) = L at *
        have HLLx := Lib.hid hLL
        have HLNx := Lib.hid hLN
        have hL48 : (L.length : Int) ≤ 140737488351232 := by omega
        clear hLL hLN
        have cOBX0 := OBX.out.c 0 _ rfl; have fOBX0 := OBX.out.f 0 (by simp); have cOBX1 := OBX.out.c 1 _ rfl; have fOBX1 := OBX.out.f 1 (by simp); have lOBX := OBX.out.lt
        go_wp2_with (go_at_call 13; (with_reducible refine (num_any _ _).mono ?_); rintro e w' ⟨rfl, rfl⟩)
        clear cOBX0 fOBX0 cOBX1 fOBX1 lOBX
        go_loopw [7] (fun s7 wr => ∃ j : Nat, j ≤ L.length ∧ s7 = .int .i64 j ∧ wr = w4) (fun s7 _ => L.length - (Lib.intOf s7).toNat)
        case atStart => exact ⟨0, Nat.zero_le _, rfl, rfl⟩
        case round =>
          obtain ⟨j, hj, rfl, rfl⟩ := hrel
          by_cases hlt : j < L.length
          · obtain ⟨l, hl0⟩ : ∃ l, L[j]? = some l := ⟨_, List.getElem?_eq_getElem hlt⟩
            obtain ⟨v, rfl, hgn⟩ := HLLx.out l (List.mem_of_getElem? hl0)
            obtain ⟨bl, ol, v', rfl, hbl, hcl, A, c', rfl, hlc, hrl, hnl⟩ := RL4.out j _ hl0
            obtain ⟨b0, off, rfl, hb0, e0, e1, e2, e3⟩ := hrl.four (j := 0) (x := v) (B := 0) rfl (Below.refl _ _)
            simp only [Nat.zero_mul, Nat.add_zero, hgn] at e2
            have hji : (j : Int) < (L.length : Int) := by omega
            simp only [List.length_cons, List.length_nil, Nat.zero_add] at hcl
            clear hrl hnl e0 e1 e3 hl0
            have cOBX0 := OBX.out.c 0 _ rfl; have fOBX0 := OBX.out.f 0 (by simp); have cOBX1 := OBX.out.c 1 _ rfl; have fOBX1 := OBX.out.f 1 (by simp); have lOBX := OBX.out.lt
            go_wp2_with fail
            go_roundw
            case rel => exact ⟨j + 1, by omega, by go_num, trivial⟩
            case measure => simp [Lib.intOf]; omega
          · obtain rfl : j = L.length := by omega
            have e9 : (K.length : Int) = (L.length : Int) := by have := HLNx.out; omega
            have cOBX0 := OBX.out.c 0 _ rfl; have fOBX0 := OBX.out.f 0 (by simp); have cOBX1 := OBX.out.c 1 _ rfl; have fOBX1 := OBX.out.f 1 (by simp); have lOBX := OBX.out.lt
            go_wp2_with fail
            go_ret
            exact ⟨ret_bool (by simp [e9]), HF4.out⟩
      · have hg1 := (HBD.out hr).1
        have hr1 : (g.2.2.2 == 0) = false := by simpa using hr
        have hz : (g.1.length : Int) = 0 := by rw [hg1]; rfl
        clear HLL HLE HLN HKL HBD HCK hg1 RL4
        have cOBX0 := OBX.out.c 0 _ rfl; have fOBX0 := OBX.out.f 0 (by simp); have cOBX1 := OBX.out.c 1 _ rfl; have fOBX1 := OBX.out.f 1 (by simp); have lOBX := OBX.out.lt
        go_wp2_with (go_at_call 13; (with_reducible refine (num_any _ _).mono ?_); rintro e w' ⟨rfl, rfl⟩)
        go_ret
        exact ⟨ret_bool (by simp [hz]), HF4.out⟩
end Go.Proofs.Ytpkacnoimdjckaa
