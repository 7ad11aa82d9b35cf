/- The law LockStays: its walk. -/
import Derived.Test.YtdiclnkkddnncaaAliveL
import Derived.Test.YtdiclnkkddnncaaRdL
import Derived.Test.YtdiclnkkddnncaaWidenW
namespace Go.Proofs.Ytdiclnkkddnncaa
open Go.RowKit
open Go.Shelf
set_option linter.unusedVariables false
set_option linter.unusedSimpArgs false
theorem cov_parts (x : Lk) (key : ByteArray) : cov x key = (!Op.bytesLess key.toList x.lo.toList && (x.hi.toList == [] || Op.bytesLess key.toList x.hi.toList)) := rfl
set_option maxHeartbeats 4000000 in
set_option maxRecDepth 100000 in
theorem stay_law (A : Option Addr) (c : Nat) (l : List Lk) (x : Lk) (t : Int) (key : ByteArray) (w : World) (HR : RowE encL 3 w A l) (hl : l.length * 40 ≤ 140737488351232) (hk : key.size ≤ 140737488351232) :
    Calls Try.prog 7 #[.agg #[.slice A l.length c], .agg #[.int .i64 x.tx, .string x.lo, .string x.hi], .int .i64 t, .string key] w fun e w' => e = .returned (.bool true) ∧ Below w.heap.size w w' := by
  have B2 := (Box1.new w (.slice A l.length c) 24).alloc (.cells #[.int .i64 x.tx, .string x.lo, .string x.hi] 26)
  have B3 := Box3.new (w.alloc (.cells #[.slice A l.length c] 24)) (.int .i64 x.tx) (.string x.lo) (.string x.hi) 26
  have ba : Below w.heap.size w ((w.alloc (.cells #[.slice A l.length c] 24)).alloc (.cells #[.int .i64 x.tx, .string x.lo, .string x.hi] 26)) := (by (repeat (first | (with_reducible exact Below.refl _ _) | apply below_alloc _ (Nat.le_refl _) | refine below_set ?_ (by first | exact Nat.le_refl _ | omega) | apply below_drewN | refine below_step ?_ HB)))
  have hal := alive_any ((w.alloc (.cells #[.slice A l.length c] 24)).alloc (.cells #[.int .i64 x.tx, .string x.lo, .string x.hi] 26))
  have HR0 := Lib.hid (HR.below ba)
  simp only [World.size_alloc] at B3
  clear HR
  go_enter Try.func7, Try.ntmps7
  go_wp2_with fail
  refine hal.mono ?_; rintro e w1 ⟨rfl, h1⟩
  have HB2 := B2.step h1
  have HB3 := Lib.hid (B3.below h1 B3.lt)
  have HF1 := ba.trans (h1.mono (by simp; omega))
  have hof := of_any A c l w1 (HR0.out.below h1) hl
  clear hal h1 HR0 B2 B3 ba
  obtain ⟨c20, f20, l2⟩ := HB2
  go_wp2_with fail
  refine hof.mono ?_; rintro e w2 ⟨v2, rfl, hv2, h2⟩
  obtain ⟨A2, c2, rfl, hr2, hn2, _⟩ := hv2.outL
  have W2 : Below w2.heap.size w2 (w2.alloc (.cells #[.slice A2 l.length c2] 30)) := (Below.refl _ _).alloc (Nat.le_refl _) _
  have B9 := Box1.new w2 (.slice A2 l.length c2) 30
  have R9 := Lib.hid (hr2.below W2)
  have HC3 := (HB3.out.below h2 HB3.out.lt).alloc (.cells #[.slice A2 l.length c2] 30)
  have HF2 := (HF1.trans (h2.mono HF1.size)).alloc (HF1.trans (h2.mono HF1.size)).size (.cells #[.slice A2 l.length c2] 30)
  have had := add_any A2 c2 l x _ R9.out hn2 (by omega)
  have B9' := Lib.hid B9
  have HC3' := Lib.hid HC3
  clear c20 f20 l2 hof hv2 hr2 h2 W2 HB3 HF1
  obtain ⟨c90, f90, l9⟩ := B9
  obtain ⟨c30, c31, c32, f30, f31, f32, l3⟩ := HC3
  go_wp2_with fail
  refine had.mono ?_; rintro e w3 ⟨v3, rfl, hv3, h3⟩
  have OKC : Hid ((addL l x).2 = 0 → chkL l = 0 ∧ chkL (addL l x).1 = 0 ∧ ∀ t, (covT (addL l x).1 t key = true ↔ ((x.tx = t ∧ cov x key = true) ∨ covT l t key = true))) := Lib.hid (fun h => ⟨(add_ok h).1, add_chk h, fun t => add_cov h t key⟩)
  have BAD : Hid ((addL l x).2 ≠ 0 → (addL l x).1 = []) := Lib.hid add_bad
  generalize (addL l x).2 = e at *
  generalize (addL l x).1 = r at *
  obtain ⟨A3, c3, rfl, hr3, hn3, _⟩ := hv3.outL
  have W3 : Below w3.heap.size w3 (w3.alloc (.cells #[.slice A3 r.length c3] 30)) := (Below.refl _ _).alloc (Nat.le_refl _) _
  have BA := Box1.new w3 (.slice A3 r.length c3) 30
  have RA := Lib.hid (hr3.below W3)
  have D9 := (B9'.out.step h3).alloc (.cells #[.slice A3 r.length c3] 30)
  have D3 := (HC3'.out.below h3 HC3'.out.lt).alloc (.cells #[.slice A3 r.length c3] 30)
  have R9' := Lib.hid ((R9.out.below h3).below W3)
  have HF3 := (HF2.trans (h3.mono HF2.size)).alloc (HF2.trans (h3.mono HF2.size)).size (.cells #[.slice A3 r.length c3] 30)
  have hz3 := HF3.size
  clear c90 f90 l9 c30 c31 c32 f30 f31 f32 l3 had hv3 hr3 h3 W3 B9' HC3' R9 HF2
  by_cases he : e = 0
  · subst he
    obtain ⟨k1, k2, k3⟩ := OKC.out (by trivial)
    have K1 := Lib.hid k1
    have K2 := Lib.hid k2
    have K3 := Lib.hid k3
    have hC := Lib.hid (cov_parts x key)
    have hlr : r.length ≤ 512 := ((chkL_iff r).1 k2).1
    have D9' := Lib.hid D9
    have BA' := Lib.hid BA
    have D3' := Lib.hid D3
    clear OKC BAD k1 k2 k3
    obtain ⟨tx, lo, hi⟩ := x
    dsimp only at *
    obtain ⟨c90, f90, l9⟩ := D9
    obtain ⟨ca0, fa0, la⟩ := BA
    obtain ⟨c30, c31, c32, f30, f31, f32, l3⟩ := D3
    go_upto_region 7 with ((with_reducible refine (num_any _ _).mono ?_); rintro e wn ⟨rfl, rfl⟩)
    generalize w3.alloc (.cells #[.slice A3 r.length c3] 30) = wa at *
    go_cut [12] (fun p wx => p = .bool (cov ⟨tx, lo, hi⟩ key) ∧ wx = wa)
    case first =>
      cases hb : Op.bytesLess key.toList lo.toList with
      | true =>
        go_wp2_with fail
        go_meet
        exact ⟨by rw [hC.out]; simp_all, rfl⟩
      | false =>
        cases hh : hi.toList == [] with
        | true =>
          have hh' : hi.toList = [] := by simpa using hh
          go_wp2_with fail
          all_goals (go_meet; exact ⟨by rw [hC.out]; simp_all, rfl⟩)
        | false =>
          have hh' : ¬ hi.toList = [] := by simpa using hh
          go_wp2_with fail
          all_goals (go_meet; exact ⟨by rw [hC.out]; simp_all, rfl⟩)
    case rest =>
    obtain ⟨rfl, hwc⟩ := hcut
    replace hwc := hwc.symm
    subst hwc
    clear hC
    have KX : Hid (cov ⟨tx, lo, hi⟩ key = true → covT r tx key = true) := Lib.hid (fun h => (K3.out tx).2 (.inl ⟨rfl, h⟩))
    have KT : Hid (covT l t key = true → covT r t key = true) := Lib.hid (fun h => (K3.out t).2 (.inr h))
    have hwc := widen_chk (l := r) (t := tx) (m := 1) (widen_one tx K2.out)
    have hwv := widen_cov (l := r) (t := tx) (m := 1) (widen_one tx K2.out) t key
    have hw0 := widen_one (l := r) tx K2.out
    have RDx := fun (W : World) (h : RowE encL 3 W A3 r) => reads_any A3 c3 r tx key W h K2.out hk
    have RDa := fun (W : World) (h : RowE encL 3 W A3 r) => reads_any A3 c3 r t key W h K2.out hk
    have RDo := fun (W : World) (h : RowE encL 3 W A2 l) => reads_any A2 c2 l t key W h K1.out hk
    have WID := fun (W : World) (h : RowE encL 3 W A3 r) => widen_any A3 c3 r tx 1 W h hn3 (by omega)
    have DRP := fun (W : World) (h : RowE encL 3 W A3 r) => drop_any A3 c3 r tx W h hn3 (by omega)
    rw [hw0] at WID
    rw [drop_ok tx K2.out] at DRP
    dsimp only at DRP
    have hd1 := others_chk tx K2.out
    have hd2 : covT (othersL r tx) tx key = false := by
      cases h : covT (othersL r tx) tx key with
      | false => rfl
      | true => exact absurd rfl ((drop_cov r tx tx key).1 h).1
    have hd3 : t ≠ tx → covT (othersL r tx) t key = covT r t key := fun h => by
      have := drop_cov r tx t key
      cases h1 : covT (othersL r tx) t key <;> cases h2 : covT r t key <;> simp_all
    generalize (widenL r tx 1).1 = r2 at *
    generalize othersL r tx = r3 at *
    have RDb := fun (W : World) (A4 : Option Addr) (c4 : Nat) (h : RowE encL 3 W A4 r2) => reads_any A4 c4 r2 t key W h hwc hk
    have RDcx := fun (W : World) (A4 : Option Addr) (c4 : Nat) (h : RowE encL 3 W A4 r3) => reads_any A4 c4 r3 tx key W h hd1 hk
    have RDct := fun (W : World) (A4 : Option Addr) (c4 : Nat) (h : RowE encL 3 W A4 r3) => reads_any A4 c4 r3 t key W h hd1 hk
    rw [hd2] at RDcx
    have HWV : Hid (covT r t key = true → covT r2 t key = true) := Lib.hid hwv
    have HD3 := Lib.hid hd3
    clear hwc hwv hw0 hd1 hd2 hd3 K1 K2 K3
    generalize covT r t key = ca at *
    generalize covT l t key = cl at *
    generalize covT r2 t key = cb at *
    generalize covT r3 t key = cc at *
    have HRDx := Lib.hid RDx
    have HRDa := Lib.hid RDa
    have HRDo := Lib.hid RDo
    have HWID := Lib.hid WID
    have HDRP := Lib.hid DRP
    have HRDb := Lib.hid RDb
    have HRDcx := Lib.hid RDcx
    have HRDct := Lib.hid RDct
    clear RDx RDa RDo WID DRP RDb RDcx RDct
    generalize cov ⟨tx, lo, hi⟩ key = cin at *
    generalize covT r tx key = cx at *
    go_upto_region 8 with (fail)
    go_cut [70] (fun p wx => p = .bool false ∧ Hid (Below wa.heap.size wa wx))
    case first =>
      cases cin with
      | true =>
        have kx := KX.out rfl
        subst kx
        cases cl with
        | true =>
          have kt := KT.out rfl
          subst kt
          go_wp2_with (first | (go_at_call 14; (with_reducible refine (HRDx.out _ (by first | exact RA.out | exact RA.out.below HX)).mono ?_); rintro e w' ⟨rfl, hb⟩; (first | (replace HX := below_step HX hb) | (have HX := hb)); clear hb; (try clear hc_HX hf_HX hs_HX hz_HX); obtain ⟨hc_HX, hf_HX, hs_HX⟩ := bcell HX; have hz_HX := HX.size; (try simp at hz_HX)) | (go_at_call 14; (with_reducible refine (HRDo.out _ (by first | exact R9'.out | exact R9'.out.below HX)).mono ?_); rintro e w' ⟨rfl, hb⟩; (first | (replace HX := below_step HX hb) | (have HX := hb)); clear hb; (try clear hc_HX hf_HX hs_HX hz_HX); obtain ⟨hc_HX, hf_HX, hs_HX⟩ := bcell HX; have hz_HX := HX.size; (try simp at hz_HX)) | (go_at_call 14; (with_reducible refine (HRDa.out _ (by first | exact RA.out | exact RA.out.below HX)).mono ?_); rintro e w' ⟨rfl, hb⟩; (first | (replace HX := below_step HX hb) | (have HX := hb)); clear hb; (try clear hc_HX hf_HX hs_HX hz_HX); obtain ⟨hc_HX, hf_HX, hs_HX⟩ := bcell HX; have hz_HX := HX.size; (try simp at hz_HX)))
          go_meet
          exact ⟨rfl, Lib.hid (by first | exact HX | exact Below.refl _ _)⟩
        | false =>
          go_wp2_with (first | (go_at_call 14; (with_reducible refine (HRDx.out _ (by first | exact RA.out | exact RA.out.below HX)).mono ?_); rintro e w' ⟨rfl, hb⟩; (first | (replace HX := below_step HX hb) | (have HX := hb)); clear hb; (try clear hc_HX hf_HX hs_HX hz_HX); obtain ⟨hc_HX, hf_HX, hs_HX⟩ := bcell HX; have hz_HX := HX.size; (try simp at hz_HX)) | (go_at_call 14; (with_reducible refine (HRDo.out _ (by first | exact R9'.out | exact R9'.out.below HX)).mono ?_); rintro e w' ⟨rfl, hb⟩; (first | (replace HX := below_step HX hb) | (have HX := hb)); clear hb; (try clear hc_HX hf_HX hs_HX hz_HX); obtain ⟨hc_HX, hf_HX, hs_HX⟩ := bcell HX; have hz_HX := HX.size; (try simp at hz_HX)) | (go_at_call 14; (with_reducible refine (HRDa.out _ (by first | exact RA.out | exact RA.out.below HX)).mono ?_); rintro e w' ⟨rfl, hb⟩; (first | (replace HX := below_step HX hb) | (have HX := hb)); clear hb; (try clear hc_HX hf_HX hs_HX hz_HX); obtain ⟨hc_HX, hf_HX, hs_HX⟩ := bcell HX; have hz_HX := HX.size; (try simp at hz_HX)))
          go_meet
          exact ⟨rfl, Lib.hid (by first | exact HX | exact Below.refl _ _)⟩
      | false =>
        cases cl with
        | true =>
          have kt := KT.out rfl
          subst kt
          go_wp2_with (first | (go_at_call 14; (with_reducible refine (HRDx.out _ (by first | exact RA.out | exact RA.out.below HX)).mono ?_); rintro e w' ⟨rfl, hb⟩; (first | (replace HX := below_step HX hb) | (have HX := hb)); clear hb; (try clear hc_HX hf_HX hs_HX hz_HX); obtain ⟨hc_HX, hf_HX, hs_HX⟩ := bcell HX; have hz_HX := HX.size; (try simp at hz_HX)) | (go_at_call 14; (with_reducible refine (HRDo.out _ (by first | exact R9'.out | exact R9'.out.below HX)).mono ?_); rintro e w' ⟨rfl, hb⟩; (first | (replace HX := below_step HX hb) | (have HX := hb)); clear hb; (try clear hc_HX hf_HX hs_HX hz_HX); obtain ⟨hc_HX, hf_HX, hs_HX⟩ := bcell HX; have hz_HX := HX.size; (try simp at hz_HX)) | (go_at_call 14; (with_reducible refine (HRDa.out _ (by first | exact RA.out | exact RA.out.below HX)).mono ?_); rintro e w' ⟨rfl, hb⟩; (first | (replace HX := below_step HX hb) | (have HX := hb)); clear hb; (try clear hc_HX hf_HX hs_HX hz_HX); obtain ⟨hc_HX, hf_HX, hs_HX⟩ := bcell HX; have hz_HX := HX.size; (try simp at hz_HX)))
          go_meet
          exact ⟨rfl, Lib.hid (by first | exact HX | exact Below.refl _ _)⟩
        | false =>
          go_wp2_with (first | (go_at_call 14; (with_reducible refine (HRDx.out _ (by first | exact RA.out | exact RA.out.below HX)).mono ?_); rintro e w' ⟨rfl, hb⟩; (first | (replace HX := below_step HX hb) | (have HX := hb)); clear hb; (try clear hc_HX hf_HX hs_HX hz_HX); obtain ⟨hc_HX, hf_HX, hs_HX⟩ := bcell HX; have hz_HX := HX.size; (try simp at hz_HX)) | (go_at_call 14; (with_reducible refine (HRDo.out _ (by first | exact R9'.out | exact R9'.out.below HX)).mono ?_); rintro e w' ⟨rfl, hb⟩; (first | (replace HX := below_step HX hb) | (have HX := hb)); clear hb; (try clear hc_HX hf_HX hs_HX hz_HX); obtain ⟨hc_HX, hf_HX, hs_HX⟩ := bcell HX; have hz_HX := HX.size; (try simp at hz_HX)) | (go_at_call 14; (with_reducible refine (HRDa.out _ (by first | exact RA.out | exact RA.out.below HX)).mono ?_); rintro e w' ⟨rfl, hb⟩; (first | (replace HX := below_step HX hb) | (have HX := hb)); clear hb; (try clear hc_HX hf_HX hs_HX hz_HX); obtain ⟨hc_HX, hf_HX, hs_HX⟩ := bcell HX; have hz_HX := HX.size; (try simp at hz_HX)))
          go_meet
          exact ⟨rfl, Lib.hid (by first | exact HX | exact Below.refl _ _)⟩
    case rest =>
    obtain ⟨rfl, hwc⟩ := hcut
    have HFb := Lib.hid (HF3.trans (hwc.out.mono hz3))
    have RAb := Lib.hid (RA.out.below hwc.out)
    have BAb := Lib.hid (BA'.out.step hwc.out)
    have D3b := Lib.hid (D3'.out.below hwc.out D3'.out.lt)
    clear c90 f90 l9 ca0 fa0 la c30 c31 c32 f30 f31 f32 l3 hwc BA' D3' D9' R9' RA HF3 hz3 HRDo KX KT
    have hz4 := HFb.out.size
    obtain ⟨ca0, fa0, la⟩ := id BAb.out
    obtain ⟨c30, c31, c32, f30, f31, f32, l3⟩ := id D3b.out
    have hwid := HWID.out _ RAb.out
    clear HWID
    go_wp2_with fail
    refine hwid.mono ?_; rintro e w5 ⟨v5, rfl, hv5, h5⟩
    obtain ⟨A5, c5, rfl, hr5, hn5, _⟩ := hv5.outL
    have W5 : Below w5.heap.size w5 (w5.alloc (.cells #[.slice A5 r2.length c5] 30)) := (Below.refl _ _).alloc (Nat.le_refl _) _
    have BB := Lib.hid (Box1.new w5 (.slice A5 r2.length c5) 30)
    have RB := Lib.hid (hr5.below W5)
    have BAc := Lib.hid ((BAb.out.step h5).alloc (.cells #[.slice A5 r2.length c5] 30))
    have D3c := Lib.hid ((D3b.out.below h5 D3b.out.lt).alloc (.cells #[.slice A5 r2.length c5] 30))
    have RAc := Lib.hid ((RAb.out.below h5).below W5)
    have HFc := Lib.hid ((HFb.out.trans (h5.mono hz4)).alloc (HFb.out.trans (h5.mono hz4)).size (.cells #[.slice A5 r2.length c5] 30))
    clear ca0 fa0 la c30 c31 c32 f30 f31 f32 l3 hwid hv5 hr5 h5 W5 BAb D3b RAb HFb hz4
    go_upto_region 11 with (fail)
    generalize w5.alloc (.cells #[.slice A5 r2.length c5] 30) = wb at *
    obtain ⟨ca0, fa0, la⟩ := id BAc.out
    obtain ⟨c30, c31, c32, f30, f31, f32, l3⟩ := id D3c.out
    obtain ⟨cb0, fb0, lb⟩ := id BB.out
    go_cut [93] (fun p wx => p = .bool false ∧ Hid (Below wb.heap.size wb wx))
    case first =>
      cases ca with
      | true =>
        have kt := HWV.out rfl
        subst kt
        go_wp2_with (first | ((with_reducible refine (num_any _ _).mono ?_); rintro e wn ⟨rfl, rfl⟩) | (go_at_call 14; (with_reducible refine (HRDa.out _ (by first | exact RAc.out | exact RAc.out.below HX)).mono ?_); rintro e w' ⟨rfl, hb⟩; (first | (replace HX := below_step HX hb) | (have HX := hb)); clear hb; (try clear hc_HX hf_HX hs_HX hz_HX); obtain ⟨hc_HX, hf_HX, hs_HX⟩ := bcell HX; have hz_HX := HX.size; (try simp at hz_HX)) | (go_at_call 14; (with_reducible refine (HRDb.out _ _ _ (by first | exact RB.out | exact RB.out.below HX)).mono ?_); rintro e w' ⟨rfl, hb⟩; (first | (replace HX := below_step HX hb) | (have HX := hb)); clear hb; (try clear hc_HX hf_HX hs_HX hz_HX); obtain ⟨hc_HX, hf_HX, hs_HX⟩ := bcell HX; have hz_HX := HX.size; (try simp at hz_HX)))
        go_meet
        exact ⟨rfl, Lib.hid (by first | exact HX | exact Below.refl _ _)⟩
      | false =>
        go_wp2_with (first | ((with_reducible refine (num_any _ _).mono ?_); rintro e wn ⟨rfl, rfl⟩) | (go_at_call 14; (with_reducible refine (HRDa.out _ (by first | exact RAc.out | exact RAc.out.below HX)).mono ?_); rintro e w' ⟨rfl, hb⟩; (first | (replace HX := below_step HX hb) | (have HX := hb)); clear hb; (try clear hc_HX hf_HX hs_HX hz_HX); obtain ⟨hc_HX, hf_HX, hs_HX⟩ := bcell HX; have hz_HX := HX.size; (try simp at hz_HX)) | (go_at_call 14; (with_reducible refine (HRDb.out _ _ _ (by first | exact RB.out | exact RB.out.below HX)).mono ?_); rintro e w' ⟨rfl, hb⟩; (first | (replace HX := below_step HX hb) | (have HX := hb)); clear hb; (try clear hc_HX hf_HX hs_HX hz_HX); obtain ⟨hc_HX, hf_HX, hs_HX⟩ := bcell HX; have hz_HX := HX.size; (try simp at hz_HX)))
        go_meet
        exact ⟨rfl, Lib.hid (by first | exact HX | exact Below.refl _ _)⟩
    case rest =>
    obtain ⟨rfl, hwc⟩ := hcut
    have hzc := HFc.out.size
    have HFd := Lib.hid (HFc.out.trans (hwc.out.mono hzc))
    have RAd := Lib.hid (RAc.out.below hwc.out)
    have BAd := Lib.hid (BAc.out.step hwc.out)
    have D3d := Lib.hid (D3c.out.below hwc.out D3c.out.lt)
    clear ca0 fa0 la c30 c31 c32 f30 f31 f32 l3 cb0 fb0 lb hwc BAc D3c RAc HFc BB RB HRDb HWV hzc
    have hz4 := HFd.out.size
    obtain ⟨ca0, fa0, la⟩ := id BAd.out
    obtain ⟨c30, c31, c32, f30, f31, f32, l3⟩ := id D3d.out
    have hdrp := HDRP.out _ RAd.out
    clear HDRP
    go_wp2_with fail
    refine hdrp.mono ?_; rintro e w6 ⟨v6, rfl, hv6, h6⟩
    obtain ⟨A6, c6, rfl, hr6, hn6, _⟩ := hv6.outL
    have W6 : Below w6.heap.size w6 (w6.alloc (.cells #[.slice A6 r3.length c6] 30)) := (Below.refl _ _).alloc (Nat.le_refl _) _
    have BC := Lib.hid (Box1.new w6 (.slice A6 r3.length c6) 30)
    have RC := Lib.hid (hr6.below W6)
    have BAe := Lib.hid ((BAd.out.step h6).alloc (.cells #[.slice A6 r3.length c6] 30))
    have D3e := Lib.hid ((D3d.out.below h6 D3d.out.lt).alloc (.cells #[.slice A6 r3.length c6] 30))
    have RAe := Lib.hid ((RAd.out.below h6).below W6)
    have HFe := Lib.hid ((HFd.out.trans (h6.mono hz4)).alloc (HFd.out.trans (h6.mono hz4)).size (.cells #[.slice A6 r3.length c6] 30))
    clear ca0 fa0 la c30 c31 c32 f30 f31 f32 l3 hdrp hv6 hr6 h6 W6 BAd D3d RAd HFd hz4
    go_upto_region 14 with (fail)
    generalize w6.alloc (.cells #[.slice A6 r3.length c6] 30) = wd at *
    have q0 := later_cell BAe.out.lt BAe.out.c0
    have q1 := later_cell D3e.out.lt D3e.out.c0
    have q2 := later_cell BC.out.lt BC.out.c0
    have C1 : Hid (∀ p : Later wd, Calls Try.prog 14 #[.agg #[.slice A6 r3.length c6], .int .i64 tx, .string key] p.W fun e w' => e = .returned (.bool false) ∧ Below p.W.heap.size p.W w') := Lib.hid (fun p => HRDcx.out _ _ _ (RC.out.below p.h))
    have C2 : Hid (∀ p : Later wd, Calls Try.prog 14 #[.agg #[.slice A6 r3.length c6], .int .i64 t, .string key] p.W fun e w' => e = .returned (.bool cc) ∧ Below p.W.heap.size p.W w') := Lib.hid (fun p => HRDct.out _ _ _ (RC.out.below p.h))
    have C3 : Hid (∀ p : Later wd, Calls Try.prog 14 #[.agg #[.slice A3 r.length c3], .int .i64 t, .string key] p.W fun e w' => e = .returned (.bool ca) ∧ Below p.W.heap.size p.W w') := Lib.hid (fun p => HRDa.out _ (RAe.out.below p.h))
    have hze := HFe.out.size
    clear HRDx HRDa HRDcx HRDct
    by_cases ht : t = tx
    · subst ht
      clear HD3
      (refine wp_region_later (by kernel_rfl) (by kernel_rfl) ?_
       repeat (first | go_big_quiet_step ((first | (go_at_call 12; exact later_same (num_any _ _)) | (go_at_call 14; exact later_of (C1.out _)))) | quiet_step ((first | (go_at_call 12; exact later_same (num_any _ _)) | (go_at_call 14; exact later_of (C1.out _)))))
       refine wpQuiet_nil ?_
       intro _ hw'
       obtain ⟨qL, hw''⟩ := hw'
       subst hw''
       obtain ⟨wL, h⟩ := qL)
      go_wp2
      go_ret
      exact ⟨rfl, HFe.out.trans (h.mono hze)⟩
    · have hcc := HD3.out ht
      subst hcc
      have ht' : (t == tx) = false := by simpa using ht
      clear HD3
      (refine wp_region_later (by kernel_rfl) (by kernel_rfl) ?_
       repeat (first | go_big_quiet_step ((first | (go_at_call 12; exact later_same (num_any _ _)) | (go_at_call 14; with_reducible exact later_of (C1.out _)) | (go_at_call 14; with_reducible exact later_of (C2.out _)) | (go_at_call 14; with_reducible exact later_of (C3.out _)))) | quiet_step ((first | (go_at_call 12; exact later_same (num_any _ _)) | (go_at_call 14; with_reducible exact later_of (C1.out _)) | (go_at_call 14; with_reducible exact later_of (C2.out _)) | (go_at_call 14; with_reducible exact later_of (C3.out _)))))
       refine wpQuiet_nil ?_
       intro _ hw'
       obtain ⟨qL, hw''⟩ := hw'
       subst hw''
       obtain ⟨wL, h⟩ := qL)
      go_wp2
      go_ret
      exact ⟨ret_bool (by simp), HFe.out.trans (h.mono hze)⟩
  · have he' : (e == 0) = false := by simpa using he
    obtain rfl := BAD.out he
    obtain ⟨ca0, fa0, la⟩ := BA
    clear OKC BAD
    go_wp2_with (refine (num_any _ _).mono ?_; rintro e wn ⟨rfl, rfl⟩)
    go_ret
    exact ⟨rfl, HF3⟩
end Go.Proofs.Ytdiclnkkddnncaa
