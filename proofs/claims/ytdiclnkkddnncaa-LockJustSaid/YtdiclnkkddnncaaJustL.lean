/- The law LockJust: its walk. -/
import Derived.Test.YtdiclnkkddnncaaAliveL
import Derived.Test.YtdiclnkkddnncaaRdL
namespace Go.Proofs.Ytdiclnkkddnncaa
open Go.RowKit
open Go.Shelf
set_option linter.unusedVariables false
set_option linter.unusedSimpArgs false
set_option maxHeartbeats 4000000 in
set_option maxRecDepth 100000 in
theorem just_law (A : Option Addr) (c : Nat) (l : List Lk) (x : Lk) (t : Int) (key : ByteArray) (w : World) (HR : RowE encL 3 w A l) (hl : l.length * 40 ≤ 140737488351232) (hk : key.size ≤ 140737488351232) :
    Calls Try.prog 4 #[.agg #[.slice A l.length c], .agg #[.int .i64 x.tx, .string x.lo, .string x.hi], .int .i64 t, .string key] w fun e w' => e = .returned (.bool true) ∧ Below w.heap.size w w' := by
  have B2 := (Box1.new w (.slice A l.length c) 24).alloc (.cells #[.int .i64 x.tx, .string x.lo, .string x.hi] 26)
  have B3 := Box3.new (w.alloc (.cells #[.slice A l.length c] 24)) (.int .i64 x.tx) (.string x.lo) (.string x.hi) 26
  have ba : Below w.heap.size w ((w.alloc (.cells #[.slice A l.length c] 24)).alloc (.cells #[.int .i64 x.tx, .string x.lo, .string x.hi] 26)) := (by (repeat (first | (with_reducible exact Below.refl _ _) | apply below_alloc _ (Nat.le_refl _) | refine below_set ?_ (by first | exact Nat.le_refl _ | omega) | apply below_drewN | refine below_step ?_ HB)))
  have hal := alive_any ((w.alloc (.cells #[.slice A l.length c] 24)).alloc (.cells #[.int .i64 x.tx, .string x.lo, .string x.hi] 26))
  have HR0 := Lib.hid (HR.below ba)
  simp only [World.size_alloc] at B3
  clear HR
  go_enter Try.func4, Try.ntmps4
  go_wp2_with fail
  refine hal.mono ?_; rintro e w1 ⟨rfl, h1⟩
  have HB2 := B2.step h1
  have HB3 := Lib.hid (B3.below h1 B3.lt)
  have HF1 := ba.trans (h1.mono (by simp; omega))
  have hof := of_any A c l w1 (HR0.out.below h1) hl
  clear hal h1 HR0 B2 B3 ba
  obtain ⟨c20, f20, l2⟩ := HB2
  go_wp2_with fail
  refine hof.mono ?_; rintro e w2 ⟨v2, rfl, hv2, h2⟩
  obtain ⟨A2, c2, rfl, hr2, hn2, _⟩ := hv2.outL
  have W2 : Below w2.heap.size w2 (w2.alloc (.cells #[.slice A2 l.length c2] 30)) := (Below.refl _ _).alloc (Nat.le_refl _) _
  have B9 := Box1.new w2 (.slice A2 l.length c2) 30
  have R9 := Lib.hid (hr2.below W2)
  have HC3 := (HB3.out.below h2 HB3.out.lt).alloc (.cells #[.slice A2 l.length c2] 30)
  have HF2 := (HF1.trans (h2.mono HF1.size)).alloc (HF1.trans (h2.mono HF1.size)).size (.cells #[.slice A2 l.length c2] 30)
  have had := add_any A2 c2 l x _ R9.out hn2 (by omega)
  have B9' := Lib.hid B9
  have HC3' := Lib.hid HC3
  clear c20 f20 l2 hof hv2 hr2 h2 W2 HB3 HF1
  obtain ⟨c90, f90, l9⟩ := B9
  obtain ⟨c30, c31, c32, f30, f31, f32, l3⟩ := HC3
  go_wp2_with fail
  refine had.mono ?_; rintro e w3 ⟨v3, rfl, hv3, h3⟩
  have OKC : Hid ((addL l x).2 = 0 → chkL l = 0 ∧ chkL (addL l x).1 = 0 ∧ (covT (addL l x).1 t key = true ↔ ((x.tx = t ∧ cov x key = true) ∨ covT l t key = true))) := Lib.hid (fun h => ⟨(add_ok h).1, add_chk h, add_cov h t key⟩)
  have BAD : Hid ((addL l x).2 ≠ 0 → (addL l x).1 = []) := Lib.hid add_bad
  generalize (addL l x).2 = e at *
  generalize (addL l x).1 = r at *
  obtain ⟨A3, c3, rfl, hr3, hn3, _⟩ := hv3.outL
  have W3 : Below w3.heap.size w3 (w3.alloc (.cells #[.slice A3 r.length c3] 30)) := (Below.refl _ _).alloc (Nat.le_refl _) _
  have BA := Box1.new w3 (.slice A3 r.length c3) 30
  have RA := Lib.hid (hr3.below W3)
  have D9 := (B9'.out.step h3).alloc (.cells #[.slice A3 r.length c3] 30)
  have D3 := (HC3'.out.below h3 HC3'.out.lt).alloc (.cells #[.slice A3 r.length c3] 30)
  have R9' := Lib.hid ((R9.out.below h3).below W3)
  have HF3 := (HF2.trans (h3.mono HF2.size)).alloc (HF2.trans (h3.mono HF2.size)).size (.cells #[.slice A3 r.length c3] 30)
  have hz3 := HF3.size
  clear c90 f90 l9 c30 c31 c32 f30 f31 f32 l3 had hv3 hr3 h3 W3 B9' HC3' R9 HF2
  by_cases he : e = 0
  · subst he
    obtain ⟨k1, k2, k3⟩ := OKC.out (by trivial)
    have hra := reads_any A3 c3 r t key _ RA.out k2 hk
    have hr9 := fun (W : World) (h : RowE encL 3 W A2 l) => reads_any A2 c2 l t key W h k1 hk
    have HK3 := Lib.hid k3
    have HR9 := Lib.hid hr9
    have D9' := Lib.hid D9
    have hC : Hid (cov x key = (!lt? key x.lo && (nil? x.hi || lt? key x.hi))) := Lib.hid rfl
    clear OKC BAD k1 k2 k3 hr9
    generalize covT r t key = cr at *
    generalize covT l t key = cl at *
    obtain ⟨tx, lo, hi⟩ := x
    dsimp only at *
    obtain ⟨c90, f90, l9⟩ := D9
    obtain ⟨ca0, fa0, la⟩ := BA
    obtain ⟨c30, c31, c32, f30, f31, f32, l3⟩ := D3
    by_cases ht : t = tx
    · subst ht
      go_wp2_with (first
        | (with_reducible refine (num_any _ _).mono ?_; rintro e wn ⟨rfl, rfl⟩)
        | (with_reducible refine hra.mono ?_; rintro e w4 ⟨rfl, h4⟩; have G9 := D9'.out.step h4; have H4 := Lib.hid h4; clear h4 hra; obtain ⟨c90', f90', l9'⟩ := G9)
        | (with_reducible refine (HR9.out w4 (R9'.out.below H4.out)).mono ?_; rintro e w5 ⟨rfl, h5⟩; have H5 := Lib.hid h5; clear h5))
      all_goals go_ret
      all_goals first
        | exact ⟨ret_bool (by have k3 := HK3.out; rw [hC.out] at k3; simp_all [lt?, nil?]), HF3.trans ((below_step' H4.out H5.out).mono hz3)⟩
        | exact ⟨ret_bool (by have k3 := HK3.out; rw [hC.out] at k3; simp_all [lt?, nil?]), HF3.trans (H4.out.mono hz3)⟩
    · have ht' : (t == tx) = false := by simpa using ht
      have ht2 : ¬ tx = t := fun h => ht h.symm
      go_wp2_with (first
        | (with_reducible refine (num_any _ _).mono ?_; rintro e wn ⟨rfl, rfl⟩)
        | (with_reducible refine hra.mono ?_; rintro e w4 ⟨rfl, h4⟩; have G9 := D9'.out.step h4; have H4 := Lib.hid h4; clear h4 hra; obtain ⟨c90', f90', l9'⟩ := G9)
        | (with_reducible refine (HR9.out w4 (R9'.out.below H4.out)).mono ?_; rintro e w5 ⟨rfl, h5⟩; have H5 := Lib.hid h5; clear h5))
      all_goals go_ret
      all_goals first
        | exact ⟨ret_bool (by have k3 := HK3.out; rw [hC.out] at k3; simp_all [lt?, nil?]), HF3.trans ((below_step' H4.out H5.out).mono hz3)⟩
        | exact ⟨ret_bool (by have k3 := HK3.out; rw [hC.out] at k3; simp_all [lt?, nil?]), HF3.trans (H4.out.mono hz3)⟩
  · have he' : (e == 0) = false := by simpa using he
    obtain rfl := BAD.out he
    obtain ⟨ca0, fa0, la⟩ := BA
    clear OKC BAD
    go_wp2_with (refine (num_any _ _).mono ?_; rintro e wn ⟨rfl, rfl⟩)
    go_ret
    exact ⟨rfl, HF3⟩
end Go.Proofs.Ytdiclnkkddnncaa
