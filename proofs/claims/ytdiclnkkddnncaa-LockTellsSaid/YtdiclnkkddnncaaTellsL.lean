/- The law LockTells. -/
import Derived.Test.YtdiclnkkddnncaaRL8
namespace Go.Proofs.Ytdiclnkkddnncaa
open Go.RowKit
open Go.Shelf
set_option linter.unusedVariables false
set_option linter.unusedSimpArgs false
set_option maxHeartbeats 4000000 in
set_option maxRecDepth 100000 in
theorem tells_law (A : Option Addr) (c : Nat) (l : List Lk) (x : Lk) (key : ByteArray) (m : Int) (w : World) (HR : RowE encL 3 w A l) (hn : A = none → c = 0) (hl : l.length * 40 ≤ 140737488351232) (hk : key.size ≤ 140737488351232) :
    Calls Try.prog 8 #[.agg #[.slice A l.length c], .agg #[.int .i64 x.tx, .string x.lo, .string x.hi], .string key, .int .i64 m] w fun e w' => e = .returned (.bool true) ∧ Below w.heap.size w w' := by
  have BS := Lib.hid ((Box.new w #[.slice A l.length c] 24).alloc (.cells #[.int .i64 x.tx, .string x.lo, .string x.hi] 26))
  have BX := Lib.hid (Box.new (w.alloc (.cells #[.slice A l.length c] 24)) #[.int .i64 x.tx, .string x.lo, .string x.hi] 26)
  have h0 : Below w.heap.size w ((w.alloc (.cells #[.slice A l.length c] 24)).alloc (.cells #[.int .i64 x.tx, .string x.lo, .string x.hi] 26)) := (by (repeat (first | (with_reducible exact Below.refl _ _) | apply below_alloc _ (Nat.le_refl _) | refine below_set ?_ (by first | exact Nat.le_refl _ | omega) | apply below_drewN | refine below_step ?_ HB)))
  have HF := Lib.hid h0
  have RA := Lib.hid (HR.below h0)
  have hof := of_any A c l _ RA.out hl
  simp only [World.size_alloc] at BX
  clear h0 HR
  have HAdd0 : Hid (∀ (A : Option Addr) (c : Nat) (W : World), RowE encL 3 W A l → (A = none → c = 0) → Calls Try.prog 10 #[.agg #[.slice A l.length c], .agg #[.int .i64 x.tx, .string x.lo, .string x.hi]] W fun e w' => ∃ v, e = .returned (.tuple #[.agg #[v], .int .i64 (addL l x).2]) ∧ SlB encL 3 W.heap.size w' v (addL l x).1 ∧ Below W.heap.size W w') := Lib.hid (fun A c W h hn => add_any A c l x W h hn (by omega))
  have HAdd1 : Hid (∀ (A : Option Addr) (c : Nat) (W : World), RowE encL 3 W A l → (A = none → c = 0) → Calls Try.prog 18 #[.agg #[.slice A l.length c], .agg #[.int .i64 x.tx, .string x.lo, .string x.hi]] W fun e w' => ∃ v, e = .returned (.tuple #[.agg #[v], .int .i64 (addL l x).2]) ∧ SlB encL 3 W.heap.size w' v (addL l x).1 ∧ Below W.heap.size W w') := Lib.hid (fun A c W h hn => rladd_any A c l x W h hn hl)
  have HRead0 : Hid (∀ (A : Option Addr) (c : Nat) (W : World), RowE encL 3 W A l → (A = none → c = 0) → Calls Try.prog 15 #[.agg #[.slice A l.length c], .int .i64 x.tx, .string key] W fun e w' => ∃ v, e = .returned (.tuple #[.agg #[v], .int .i64 (addL l (keyL x.tx key)).2]) ∧ SlB encL 3 W.heap.size w' v (addL l (keyL x.tx key)).1 ∧ Below W.heap.size W w') := Lib.hid (fun A c W h hn => read_any A c l x.tx key W h hn (by omega) hk)
  have HRead1 : Hid (∀ (A : Option Addr) (c : Nat) (W : World), RowE encL 3 W A l → (A = none → c = 0) → Calls Try.prog 19 #[.agg #[.slice A l.length c], .int .i64 x.tx, .string key] W fun e w' => ∃ v, e = .returned (.tuple #[.agg #[v], .int .i64 (addL l (keyL x.tx key)).2]) ∧ SlB encL 3 W.heap.size w' v (addL l (keyL x.tx key)).1 ∧ Below W.heap.size W w') := Lib.hid (fun A c W h hn => rlread_any A c l x.tx key W h hn hl hk)
  have HReaders0 : Hid (∀ (A : Option Addr) (c : Nat) (W : World), RowE encL 3 W A l → (A = none → c = 0) → Calls Try.prog 20 #[.agg #[.slice A l.length c], .string key] W fun e w' => ∃ v, e = .returned (.tuple #[v, .int .i64 (readersR l key).2]) ∧ SlB encI 1 W.heap.size w' v (readersR l key).1 ∧ Below W.heap.size W w') := Lib.hid (fun A c W h hn => readers_any A c l key W h (by omega) hk)
  have HReaders1 : Hid (∀ (A : Option Addr) (c : Nat) (W : World), RowE encL 3 W A l → (A = none → c = 0) → Calls Try.prog 21 #[.agg #[.slice A l.length c], .string key] W fun e w' => ∃ v, e = .returned (.tuple #[v, .int .i64 (readersR l key).2]) ∧ SlB encI 1 W.heap.size w' v (readersR l key).1 ∧ Below W.heap.size W w') := Lib.hid (fun A c W h hn => rlreaders_any A c l key W h (by omega))
  have HDrop0 : Hid (∀ (A : Option Addr) (c : Nat) (W : World), RowE encL 3 W A l → (A = none → c = 0) → Calls Try.prog 17 #[.agg #[.slice A l.length c], .int .i64 x.tx] W fun e w' => ∃ v, e = .returned (.tuple #[.agg #[v], .int .i64 (dropL l x.tx).2]) ∧ SlB encL 3 W.heap.size w' v (dropL l x.tx).1 ∧ Below W.heap.size W w') := Lib.hid (fun A c W h hn => drop_any A c l x.tx W h hn (by omega))
  have HDrop1 : Hid (∀ (A : Option Addr) (c : Nat) (W : World), RowE encL 3 W A l → (A = none → c = 0) → Calls Try.prog 22 #[.agg #[.slice A l.length c], .int .i64 x.tx] W fun e w' => ∃ v, e = .returned (.tuple #[.agg #[v], .int .i64 (dropL l x.tx).2]) ∧ SlB encL 3 W.heap.size w' v (dropL l x.tx).1 ∧ Below W.heap.size W w') := Lib.hid (fun A c W h hn => rldrop_any A c l x.tx W h hl)
  have HWiden0 : Hid (∀ (A : Option Addr) (c : Nat) (W : World), RowE encL 3 W A l → (A = none → c = 0) → Calls Try.prog 16 #[.agg #[.slice A l.length c], .int .i64 x.tx, .int .i64 m] W fun e w' => ∃ v, e = .returned (.tuple #[.agg #[v], .int .i64 (widenL l x.tx m).2]) ∧ SlB encL 3 W.heap.size w' v (widenL l x.tx m).1 ∧ Below W.heap.size W w') := Lib.hid (fun A c W h hn => widen_any A c l x.tx m W h hn (by omega))
  have HWiden1 : Hid (∀ (A : Option Addr) (c : Nat) (W : World), RowE encL 3 W A l → (A = none → c = 0) → Calls Try.prog 23 #[.agg #[.slice A l.length c], .int .i64 x.tx, .int .i64 m] W fun e w' => ∃ v, e = .returned (.tuple #[.agg #[v], .int .i64 (widenL l x.tx m).2]) ∧ SlB encL 3 W.heap.size w' v (widenL l x.tx m).1 ∧ Below W.heap.size W w') := Lib.hid (fun A c W h hn => rlwiden_any A c l x.tx m W h hn hl)
  have n1 := add_len1 l x
  have n2 := add_len1 l (keyL x.tx key)
  have n3 := readers_len1 l key
  have n4 := drop_len1 l x.tx
  have n5 := widen_len1 l x.tx m
  generalize widenL l x.tx m = gw at *
  obtain ⟨gw1, gw2⟩ := gw
  generalize dropL l x.tx = gd at *
  obtain ⟨gd1, gd2⟩ := gd
  generalize readersR l key = gi at *
  obtain ⟨gi1, gi2⟩ := gi
  generalize addL l (keyL x.tx key) = gr at *
  obtain ⟨gr1, gr2⟩ := gr
  generalize addL l x = ga at *
  obtain ⟨ga1, ga2⟩ := ga
  try dsimp only at n1
  try dsimp only at n2
  try dsimp only at n3
  try dsimp only at n4
  try dsimp only at n5
  try dsimp only at HAdd0
  try dsimp only at HAdd1
  try dsimp only at HRead0
  try dsimp only at HRead1
  try dsimp only at HReaders0
  try dsimp only at HReaders1
  try dsimp only at HDrop0
  try dsimp only at HDrop1
  try dsimp only at HWiden0
  try dsimp only at HWiden1
  go_enter Try.func8, Try.ntmps8
  have cBS0 := BS.out.c 0 _ rfl; have fBS0 := BS.out.f 0 (by simp); have lBS := BS.out.lt
  go_wp2_with fail
  clear cBS0 fBS0 lBS
  generalize (w.alloc (.cells #[.slice A l.length c] 24)).alloc (.cells #[.int .i64 x.tx, .string x.lo, .string x.hi] 26) = w0 at *
  refine hof.mono ?_; rintro e w1 ⟨v1, rfl, hv1, h1⟩
  replace BS := Lib.hid (BS.out.below h1 BS.out.lt); replace BX := Lib.hid (BX.out.below h1 BX.out.lt); replace HF := Lib.hid (below_step' HF.out h1); replace RA := Lib.hid (RA.out.below h1)
  obtain ⟨A9, c9, rfl, hr9, hn9, _⟩ := hv1.outL
  have BO := Lib.hid (Box.new w1 #[.slice A9 l.length c9] 30)
  have HB := (Below.refl _ w1).alloc (Nat.le_refl _) (.cells #[.slice A9 l.length c9] 30)
  have RO := Lib.hid (hr9.below HB)
  replace BS := Lib.hid (BS.out.below HB BS.out.lt); replace BX := Lib.hid (BX.out.below HB BX.out.lt); replace HF := Lib.hid (below_step' HF.out HB); replace RA := Lib.hid (RA.out.below HB)
  clear hof h1 hv1 hr9 HB
  go_upto_region 2 with (fail)
  generalize w1.alloc (.cells #[.slice A9 l.length c9] 30) = w2 at *
  generalize w1.heap.size = b9 at *
  have hc := HAdd0.out A9 c9 _ RO.out hn9
  have cBO0 := BO.out.c 0 _ rfl; have fBO0 := BO.out.f 0 (by simp); have lBO := BO.out.lt; have cBX0 := BX.out.c 0 _ rfl; have fBX0 := BX.out.f 0 (by simp); have cBX1 := BX.out.c 1 _ rfl; have fBX1 := BX.out.f 1 (by simp); have cBX2 := BX.out.c 2 _ rfl; have fBX2 := BX.out.f 2 (by simp); have lBX := BX.out.lt
  go_wp2_with fail
  clear cBO0 fBO0 lBO; clear cBX0 fBX0 cBX1 fBX1 cBX2 fBX2 lBX
  refine hc.mono ?_; rintro e w22 ⟨v12, rfl, hv12, h12⟩
  replace BS := Lib.hid (BS.out.below h12 BS.out.lt); replace BO := Lib.hid (BO.out.below h12 BO.out.lt); replace BX := Lib.hid (BX.out.below h12 BX.out.lt); replace HF := Lib.hid (below_step' HF.out h12); replace RA := Lib.hid (RA.out.below h12); replace RO := Lib.hid (RO.out.below h12)
  obtain ⟨A12, c12, rfl, hr12, _, _⟩ := hv12.outL
  have B12 := Lib.hid (Box.new w22 #[.slice A12 ga1.length c12] 30)
  have HB := (Below.refl _ w22).alloc (Nat.le_refl _) (.cells #[.slice A12 ga1.length c12] 30)
  have R12 := Lib.hid (hr12.below HB)
  replace BS := Lib.hid (BS.out.below HB BS.out.lt); replace BO := Lib.hid (BO.out.below HB BO.out.lt); replace BX := Lib.hid (BX.out.below HB BX.out.lt); replace HF := Lib.hid (below_step' HF.out HB); replace RA := Lib.hid (RA.out.below HB); replace RO := Lib.hid (RO.out.below HB)
  clear hc h12 hv12 hr12 HB HAdd0
  go_upto_region 3 with (fail)
  generalize w22.alloc (.cells #[.slice A12 ga1.length c12] 30) = w22x at *
  generalize w22.heap.size = b12 at *
  have hc := HAdd1.out A c _ RA.out hn
  have cBS0 := BS.out.c 0 _ rfl; have fBS0 := BS.out.f 0 (by simp); have lBS := BS.out.lt; have cBX0 := BX.out.c 0 _ rfl; have fBX0 := BX.out.f 0 (by simp); have cBX1 := BX.out.c 1 _ rfl; have fBX1 := BX.out.f 1 (by simp); have cBX2 := BX.out.c 2 _ rfl; have fBX2 := BX.out.f 2 (by simp); have lBX := BX.out.lt
  go_wp2_with fail
  clear cBS0 fBS0 lBS; clear cBX0 fBX0 cBX1 fBX1 cBX2 fBX2 lBX
  refine hc.mono ?_; rintro e w23 ⟨v13, rfl, hv13, h13⟩
  replace BS := Lib.hid (BS.out.below h13 BS.out.lt); replace BO := Lib.hid (BO.out.below h13 BO.out.lt); replace B12 := Lib.hid (B12.out.below h13 B12.out.lt); replace BX := Lib.hid (BX.out.below h13 BX.out.lt); replace HF := Lib.hid (below_step' HF.out h13); replace RA := Lib.hid (RA.out.below h13); replace RO := Lib.hid (RO.out.below h13); replace R12 := Lib.hid (R12.out.below h13)
  obtain ⟨A13, c13, rfl, hr13, _, _⟩ := hv13.outL
  have B13 := Lib.hid (Box.new w23 #[.slice A13 ga1.length c13] 24)
  have HB := (Below.refl _ w23).alloc (Nat.le_refl _) (.cells #[.slice A13 ga1.length c13] 24)
  have R13 := Lib.hid (hr13.below HB)
  replace BS := Lib.hid (BS.out.below HB BS.out.lt); replace BO := Lib.hid (BO.out.below HB BO.out.lt); replace B12 := Lib.hid (B12.out.below HB B12.out.lt); replace BX := Lib.hid (BX.out.below HB BX.out.lt); replace HF := Lib.hid (below_step' HF.out HB); replace RA := Lib.hid (RA.out.below HB); replace RO := Lib.hid (RO.out.below HB); replace R12 := Lib.hid (R12.out.below HB)
  clear hc h13 hv13 hr13 HB HAdd1
  go_upto_region 4 with (fail)
  generalize w23.alloc (.cells #[.slice A13 ga1.length c13] 24) = w23x at *
  generalize w23.heap.size = b13 at *
  have hc := HRead0.out A9 c9 _ RO.out hn9
  have cBO0 := BO.out.c 0 _ rfl; have fBO0 := BO.out.f 0 (by simp); have lBO := BO.out.lt; have cBX0 := BX.out.c 0 _ rfl; have fBX0 := BX.out.f 0 (by simp); have cBX1 := BX.out.c 1 _ rfl; have fBX1 := BX.out.f 1 (by simp); have cBX2 := BX.out.c 2 _ rfl; have fBX2 := BX.out.f 2 (by simp); have lBX := BX.out.lt
  go_wp2_with fail
  clear cBO0 fBO0 lBO; clear cBX0 fBX0 cBX1 fBX1 cBX2 fBX2 lBX
  refine hc.mono ?_; rintro e w24 ⟨v14, rfl, hv14, h14⟩
  replace BS := Lib.hid (BS.out.below h14 BS.out.lt); replace BO := Lib.hid (BO.out.below h14 BO.out.lt); replace B12 := Lib.hid (B12.out.below h14 B12.out.lt); replace B13 := Lib.hid (B13.out.below h14 B13.out.lt); replace BX := Lib.hid (BX.out.below h14 BX.out.lt); replace HF := Lib.hid (below_step' HF.out h14); replace RA := Lib.hid (RA.out.below h14); replace RO := Lib.hid (RO.out.below h14); replace R12 := Lib.hid (R12.out.below h14); replace R13 := Lib.hid (R13.out.below h14)
  obtain ⟨A14, c14, rfl, hr14, _, _⟩ := hv14.outL
  have B14 := Lib.hid (Box.new w24 #[.slice A14 gr1.length c14] 30)
  have HB := (Below.refl _ w24).alloc (Nat.le_refl _) (.cells #[.slice A14 gr1.length c14] 30)
  have R14 := Lib.hid (hr14.below HB)
  replace BS := Lib.hid (BS.out.below HB BS.out.lt); replace BO := Lib.hid (BO.out.below HB BO.out.lt); replace B12 := Lib.hid (B12.out.below HB B12.out.lt); replace B13 := Lib.hid (B13.out.below HB B13.out.lt); replace BX := Lib.hid (BX.out.below HB BX.out.lt); replace HF := Lib.hid (below_step' HF.out HB); replace RA := Lib.hid (RA.out.below HB); replace RO := Lib.hid (RO.out.below HB); replace R12 := Lib.hid (R12.out.below HB); replace R13 := Lib.hid (R13.out.below HB)
  clear hc h14 hv14 hr14 HB HRead0
  go_upto_region 5 with (fail)
  generalize w24.alloc (.cells #[.slice A14 gr1.length c14] 30) = w24x at *
  generalize w24.heap.size = b14 at *
  have hc := HRead1.out A c _ RA.out hn
  have cBS0 := BS.out.c 0 _ rfl; have fBS0 := BS.out.f 0 (by simp); have lBS := BS.out.lt; have cBX0 := BX.out.c 0 _ rfl; have fBX0 := BX.out.f 0 (by simp); have cBX1 := BX.out.c 1 _ rfl; have fBX1 := BX.out.f 1 (by simp); have cBX2 := BX.out.c 2 _ rfl; have fBX2 := BX.out.f 2 (by simp); have lBX := BX.out.lt
  go_wp2_with fail
  clear cBS0 fBS0 lBS; clear cBX0 fBX0 cBX1 fBX1 cBX2 fBX2 lBX
  refine hc.mono ?_; rintro e w25 ⟨v15, rfl, hv15, h15⟩
  replace BS := Lib.hid (BS.out.below h15 BS.out.lt); replace BO := Lib.hid (BO.out.below h15 BO.out.lt); replace B12 := Lib.hid (B12.out.below h15 B12.out.lt); replace B13 := Lib.hid (B13.out.below h15 B13.out.lt); replace B14 := Lib.hid (B14.out.below h15 B14.out.lt); replace BX := Lib.hid (BX.out.below h15 BX.out.lt); replace HF := Lib.hid (below_step' HF.out h15); replace RA := Lib.hid (RA.out.below h15); replace RO := Lib.hid (RO.out.below h15); replace R12 := Lib.hid (R12.out.below h15); replace R13 := Lib.hid (R13.out.below h15); replace R14 := Lib.hid (R14.out.below h15)
  obtain ⟨A15, c15, rfl, hr15, _, _⟩ := hv15.outL
  have B15 := Lib.hid (Box.new w25 #[.slice A15 gr1.length c15] 24)
  have HB := (Below.refl _ w25).alloc (Nat.le_refl _) (.cells #[.slice A15 gr1.length c15] 24)
  have R15 := Lib.hid (hr15.below HB)
  replace BS := Lib.hid (BS.out.below HB BS.out.lt); replace BO := Lib.hid (BO.out.below HB BO.out.lt); replace B12 := Lib.hid (B12.out.below HB B12.out.lt); replace B13 := Lib.hid (B13.out.below HB B13.out.lt); replace B14 := Lib.hid (B14.out.below HB B14.out.lt); replace BX := Lib.hid (BX.out.below HB BX.out.lt); replace HF := Lib.hid (below_step' HF.out HB); replace RA := Lib.hid (RA.out.below HB); replace RO := Lib.hid (RO.out.below HB); replace R12 := Lib.hid (R12.out.below HB); replace R13 := Lib.hid (R13.out.below HB); replace R14 := Lib.hid (R14.out.below HB)
  clear hc h15 hv15 hr15 HB HRead1
  go_upto_region 6 with (fail)
  generalize w25.alloc (.cells #[.slice A15 gr1.length c15] 24) = w25x at *
  generalize w25.heap.size = b15 at *
  have hc := HReaders0.out A9 c9 _ RO.out hn9
  have cBO0 := BO.out.c 0 _ rfl; have fBO0 := BO.out.f 0 (by simp); have lBO := BO.out.lt; have cBX0 := BX.out.c 0 _ rfl; have fBX0 := BX.out.f 0 (by simp); have cBX1 := BX.out.c 1 _ rfl; have fBX1 := BX.out.f 1 (by simp); have cBX2 := BX.out.c 2 _ rfl; have fBX2 := BX.out.f 2 (by simp); have lBX := BX.out.lt
  go_wp2_with fail
  clear cBO0 fBO0 lBO; clear cBX0 fBX0 cBX1 fBX1 cBX2 fBX2 lBX
  refine hc.mono ?_; rintro e w26 ⟨v16, rfl, hv16, h16⟩
  replace BS := Lib.hid (BS.out.below h16 BS.out.lt); replace BO := Lib.hid (BO.out.below h16 BO.out.lt); replace B12 := Lib.hid (B12.out.below h16 B12.out.lt); replace B13 := Lib.hid (B13.out.below h16 B13.out.lt); replace B14 := Lib.hid (B14.out.below h16 B14.out.lt); replace B15 := Lib.hid (B15.out.below h16 B15.out.lt); replace BX := Lib.hid (BX.out.below h16 BX.out.lt); replace HF := Lib.hid (below_step' HF.out h16); replace RA := Lib.hid (RA.out.below h16); replace RO := Lib.hid (RO.out.below h16); replace R12 := Lib.hid (R12.out.below h16); replace R13 := Lib.hid (R13.out.below h16); replace R14 := Lib.hid (R14.out.below h16); replace R15 := Lib.hid (R15.out.below h16)
  obtain ⟨A16, c16, rfl, _, hr16, _, _⟩ := hv16
  have R16 := Lib.hid hr16
  clear hc h16 hr16 HReaders0
  go_upto_region 7 with (fail)
  have hc := HReaders1.out A c _ RA.out hn
  have cBS0 := BS.out.c 0 _ rfl; have fBS0 := BS.out.f 0 (by simp); have lBS := BS.out.lt; have cBX0 := BX.out.c 0 _ rfl; have fBX0 := BX.out.f 0 (by simp); have cBX1 := BX.out.c 1 _ rfl; have fBX1 := BX.out.f 1 (by simp); have cBX2 := BX.out.c 2 _ rfl; have fBX2 := BX.out.f 2 (by simp); have lBX := BX.out.lt
  go_wp2_with fail
  clear cBS0 fBS0 lBS; clear cBX0 fBX0 cBX1 fBX1 cBX2 fBX2 lBX
  refine hc.mono ?_; rintro e w27 ⟨v17, rfl, hv17, h17⟩
  replace BS := Lib.hid (BS.out.below h17 BS.out.lt); replace BO := Lib.hid (BO.out.below h17 BO.out.lt); replace B12 := Lib.hid (B12.out.below h17 B12.out.lt); replace B13 := Lib.hid (B13.out.below h17 B13.out.lt); replace B14 := Lib.hid (B14.out.below h17 B14.out.lt); replace B15 := Lib.hid (B15.out.below h17 B15.out.lt); replace BX := Lib.hid (BX.out.below h17 BX.out.lt); replace HF := Lib.hid (below_step' HF.out h17); replace RA := Lib.hid (RA.out.below h17); replace RO := Lib.hid (RO.out.below h17); replace R12 := Lib.hid (R12.out.below h17); replace R13 := Lib.hid (R13.out.below h17); replace R14 := Lib.hid (R14.out.below h17); replace R15 := Lib.hid (R15.out.below h17); replace R16 := Lib.hid (R16.out.below h17)
  obtain ⟨A17, c17, rfl, _, hr17, _, _⟩ := hv17
  have R17 := Lib.hid hr17
  clear hc h17 hr17 HReaders1
  go_upto_region 8 with (fail)
  have hc := HDrop0.out A9 c9 _ RO.out hn9
  have cBO0 := BO.out.c 0 _ rfl; have fBO0 := BO.out.f 0 (by simp); have lBO := BO.out.lt; have cBX0 := BX.out.c 0 _ rfl; have fBX0 := BX.out.f 0 (by simp); have cBX1 := BX.out.c 1 _ rfl; have fBX1 := BX.out.f 1 (by simp); have cBX2 := BX.out.c 2 _ rfl; have fBX2 := BX.out.f 2 (by simp); have lBX := BX.out.lt
  go_wp2_with fail
  clear cBO0 fBO0 lBO; clear cBX0 fBX0 cBX1 fBX1 cBX2 fBX2 lBX
  refine hc.mono ?_; rintro e w28 ⟨v18, rfl, hv18, h18⟩
  replace BS := Lib.hid (BS.out.below h18 BS.out.lt); replace BO := Lib.hid (BO.out.below h18 BO.out.lt); replace B12 := Lib.hid (B12.out.below h18 B12.out.lt); replace B13 := Lib.hid (B13.out.below h18 B13.out.lt); replace B14 := Lib.hid (B14.out.below h18 B14.out.lt); replace B15 := Lib.hid (B15.out.below h18 B15.out.lt); replace BX := Lib.hid (BX.out.below h18 BX.out.lt); replace HF := Lib.hid (below_step' HF.out h18); replace RA := Lib.hid (RA.out.below h18); replace RO := Lib.hid (RO.out.below h18); replace R12 := Lib.hid (R12.out.below h18); replace R13 := Lib.hid (R13.out.below h18); replace R14 := Lib.hid (R14.out.below h18); replace R15 := Lib.hid (R15.out.below h18); replace R16 := Lib.hid (R16.out.below h18); replace R17 := Lib.hid (R17.out.below h18)
  obtain ⟨A18, c18, rfl, hr18, _, _⟩ := hv18.outL
  have B18 := Lib.hid (Box.new w28 #[.slice A18 gd1.length c18] 30)
  have HB := (Below.refl _ w28).alloc (Nat.le_refl _) (.cells #[.slice A18 gd1.length c18] 30)
  have R18 := Lib.hid (hr18.below HB)
  replace BS := Lib.hid (BS.out.below HB BS.out.lt); replace BO := Lib.hid (BO.out.below HB BO.out.lt); replace B12 := Lib.hid (B12.out.below HB B12.out.lt); replace B13 := Lib.hid (B13.out.below HB B13.out.lt); replace B14 := Lib.hid (B14.out.below HB B14.out.lt); replace B15 := Lib.hid (B15.out.below HB B15.out.lt); replace BX := Lib.hid (BX.out.below HB BX.out.lt); replace HF := Lib.hid (below_step' HF.out HB); replace RA := Lib.hid (RA.out.below HB); replace RO := Lib.hid (RO.out.below HB); replace R12 := Lib.hid (R12.out.below HB); replace R13 := Lib.hid (R13.out.below HB); replace R14 := Lib.hid (R14.out.below HB); replace R15 := Lib.hid (R15.out.below HB); replace R16 := Lib.hid (R16.out.below HB); replace R17 := Lib.hid (R17.out.below HB)
  clear hc h18 hv18 hr18 HB HDrop0
  go_upto_region 9 with (fail)
  generalize w28.alloc (.cells #[.slice A18 gd1.length c18] 30) = w28x at *
  generalize w28.heap.size = b18 at *
  have hc := HDrop1.out A c _ RA.out hn
  have cBS0 := BS.out.c 0 _ rfl; have fBS0 := BS.out.f 0 (by simp); have lBS := BS.out.lt; have cBX0 := BX.out.c 0 _ rfl; have fBX0 := BX.out.f 0 (by simp); have cBX1 := BX.out.c 1 _ rfl; have fBX1 := BX.out.f 1 (by simp); have cBX2 := BX.out.c 2 _ rfl; have fBX2 := BX.out.f 2 (by simp); have lBX := BX.out.lt
  go_wp2_with fail
  clear cBS0 fBS0 lBS; clear cBX0 fBX0 cBX1 fBX1 cBX2 fBX2 lBX
  refine hc.mono ?_; rintro e w29 ⟨v19, rfl, hv19, h19⟩
  replace BS := Lib.hid (BS.out.below h19 BS.out.lt); replace BO := Lib.hid (BO.out.below h19 BO.out.lt); replace B12 := Lib.hid (B12.out.below h19 B12.out.lt); replace B13 := Lib.hid (B13.out.below h19 B13.out.lt); replace B14 := Lib.hid (B14.out.below h19 B14.out.lt); replace B15 := Lib.hid (B15.out.below h19 B15.out.lt); replace B18 := Lib.hid (B18.out.below h19 B18.out.lt); replace BX := Lib.hid (BX.out.below h19 BX.out.lt); replace HF := Lib.hid (below_step' HF.out h19); replace RA := Lib.hid (RA.out.below h19); replace RO := Lib.hid (RO.out.below h19); replace R12 := Lib.hid (R12.out.below h19); replace R13 := Lib.hid (R13.out.below h19); replace R14 := Lib.hid (R14.out.below h19); replace R15 := Lib.hid (R15.out.below h19); replace R16 := Lib.hid (R16.out.below h19); replace R17 := Lib.hid (R17.out.below h19); replace R18 := Lib.hid (R18.out.below h19)
  obtain ⟨A19, c19, rfl, hr19, _, _⟩ := hv19.outL
  have B19 := Lib.hid (Box.new w29 #[.slice A19 gd1.length c19] 24)
  have HB := (Below.refl _ w29).alloc (Nat.le_refl _) (.cells #[.slice A19 gd1.length c19] 24)
  have R19 := Lib.hid (hr19.below HB)
  replace BS := Lib.hid (BS.out.below HB BS.out.lt); replace BO := Lib.hid (BO.out.below HB BO.out.lt); replace B12 := Lib.hid (B12.out.below HB B12.out.lt); replace B13 := Lib.hid (B13.out.below HB B13.out.lt); replace B14 := Lib.hid (B14.out.below HB B14.out.lt); replace B15 := Lib.hid (B15.out.below HB B15.out.lt); replace B18 := Lib.hid (B18.out.below HB B18.out.lt); replace BX := Lib.hid (BX.out.below HB BX.out.lt); replace HF := Lib.hid (below_step' HF.out HB); replace RA := Lib.hid (RA.out.below HB); replace RO := Lib.hid (RO.out.below HB); replace R12 := Lib.hid (R12.out.below HB); replace R13 := Lib.hid (R13.out.below HB); replace R14 := Lib.hid (R14.out.below HB); replace R15 := Lib.hid (R15.out.below HB); replace R16 := Lib.hid (R16.out.below HB); replace R17 := Lib.hid (R17.out.below HB); replace R18 := Lib.hid (R18.out.below HB)
  clear hc h19 hv19 hr19 HB HDrop1
  go_upto_region 10 with (fail)
  generalize w29.alloc (.cells #[.slice A19 gd1.length c19] 24) = w29x at *
  generalize w29.heap.size = b19 at *
  have hc := HWiden0.out A9 c9 _ RO.out hn9
  have cBO0 := BO.out.c 0 _ rfl; have fBO0 := BO.out.f 0 (by simp); have lBO := BO.out.lt; have cBX0 := BX.out.c 0 _ rfl; have fBX0 := BX.out.f 0 (by simp); have cBX1 := BX.out.c 1 _ rfl; have fBX1 := BX.out.f 1 (by simp); have cBX2 := BX.out.c 2 _ rfl; have fBX2 := BX.out.f 2 (by simp); have lBX := BX.out.lt
  go_wp2_with fail
  clear cBO0 fBO0 lBO; clear cBX0 fBX0 cBX1 fBX1 cBX2 fBX2 lBX
  refine hc.mono ?_; rintro e w30 ⟨v20, rfl, hv20, h20⟩
  replace BS := Lib.hid (BS.out.below h20 BS.out.lt); replace BO := Lib.hid (BO.out.below h20 BO.out.lt); replace B12 := Lib.hid (B12.out.below h20 B12.out.lt); replace B13 := Lib.hid (B13.out.below h20 B13.out.lt); replace B14 := Lib.hid (B14.out.below h20 B14.out.lt); replace B15 := Lib.hid (B15.out.below h20 B15.out.lt); replace B18 := Lib.hid (B18.out.below h20 B18.out.lt); replace B19 := Lib.hid (B19.out.below h20 B19.out.lt); replace BX := Lib.hid (BX.out.below h20 BX.out.lt); replace HF := Lib.hid (below_step' HF.out h20); replace RA := Lib.hid (RA.out.below h20); replace RO := Lib.hid (RO.out.below h20); replace R12 := Lib.hid (R12.out.below h20); replace R13 := Lib.hid (R13.out.below h20); replace R14 := Lib.hid (R14.out.below h20); replace R15 := Lib.hid (R15.out.below h20); replace R16 := Lib.hid (R16.out.below h20); replace R17 := Lib.hid (R17.out.below h20); replace R18 := Lib.hid (R18.out.below h20); replace R19 := Lib.hid (R19.out.below h20)
  obtain ⟨A20, c20, rfl, hr20, _, _⟩ := hv20.outL
  have B20 := Lib.hid (Box.new w30 #[.slice A20 gw1.length c20] 30)
  have HB := (Below.refl _ w30).alloc (Nat.le_refl _) (.cells #[.slice A20 gw1.length c20] 30)
  have R20 := Lib.hid (hr20.below HB)
  replace BS := Lib.hid (BS.out.below HB BS.out.lt); replace BO := Lib.hid (BO.out.below HB BO.out.lt); replace B12 := Lib.hid (B12.out.below HB B12.out.lt); replace B13 := Lib.hid (B13.out.below HB B13.out.lt); replace B14 := Lib.hid (B14.out.below HB B14.out.lt); replace B15 := Lib.hid (B15.out.below HB B15.out.lt); replace B18 := Lib.hid (B18.out.below HB B18.out.lt); replace B19 := Lib.hid (B19.out.below HB B19.out.lt); replace BX := Lib.hid (BX.out.below HB BX.out.lt); replace HF := Lib.hid (below_step' HF.out HB); replace RA := Lib.hid (RA.out.below HB); replace RO := Lib.hid (RO.out.below HB); replace R12 := Lib.hid (R12.out.below HB); replace R13 := Lib.hid (R13.out.below HB); replace R14 := Lib.hid (R14.out.below HB); replace R15 := Lib.hid (R15.out.below HB); replace R16 := Lib.hid (R16.out.below HB); replace R17 := Lib.hid (R17.out.below HB); replace R18 := Lib.hid (R18.out.below HB); replace R19 := Lib.hid (R19.out.below HB)
  clear hc h20 hv20 hr20 HB HWiden0
  go_upto_region 11 with (fail)
  generalize w30.alloc (.cells #[.slice A20 gw1.length c20] 30) = w30x at *
  generalize w30.heap.size = b20 at *
  have hc := HWiden1.out A c _ RA.out hn
  have cBS0 := BS.out.c 0 _ rfl; have fBS0 := BS.out.f 0 (by simp); have lBS := BS.out.lt; have cBX0 := BX.out.c 0 _ rfl; have fBX0 := BX.out.f 0 (by simp); have cBX1 := BX.out.c 1 _ rfl; have fBX1 := BX.out.f 1 (by simp); have cBX2 := BX.out.c 2 _ rfl; have fBX2 := BX.out.f 2 (by simp); have lBX := BX.out.lt
  go_wp2_with fail
  clear cBS0 fBS0 lBS; clear cBX0 fBX0 cBX1 fBX1 cBX2 fBX2 lBX
  refine hc.mono ?_; rintro e w31 ⟨v21, rfl, hv21, h21⟩
  replace BS := Lib.hid (BS.out.below h21 BS.out.lt); replace BO := Lib.hid (BO.out.below h21 BO.out.lt); replace B12 := Lib.hid (B12.out.below h21 B12.out.lt); replace B13 := Lib.hid (B13.out.below h21 B13.out.lt); replace B14 := Lib.hid (B14.out.below h21 B14.out.lt); replace B15 := Lib.hid (B15.out.below h21 B15.out.lt); replace B18 := Lib.hid (B18.out.below h21 B18.out.lt); replace B19 := Lib.hid (B19.out.below h21 B19.out.lt); replace B20 := Lib.hid (B20.out.below h21 B20.out.lt); replace BX := Lib.hid (BX.out.below h21 BX.out.lt); replace HF := Lib.hid (below_step' HF.out h21); replace RA := Lib.hid (RA.out.below h21); replace RO := Lib.hid (RO.out.below h21); replace R12 := Lib.hid (R12.out.below h21); replace R13 := Lib.hid (R13.out.below h21); replace R14 := Lib.hid (R14.out.below h21); replace R15 := Lib.hid (R15.out.below h21); replace R16 := Lib.hid (R16.out.below h21); replace R17 := Lib.hid (R17.out.below h21); replace R18 := Lib.hid (R18.out.below h21); replace R19 := Lib.hid (R19.out.below h21); replace R20 := Lib.hid (R20.out.below h21)
  obtain ⟨A21, c21, rfl, hr21, _, _⟩ := hv21.outL
  have B21 := Lib.hid (Box.new w31 #[.slice A21 gw1.length c21] 24)
  have HB := (Below.refl _ w31).alloc (Nat.le_refl _) (.cells #[.slice A21 gw1.length c21] 24)
  have R21 := Lib.hid (hr21.below HB)
  replace BS := Lib.hid (BS.out.below HB BS.out.lt); replace BO := Lib.hid (BO.out.below HB BO.out.lt); replace B12 := Lib.hid (B12.out.below HB B12.out.lt); replace B13 := Lib.hid (B13.out.below HB B13.out.lt); replace B14 := Lib.hid (B14.out.below HB B14.out.lt); replace B15 := Lib.hid (B15.out.below HB B15.out.lt); replace B18 := Lib.hid (B18.out.below HB B18.out.lt); replace B19 := Lib.hid (B19.out.below HB B19.out.lt); replace B20 := Lib.hid (B20.out.below HB B20.out.lt); replace BX := Lib.hid (BX.out.below HB BX.out.lt); replace HF := Lib.hid (below_step' HF.out HB); replace RA := Lib.hid (RA.out.below HB); replace RO := Lib.hid (RO.out.below HB); replace R12 := Lib.hid (R12.out.below HB); replace R13 := Lib.hid (R13.out.below HB); replace R14 := Lib.hid (R14.out.below HB); replace R15 := Lib.hid (R15.out.below HB); replace R16 := Lib.hid (R16.out.below HB); replace R17 := Lib.hid (R17.out.below HB); replace R18 := Lib.hid (R18.out.below HB); replace R19 := Lib.hid (R19.out.below HB); replace R20 := Lib.hid (R20.out.below HB)
  clear hc h21 hv21 hr21 HB HWiden1
  go_upto_region 12 with (fail)
  generalize w31.alloc (.cells #[.slice A21 gw1.length c21] 24) = w31x at *
  generalize w31.heap.size = b21 at *
  have hal := lalike_same A12 A13 c12 c13 ga1 _ R12.out R13.out (by omega)
  have cB120 := B12.out.c 0 _ rfl; have fB120 := B12.out.f 0 (by simp); have lB12 := B12.out.lt; have cB130 := B13.out.c 0 _ rfl; have fB130 := B13.out.f 0 (by simp); have lB13 := B13.out.lt; have cB140 := B14.out.c 0 _ rfl; have fB140 := B14.out.f 0 (by simp); have lB14 := B14.out.lt; have cB150 := B15.out.c 0 _ rfl; have fB150 := B15.out.f 0 (by simp); have lB15 := B15.out.lt; have cB180 := B18.out.c 0 _ rfl; have fB180 := B18.out.f 0 (by simp); have lB18 := B18.out.lt; have cB190 := B19.out.c 0 _ rfl; have fB190 := B19.out.f 0 (by simp); have lB19 := B19.out.lt; have cB200 := B20.out.c 0 _ rfl; have fB200 := B20.out.f 0 (by simp); have lB20 := B20.out.lt; have cB210 := B21.out.c 0 _ rfl; have fB210 := B21.out.f 0 (by simp); have lB21 := B21.out.lt
  go_wp2_with (go_at_call 12; (with_reducible refine (num_any _ _).mono ?_); rintro e w' ⟨rfl, rfl⟩)
  clear cB120 fB120 lB12; clear cB130 fB130 lB13; clear cB140 fB140 lB14; clear cB150 fB150 lB15; clear cB180 fB180 lB18; clear cB190 fB190 lB19; clear cB200 fB200 lB20; clear cB210 fB210 lB21
  refine hal.mono ?_; rintro e w40 ⟨rfl, h40⟩
  replace BS := Lib.hid (BS.out.below h40 BS.out.lt); replace BO := Lib.hid (BO.out.below h40 BO.out.lt); replace B12 := Lib.hid (B12.out.below h40 B12.out.lt); replace B13 := Lib.hid (B13.out.below h40 B13.out.lt); replace B14 := Lib.hid (B14.out.below h40 B14.out.lt); replace B15 := Lib.hid (B15.out.below h40 B15.out.lt); replace B18 := Lib.hid (B18.out.below h40 B18.out.lt); replace B19 := Lib.hid (B19.out.below h40 B19.out.lt); replace B20 := Lib.hid (B20.out.below h40 B20.out.lt); replace B21 := Lib.hid (B21.out.below h40 B21.out.lt); replace BX := Lib.hid (BX.out.below h40 BX.out.lt); replace HF := Lib.hid (below_step' HF.out h40); replace RA := Lib.hid (RA.out.below h40); replace RO := Lib.hid (RO.out.below h40); replace R12 := Lib.hid (R12.out.below h40); replace R13 := Lib.hid (R13.out.below h40); replace R14 := Lib.hid (R14.out.below h40); replace R15 := Lib.hid (R15.out.below h40); replace R16 := Lib.hid (R16.out.below h40); replace R17 := Lib.hid (R17.out.below h40); replace R18 := Lib.hid (R18.out.below h40); replace R19 := Lib.hid (R19.out.below h40); replace R20 := Lib.hid (R20.out.below h40); replace R21 := Lib.hid (R21.out.below h40)
  clear hal h40 n1
  have hal := lalike_same A14 A15 c14 c15 gr1 _ R14.out R15.out (by omega)
  have cB140 := B14.out.c 0 _ rfl; have fB140 := B14.out.f 0 (by simp); have lB14 := B14.out.lt; have cB150 := B15.out.c 0 _ rfl; have fB150 := B15.out.f 0 (by simp); have lB15 := B15.out.lt; have cB180 := B18.out.c 0 _ rfl; have fB180 := B18.out.f 0 (by simp); have lB18 := B18.out.lt; have cB190 := B19.out.c 0 _ rfl; have fB190 := B19.out.f 0 (by simp); have lB19 := B19.out.lt; have cB200 := B20.out.c 0 _ rfl; have fB200 := B20.out.f 0 (by simp); have lB20 := B20.out.lt; have cB210 := B21.out.c 0 _ rfl; have fB210 := B21.out.f 0 (by simp); have lB21 := B21.out.lt
  go_wp2_with (go_at_call 12; (with_reducible refine (num_any _ _).mono ?_); rintro e w' ⟨rfl, rfl⟩)
  clear cB140 fB140 lB14; clear cB150 fB150 lB15; clear cB180 fB180 lB18; clear cB190 fB190 lB19; clear cB200 fB200 lB20; clear cB210 fB210 lB21
  refine hal.mono ?_; rintro e w41 ⟨rfl, h41⟩
  replace BS := Lib.hid (BS.out.below h41 BS.out.lt); replace BO := Lib.hid (BO.out.below h41 BO.out.lt); replace B14 := Lib.hid (B14.out.below h41 B14.out.lt); replace B15 := Lib.hid (B15.out.below h41 B15.out.lt); replace B18 := Lib.hid (B18.out.below h41 B18.out.lt); replace B19 := Lib.hid (B19.out.below h41 B19.out.lt); replace B20 := Lib.hid (B20.out.below h41 B20.out.lt); replace B21 := Lib.hid (B21.out.below h41 B21.out.lt); replace BX := Lib.hid (BX.out.below h41 BX.out.lt); replace HF := Lib.hid (below_step' HF.out h41); replace RA := Lib.hid (RA.out.below h41); replace RO := Lib.hid (RO.out.below h41); replace R14 := Lib.hid (R14.out.below h41); replace R15 := Lib.hid (R15.out.below h41); replace R16 := Lib.hid (R16.out.below h41); replace R17 := Lib.hid (R17.out.below h41); replace R18 := Lib.hid (R18.out.below h41); replace R19 := Lib.hid (R19.out.below h41); replace R20 := Lib.hid (R20.out.below h41); replace R21 := Lib.hid (R21.out.below h41)
  clear hal h41 n2
  have hal := lalike_same A18 A19 c18 c19 gd1 _ R18.out R19.out (by omega)
  have cB180 := B18.out.c 0 _ rfl; have fB180 := B18.out.f 0 (by simp); have lB18 := B18.out.lt; have cB190 := B19.out.c 0 _ rfl; have fB190 := B19.out.f 0 (by simp); have lB19 := B19.out.lt; have cB200 := B20.out.c 0 _ rfl; have fB200 := B20.out.f 0 (by simp); have lB20 := B20.out.lt; have cB210 := B21.out.c 0 _ rfl; have fB210 := B21.out.f 0 (by simp); have lB21 := B21.out.lt
  go_wp2_with (go_at_call 12; (with_reducible refine (num_any _ _).mono ?_); rintro e w' ⟨rfl, rfl⟩)
  clear cB180 fB180 lB18; clear cB190 fB190 lB19; clear cB200 fB200 lB20; clear cB210 fB210 lB21
  refine hal.mono ?_; rintro e w42 ⟨rfl, h42⟩
  replace BS := Lib.hid (BS.out.below h42 BS.out.lt); replace BO := Lib.hid (BO.out.below h42 BO.out.lt); replace B18 := Lib.hid (B18.out.below h42 B18.out.lt); replace B19 := Lib.hid (B19.out.below h42 B19.out.lt); replace B20 := Lib.hid (B20.out.below h42 B20.out.lt); replace B21 := Lib.hid (B21.out.below h42 B21.out.lt); replace BX := Lib.hid (BX.out.below h42 BX.out.lt); replace HF := Lib.hid (below_step' HF.out h42); replace RA := Lib.hid (RA.out.below h42); replace RO := Lib.hid (RO.out.below h42); replace R16 := Lib.hid (R16.out.below h42); replace R17 := Lib.hid (R17.out.below h42); replace R18 := Lib.hid (R18.out.below h42); replace R19 := Lib.hid (R19.out.below h42); replace R20 := Lib.hid (R20.out.below h42); replace R21 := Lib.hid (R21.out.below h42)
  clear hal h42 n4
  have hal := lalike_same A20 A21 c20 c21 gw1 _ R20.out R21.out (by omega)
  have cB200 := B20.out.c 0 _ rfl; have fB200 := B20.out.f 0 (by simp); have lB20 := B20.out.lt; have cB210 := B21.out.c 0 _ rfl; have fB210 := B21.out.f 0 (by simp); have lB21 := B21.out.lt
  go_wp2_with (go_at_call 12; (with_reducible refine (num_any _ _).mono ?_); rintro e w' ⟨rfl, rfl⟩)
  clear cB200 fB200 lB20; clear cB210 fB210 lB21
  refine hal.mono ?_; rintro e w43 ⟨rfl, h43⟩
  replace BS := Lib.hid (BS.out.below h43 BS.out.lt); replace BO := Lib.hid (BO.out.below h43 BO.out.lt); replace B20 := Lib.hid (B20.out.below h43 B20.out.lt); replace B21 := Lib.hid (B21.out.below h43 B21.out.lt); replace BX := Lib.hid (BX.out.below h43 BX.out.lt); replace HF := Lib.hid (below_step' HF.out h43); replace RA := Lib.hid (RA.out.below h43); replace RO := Lib.hid (RO.out.below h43); replace R16 := Lib.hid (R16.out.below h43); replace R17 := Lib.hid (R17.out.below h43); replace R20 := Lib.hid (R20.out.below h43); replace R21 := Lib.hid (R21.out.below h43)
  clear hal h43 n5
  have cBS0 := BS.out.c 0 _ rfl; have fBS0 := BS.out.f 0 (by simp); have lBS := BS.out.lt
  go_wp2_with (go_at_call 12; (with_reducible refine (num_any _ _).mono ?_); rintro e w' ⟨rfl, rfl⟩)
  clear cBS0 fBS0 lBS
  go_loopw [30] (fun s30 wr => ∃ j : Nat, j ≤ gi1.length ∧ s30 = .int .i64 j ∧ Hid (Below w43.heap.size w43 wr)) (fun s30 _ => gi1.length - (Lib.intOf s30).toNat)
  case atStart => exact ⟨0, Nat.zero_le _, rfl, Lib.hid (Below.refl _ _)⟩
  case round =>
    obtain ⟨j, hj, rfl, HL⟩ := hrel
    by_cases hlt : j < gi1.length
    · obtain ⟨z, hz⟩ : ∃ z, gi1[j]? = some z := ⟨_, List.getElem?_eq_getElem hlt⟩
      obtain ⟨b0, off0, rfl, hb0, hc0⟩ := R16.out.atE hz HL.out
      obtain ⟨b1, off1, rfl, hb1, hc1⟩ := R17.out.atE hz HL.out
      have g0 := hc0 0 _ rfl
      have g1 := hc1 0 _ rfl
      simp only [Nat.add_zero, Nat.mul_one] at g0 g1
      have hji : (j : Int) < (gi1.length : Int) := by omega
      clear hc0 hc1 hz
      go_wp2_with fail
      go_quiet (fail)
      go_wp2
      go_roundw
      case rel => exact ⟨j + 1, by omega, by go_num, Lib.hid (below_drewN HL.out _)⟩
      case measure => simp [Lib.intOf]; omega
    · obtain rfl : j = gi1.length := by omega
      have hL := HL.out
      replace BS := Lib.hid (BS.out.below hL BS.out.lt); replace BO := Lib.hid (BO.out.below hL BO.out.lt); replace HF := Lib.hid (below_step' HF.out hL); replace RA := Lib.hid (RA.out.below hL); replace RO := Lib.hid (RO.out.below hL)
      have hl2 : l.length ≤ 140737488355328 := by omega
      have C2 : Hid (∀ p : Later wr, Calls Try.prog 13 #[.agg #[.slice A9 l.length c9]] p.W fun e w' => e = .returned (.int .i64 (chkL l)) ∧ Below p.W.heap.size p.W w') := Lib.hid (fun p => lcheck_any A9 c9 l _ (RO.out.below p.h) hl2)
      have C3 : Hid (∀ p : Later wr, Calls Try.prog 25 #[.agg #[.slice A l.length c]] p.W fun e w' => e = .returned (.int .i64 (chkL l)) ∧ Below p.W.heap.size p.W w') := Lib.hid (fun p => rlcheck_any A c l _ (RA.out.below p.h) hl2)
      have C4 : Hid (∀ p : Later wr, Calls Try.prog 24 #[.agg #[.slice A9 l.length c9], .agg #[.slice A l.length c]] p.W fun e w' => e = .returned (.int .i64 0) ∧ Below p.W.heap.size p.W w') := Lib.hid (fun p => lalike_same A9 A c9 c l _ (RO.out.below p.h) (RA.out.below p.h) hl2)
      have C5 : Hid (∀ p : Later wr, Calls Try.prog 9 #[] p.W fun e w' => e = .returned (.bool true) ∧ Below p.W.heap.size p.W w') := Lib.hid (fun p => alive_any _)
      have p0 := later_cell BS.out.lt (BS.out.c 0 _ rfl)
      have p2 := later_cell BO.out.lt (BO.out.c 0 _ rfl)
      have HFw := HF
      have hzw := HF.out.size
      clear hl2 hL HL
      generalize chkL l = kc at *
      go_wp2_with fail
      (refine wp_region_later (by kernel_rfl) (by kernel_rfl) ?_
       repeat (first | go_big_quiet_step ((first | (go_at_call 12; exact later_same (num_any _ _)) | (go_at_call 13; exact later_of (C2.out _)) | (go_at_call 25; exact later_of (C3.out _)) | (go_at_call 24; exact later_of (C4.out _)) | (go_at_call 9; exact later_of (C5.out _)))) | quiet_step ((first | (go_at_call 12; exact later_same (num_any _ _)) | (go_at_call 13; exact later_of (C2.out _)) | (go_at_call 25; exact later_of (C3.out _)) | (go_at_call 24; exact later_of (C4.out _)) | (go_at_call 9; exact later_of (C5.out _)))))
       refine wpQuiet_nil ?_
       intro _ hw'
       obtain ⟨qL, hw''⟩ := hw'
       subst hw''
       obtain ⟨wL, h⟩ := qL)
      go_wp2
      go_ret
      exact ⟨ret_bool (by simp), below_step' HFw.out h⟩
end Go.Proofs.Ytdiclnkkddnncaa
