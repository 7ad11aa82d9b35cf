/- The law GcTells. -/
import Derived.Test.YtpkacnoimdjckaaAliveG
import Derived.Test.YtpkacnoimdjckaaAlikeG
import Derived.Test.YtpkacnoimdjckaaRefG
namespace Go.Proofs.Ytpkacnoimdjckaa
open Go.RowKit
open Go.Shelf
set_option linter.unusedVariables false
set_option linter.unusedSimpArgs false
theorem range_len2 (ks : List ByteArray) (ls : List (List Ver)) (fr tt : ByteArray) (snap tx : Int) : (rangeR ks ls fr tt snap tx).1.length ≤ ks.length := by
  unfold rangeR
  split
  · simp
  · exact Nat.le_trans (tell_len fr tt snap tx (ks.zip ls)) (by rw [List.length_zip]; omega)
set_option maxHeartbeats 4000000 in
set_option maxRecDepth 100000 in
theorem tells_law (AK AL : Option Addr) (ck cl : Nat) (ks : List ByteArray) (ls : List (List Ver)) (fr tt : ByteArray) (snap tx : Int) (w : World) (HK : RowE encS 1 w AK ks) (HL : RowL w AL ls) (hnk : AK = none → ck = 0) (hk : ks.length * 16 ≤ 140737488351232) (hl : ls.length * 24 ≤ 140737488351232) (hls : ∀ l ∈ ls, l.length * 40 ≤ 140737488351232) :
    Calls Try.prog 6 #[.agg #[.slice AK ks.length ck, .slice AL ls.length cl], .string fr, .string tt, .int .i64 snap, .int .i64 tx] w fun e w' => e = .returned (.bool true) ∧ Below w.heap.size w w' := by
  have h0 : Below w.heap.size w (w.alloc (.cells #[.slice AK ks.length ck, .slice AL ls.length cl] 25)) := (by (repeat (first | (with_reducible exact Below.refl _ _) | apply below_alloc _ (Nat.le_refl _) | refine below_set ?_ (by first | exact Nat.le_refl _ | omega) | apply below_drewN | refine below_step ?_ HB)))
  have BC := Lib.hid (Box.new w #[.slice AK ks.length ck, .slice AL ls.length cl] 25)
  have HF := Lib.hid h0
  have RK := Lib.hid (HK.below h0)
  have RL := Lib.hid (HL.below h0)
  have HLS := Lib.hid hls
  clear h0 HK HL hls
  have hof := gof_any AK AL ck cl ks ls _ RK.out RL.out hnk hk hl HLS.out
  go_enter Try.func6, Try.ntmps6
  have cBC0 := BC.out.c 0 _ rfl; have fBC0 := BC.out.f 0 (by simp); have cBC1 := BC.out.c 1 _ rfl; have fBC1 := BC.out.f 1 (by simp); have lBC := BC.out.lt
  go_wp2_with fail
  clear cBC0 fBC0 cBC1 fBC1 lBC
  generalize w.alloc (.cells #[.slice AK ks.length ck, .slice AL ls.length cl] 25) = w0 at *
  refine hof.mono ?_; rintro e w2 ⟨v2, rfl, hv2, h2⟩
  replace BC := Lib.hid (BC.out.below h2 BC.out.lt); replace HF := Lib.hid (below_step' HF.out h2); replace RK := Lib.hid (RK.out.below h2); replace RL := Lib.hid (RL.out.below h2)
  obtain ⟨AK3, AL3, ck3, cl3, rfl, hrk3, hrl3, _⟩ := hv2
  have OBX := Lib.hid (Box.new w2 #[.slice AK3 ks.length ck3, .slice AL3 ls.length cl3] 28)
  have HB := (Below.refl _ w2).alloc (Nat.le_refl _) (.cells #[.slice AK3 ks.length ck3, .slice AL3 ls.length cl3] 28)
  have SK := Lib.hid (hrk3.below HB)
  have SL := Lib.hid (hrl3.row.below HB)
  replace BC := Lib.hid (BC.out.below HB BC.out.lt); replace HF := Lib.hid (below_step' HF.out HB); replace RK := Lib.hid (RK.out.below HB); replace RL := Lib.hid (RL.out.below HB)
  clear hof h2 hrk3 hrl3 HB
  go_upto_region 2 with (fail)
  generalize w2.alloc (.cells #[.slice AK3 ks.length ck3, .slice AL3 ls.length cl3] 28) = w4 at *
  generalize w2.heap.size = bx at *
  have hk5 : ks.length ≤ 140737488355328 := by omega
  have hl5 : ls.length ≤ 140737488355328 := by omega
  have hg1 := get_any AK3 AL3 ck3 cl3 ks ls fr snap tx w4 SK.out SL.out hk5 hl5
  have hg2 := fun W h => rget_any AK AL ck cl ks ls fr snap tx W (RK.out.below h) (RL.out.below h) hk5 hl5
  have HG2 := Lib.hid hg2
  clear hg2
  generalize getR ks ls fr snap tx = g at *
  obtain ⟨g1, g2, g3, g4⟩ := g
  try dsimp only at hg1
  have cOBX0 := OBX.out.c 0 _ rfl; have fOBX0 := OBX.out.f 0 (by simp); have cOBX1 := OBX.out.c 1 _ rfl; have fOBX1 := OBX.out.f 1 (by simp); have lOBX := OBX.out.lt
  go_wp2_with fail
  clear cOBX0 fOBX0 cOBX1 fOBX1 lOBX
  refine hg1.mono ?_; rintro e w5 ⟨rfl, h5⟩
  have hg2 := HG2.out w5 h5
  replace BC := Lib.hid (BC.out.below h5 BC.out.lt); replace OBX := Lib.hid (OBX.out.below h5 OBX.out.lt); replace HF := Lib.hid (below_step' HF.out h5); replace RK := Lib.hid (RK.out.below h5); replace RL := Lib.hid (RL.out.below h5); replace SK := Lib.hid (SK.out.below h5); replace SL := Lib.hid (SL.out.below h5)
  try dsimp only at hg2
  clear hg1 h5 HG2
  have cBC0 := BC.out.c 0 _ rfl; have fBC0 := BC.out.f 0 (by simp); have cBC1 := BC.out.c 1 _ rfl; have fBC1 := BC.out.f 1 (by simp); have lBC := BC.out.lt
  go_wp2_with fail
  clear cBC0 fBC0 cBC1 fBC1 lBC
  refine hg2.mono ?_; rintro e w6 ⟨rfl, h6⟩
  replace BC := Lib.hid (BC.out.below h6 BC.out.lt); replace OBX := Lib.hid (OBX.out.below h6 OBX.out.lt); replace HF := Lib.hid (below_step' HF.out h6); replace RK := Lib.hid (RK.out.below h6); replace RL := Lib.hid (RL.out.below h6); replace SK := Lib.hid (SK.out.below h6); replace SL := Lib.hid (SL.out.below h6)
  clear hg2 h6
  have hra := range_any AK3 AL3 ck3 cl3 ks ls fr tt snap tx w6 SK.out SL.out hk5 hl5
  have hrb := fun W h => rrange_any AK AL ck cl ks ls fr tt snap tx W (RK.out.below h) (RL.out.below h) hk5 hl5
  have hPl := range_len2 ks ls fr tt snap tx
  have HRB := Lib.hid hrb
  clear hrb
  generalize rangeR ks ls fr tt snap tx = P at *
  obtain ⟨P1, P2⟩ := P
  try dsimp only at hra hPl
  have cOBX0 := OBX.out.c 0 _ rfl; have fOBX0 := OBX.out.f 0 (by simp); have cOBX1 := OBX.out.c 1 _ rfl; have fOBX1 := OBX.out.f 1 (by simp); have lOBX := OBX.out.lt
  go_wp2_with fail
  clear cOBX0 fOBX0 cOBX1 fOBX1 lOBX
  refine hra.mono ?_; rintro e w7 ⟨v7, rfl, ⟨A7, c7, rfl, _, hr7, _⟩, h7⟩
  have hrb := HRB.out w7 h7
  replace BC := Lib.hid (BC.out.below h7 BC.out.lt); replace OBX := Lib.hid (OBX.out.below h7 OBX.out.lt); replace HF := Lib.hid (below_step' HF.out h7); replace RK := Lib.hid (RK.out.below h7); replace RL := Lib.hid (RL.out.below h7); replace SK := Lib.hid (SK.out.below h7); replace SL := Lib.hid (SL.out.below h7)
  have HR7 := Lib.hid hr7
  try dsimp only at hrb
  clear hra h7 HRB hr7
  have cBC0 := BC.out.c 0 _ rfl; have fBC0 := BC.out.f 0 (by simp); have cBC1 := BC.out.c 1 _ rfl; have fBC1 := BC.out.f 1 (by simp); have lBC := BC.out.lt
  go_wp2_with fail
  clear cBC0 fBC0 cBC1 fBC1 lBC
  refine hrb.mono ?_; rintro e w8 ⟨v8, rfl, ⟨A8, c8, rfl, _, hr8, _⟩, h8⟩
  replace BC := Lib.hid (BC.out.below h8 BC.out.lt); replace OBX := Lib.hid (OBX.out.below h8 OBX.out.lt); replace HF := Lib.hid (below_step' HF.out h8); replace RK := Lib.hid (RK.out.below h8); replace RL := Lib.hid (RL.out.below h8); replace SK := Lib.hid (SK.out.below h8); replace SL := Lib.hid (SL.out.below h8); replace HR7 := Lib.hid (HR7.out.below h8)
  have HR8 := Lib.hid hr8
  clear hrb h8 hr8
  have hP8 : P1.length ≤ 140737488355328 := by omega
  have hll6 : ∀ l ∈ ls, l.length ≤ 140737488351232 := fun l hl => by have := HLS.out l hl; omega
  have C1 : Hid (∀ p : Later w8, Calls Try.prog 18 #[.slice A7 P1.length c7, .slice A8 P1.length c8] p.W fun e w' => e = .returned (.bool true) ∧ Below p.W.heap.size p.W w') := Lib.hid (fun p => samePairs_same A7 A8 c7 c8 P1 _ (HR7.out.below p.h) (HR8.out.below p.h) hP8)
  have C2 : Hid (∀ p : Later w8, Calls Try.prog 17 #[.agg #[.slice AK3 ks.length ck3, .slice AL3 ls.length cl3]] p.W fun e w' => e = .returned (.int .i64 (chkC ks ls)) ∧ Below p.W.heap.size p.W w') := Lib.hid (fun p => gcheck_any AK3 AL3 ck3 cl3 ks ls _ (SK.out.below p.h) (SL.out.below p.h) hk5 hl5)
  have C3 : Hid (∀ p : Later w8, Calls Try.prog 22 #[.agg #[.slice AK ks.length ck, .slice AL ls.length cl]] p.W fun e w' => e = .returned (.int .i64 (chkC ks ls)) ∧ Below p.W.heap.size p.W w') := Lib.hid (fun p => rgcheck_any AK AL ck cl ks ls _ (RK.out.below p.h) (RL.out.below p.h) hk5 hl5)
  have C4 : Hid (∀ p : Later w8, Calls Try.prog 12 #[.agg #[.slice AK3 ks.length ck3, .slice AL3 ls.length cl3], .agg #[.slice AK ks.length ck, .slice AL ls.length cl]] p.W fun e w' => e = .returned (.int .i64 0) ∧ Below p.W.heap.size p.W w') := Lib.hid (fun p => galike_same AK3 AL3 AK AL ck3 cl3 ck cl ks ls _ (SK.out.below p.h) (SL.out.below p.h) (RK.out.below p.h) (RL.out.below p.h) (by omega) (by omega) hll6)
  have C5 : Hid (∀ p : Later w8, Calls Try.prog 14 #[] p.W fun e w' => e = .returned (.bool true) ∧ Below p.W.heap.size p.W w') := Lib.hid (fun p => alive_any _)
  have p0 := later_cell BC.out.lt (BC.out.c 0 _ rfl)
  have p1 := later_cell BC.out.lt (BC.out.c 1 _ rfl)
  have p2 := later_cell OBX.out.lt (OBX.out.c 0 _ rfl)
  have p3 := later_cell OBX.out.lt (OBX.out.c 1 _ rfl)
  have HFw := HF
  have hzw := HF.out.size
  clear hll6 hk5 hl5
  generalize chkC ks ls = kc at *
  go_wp2_with fail
  (refine wp_region_later (by kernel_rfl) (by kernel_rfl) ?_
   repeat (first | go_big_quiet_step ((first | (go_at_call 13; exact later_same (num_any _ _)) | (go_at_call 18; exact later_of (C1.out _)) | (go_at_call 17; exact later_of (C2.out _)) | (go_at_call 22; exact later_of (C3.out _)) | (go_at_call 12; exact later_of (C4.out _)) | (go_at_call 14; exact later_of (C5.out _)))) | quiet_step ((first | (go_at_call 13; exact later_same (num_any _ _)) | (go_at_call 18; exact later_of (C1.out _)) | (go_at_call 17; exact later_of (C2.out _)) | (go_at_call 22; exact later_of (C3.out _)) | (go_at_call 12; exact later_of (C4.out _)) | (go_at_call 14; exact later_of (C5.out _)))))
   refine wpQuiet_nil ?_
   intro _ hw'
   obtain ⟨qL, hw''⟩ := hw'
   subst hw''
   obtain ⟨wL, h⟩ := qL)
  go_wp2
  go_ret
  exact ⟨ret_bool (by simp), below_step' HFw.out h⟩
end Go.Proofs.Ytpkacnoimdjckaa
