/- The law's alive: the page's example. -/
import Derived.Test.YtpkacnoimdjckaaOfG
namespace Go.Proofs.Ytpkacnoimdjckaa
open Go.RowKit
open Go.Shelf
set_option linter.unusedVariables false
set_option linter.unusedSimpArgs false
def bK : ByteArray := ⟨#[107]⟩
def bA : ByteArray := ⟨#[97]⟩
def bB : ByteArray := ⟨#[98]⟩
theorem ex1 : putR [] [] bK 0 1 false bA = ([bK], [[⟨0, 1, false, bA⟩]], 0) := by kernel_rfl
theorem ex2 : chgR (commitT 1 1) [bK] [[⟨0, 1, false, bA⟩]] = ([bK], [[⟨1, 1, false, bA⟩]], 0, 0) := by kernel_rfl
theorem ex3 : putR [bK] [[⟨1, 1, false, bA⟩]] bK 1 2 false bB = ([bK], [[⟨0, 2, false, bB⟩, ⟨1, 1, false, bA⟩]], 0) := by kernel_rfl
theorem ex4 : chgR (commitT 2 2) [bK] [[⟨0, 2, false, bB⟩, ⟨1, 1, false, bA⟩]] = ([bK], [[⟨2, 2, false, bB⟩, ⟨1, 1, false, bA⟩]], 0, 0) := by kernel_rfl
theorem ex5 : chgR (sweepT 2) [bK] [[⟨2, 2, false, bB⟩, ⟨1, 1, false, bA⟩]] = ([bK], [[⟨2, 2, false, bB⟩]], 1, 0) := by kernel_rfl
theorem num_any (e : Int) (w : World) : Calls Try.prog 13 #[.int .i64 e] w fun r w' => r = .returned (.int .i64 e) ∧ w = w' := by
  go_enter Try.func13, Try.ntmps13
  go_wp2
  go_ret
  exact ⟨rfl, rfl⟩
theorem al1 (W : World) : Calls Try.prog 10 #[.agg #[.slice none 0 0, .slice none 0 0], .string ⟨#[107]⟩, .int .i64 0, .int .i64 1, .bool false, .string ⟨#[97]⟩] W fun e w' => ∃ v, e = .returned (.tuple #[v, .int .i64 0]) ∧ ChB W.heap.size w' v [bK] [[⟨0, 1, false, bA⟩]] ∧ Below W.heap.size W w' := by
  have h := gput_any none none 0 0 [] [] bK 0 1 false bA W RowE.nil RowL.nil (fun _ => rfl) (fun _ => rfl) (by simp) (by simp)
  rw [ex1] at h
  exact h
theorem al2 (AK AL : Option Addr) (ck cl : Nat) (W : World) (HK : RowE encS 1 W AK [bK]) (HL : RowL W AL [[⟨0, 1, false, bA⟩]]) (hk : AK = none → ck = 0) (hl : AL = none → cl = 0) :
    Calls Try.prog 35 #[.agg #[.slice AK 1 ck, .slice AL 1 cl], .int .i64 1, .int .i64 1] W fun e w' => ∃ v, e = .returned (.tuple #[v, .int .i64 0]) ∧ ChB W.heap.size w' v [bK] [[⟨1, 1, false, bA⟩]] ∧ Below W.heap.size W w' := by
  have h := gcommit_any AK AL ck cl [bK] [[⟨0, 1, false, bA⟩]] 1 1 W HK HL (by simp) (by simp)
  rw [ex2] at h
  exact h
theorem al3 (AK AL : Option Addr) (ck cl : Nat) (W : World) (HK : RowE encS 1 W AK [bK]) (HL : RowL W AL [[⟨1, 1, false, bA⟩]]) (hk : AK = none → ck = 0) (hl : AL = none → cl = 0) :
    Calls Try.prog 10 #[.agg #[.slice AK 1 ck, .slice AL 1 cl], .string ⟨#[107]⟩, .int .i64 1, .int .i64 2, .bool false, .string ⟨#[98]⟩] W fun e w' => ∃ v, e = .returned (.tuple #[v, .int .i64 0]) ∧ ChB W.heap.size w' v [bK] [[⟨0, 2, false, bB⟩, ⟨1, 1, false, bA⟩]] ∧ Below W.heap.size W w' := by
  have h := gput_any AK AL ck cl [bK] [[⟨1, 1, false, bA⟩]] bK 1 2 false bB W HK HL hk hl (by simp) (by simp)
  rw [ex3] at h
  exact h
theorem al4 (AK AL : Option Addr) (ck cl : Nat) (W : World) (HK : RowE encS 1 W AK [bK]) (HL : RowL W AL [[⟨0, 2, false, bB⟩, ⟨1, 1, false, bA⟩]]) (hk : AK = none → ck = 0) (hl : AL = none → cl = 0) :
    Calls Try.prog 35 #[.agg #[.slice AK 1 ck, .slice AL 1 cl], .int .i64 2, .int .i64 2] W fun e w' => ∃ v, e = .returned (.tuple #[v, .int .i64 0]) ∧ ChB W.heap.size w' v [bK] [[⟨2, 2, false, bB⟩, ⟨1, 1, false, bA⟩]] ∧ Below W.heap.size W w' := by
  have h := gcommit_any AK AL ck cl [bK] [[⟨0, 2, false, bB⟩, ⟨1, 1, false, bA⟩]] 2 2 W HK HL (by simp) (by simp)
  rw [ex4] at h
  exact h
theorem al5 (AK AL : Option Addr) (ck cl : Nat) (W : World) (HK : RowE encS 1 W AK [bK]) (HL : RowL W AL [[⟨2, 2, false, bB⟩, ⟨1, 1, false, bA⟩]]) (hk : AK = none → ck = 0) (hl : AL = none → cl = 0) :
    Calls Try.prog 15 #[.agg #[.slice AK 1 ck, .slice AL 1 cl], .int .i64 2] W fun e w' => ∃ v, e = .returned (.tuple #[v, .int .i64 1, .int .i64 0]) ∧ ChB W.heap.size w' v [bK] [[⟨2, 2, false, bB⟩]] ∧ Below W.heap.size W w' := by
  have h := sweep_any AK AL ck cl [bK] [[⟨2, 2, false, bB⟩, ⟨1, 1, false, bA⟩]] 2 W HK HL (by simp) (by simp)
  rw [ex5] at h
  exact h
theorem ChB.one {N : Nat} {w : World} {v : Value} {l : List Ver} (h : ChB N w v [bK] [l]) : ∃ AK AL ck cl, v = .agg #[.slice AK 1 ck, .slice AL 1 cl] ∧ RowE encS 1 w AK [bK] ∧ RowL w AL [l] ∧ (AK = none → ck = 0) ∧ (AL = none → cl = 0) := by
  obtain ⟨AK, AL, ck, cl, h1, h2, h3, ⟨_, _, h4, h5⟩, _⟩ := h
  exact ⟨AK, AL, ck, cl, h1, h2, h3.row, h4, h5⟩
set_option maxHeartbeats 4000000 in
set_option maxRecDepth 100000 in
theorem alive_any (w : World) : Calls Try.prog 14 #[] w fun e w' => e = .returned (.bool true) ∧ Below w.heap.size w w' := by
  go_enter Try.func14, Try.ntmps14
  go_upto_region 1 with (fail)
  go_wp2_with fail
  refine (al1 w).mono ?_; rintro e w1 ⟨v1, rfl, hv, HF⟩
  obtain ⟨AK1, AL1, ck1, cl1, rfl, hk1, hl1, hn1, hm1⟩ := hv.one
  have HF2 := Lib.hid (HF.alloc HF.size (.cells #[.slice AK1 1 ck1, .slice AL1 1 cl1] 28))
  have BX2 := Lib.hid (Box.new w1 #[.slice AK1 1 ck1, .slice AL1 1 cl1] 28)
  have hc2 := al2 AK1 AL1 ck1 cl1 (w1.alloc (.cells #[.slice AK1 1 ck1, .slice AL1 1 cl1] 28)) (hk1.below ((Below.refl _ w1).alloc (Nat.le_refl _) _)) (hl1.below ((Below.refl _ w1).alloc (Nat.le_refl _) _)) hn1 hm1
  have hg : w.heap.size ≤ w1.heap.size := HF.size
  clear hv hk1 hl1 hn1 hm1 HF
  go_upto_region 2 with (fail)
  generalize w1.alloc (.cells #[.slice AK1 1 ck1, .slice AL1 1 cl1] 28) = wq2 at *
  generalize w1.heap.size = g at *
  clear w1
  have cBX20 := BX2.out.c 0 _ rfl; have fBX20 := BX2.out.f 0 (by simp); have cBX21 := BX2.out.c 1 _ rfl; have fBX21 := BX2.out.f 1 (by simp); have lBX2 := BX2.out.lt
  go_wp2_with fail
  clear cBX20 fBX20 cBX21 fBX21 lBX2
  refine hc2.mono ?_; rintro e w2 ⟨v2, rfl, hv, hb⟩
  obtain ⟨AK2, AL2, ck2, cl2, rfl, hk1, hl1, hn1, hm1⟩ := hv.one
  have hg2 : g < wq2.heap.size := BX2.out.lt
  replace BX2 := Lib.hid (BX2.out.below hb BX2.out.lt); replace HF2 := Lib.hid (below_step' HF2.out hb)
  have hv0 : ChB (g + 1) w2 (.agg #[.slice AK2 1 ck2, .slice AL2 1 cl2]) _ _ := hv.mono hg2
  have hv1 := (hv0.set ⟨g, 0, none⟩ (.slice AK2 1 ck2) (Nat.lt_succ_self g)).set ⟨g, 1, none⟩ (.slice AL2 1 cl2) (Nat.lt_succ_self g)
  obtain ⟨AK', AL', ck', cl', e5, hk2, hl2, hn2, hm2⟩ := hv1.one
  obtain ⟨⟨rfl, rfl⟩, rfl, rfl⟩ : (AK2 = AK' ∧ ck2 = ck') ∧ AL2 = AL' ∧ cl2 = cl' := by simpa using e5
  have BX3 : Hid (Box ((w2.setCell ⟨g, 0, none⟩ (.slice AK2 1 ck2)).setCell ⟨g, 1, none⟩ (.slice AL2 1 cl2)) g [.slice AK2 1 ck2, .slice AL2 1 cl2]) := Lib.hid ((BX2.out.set 0 (.slice AK2 1 ck2) (by simp)).set 1 (.slice AL2 1 cl2) (by simp))
  have HF3 := Lib.hid (below_set (g := g) (j := 1) (v := .slice AL2 1 cl2) (below_set (g := g) (j := 0) (v := .slice AK2 1 ck2) HF2.out hg) hg)
  have hc3 := al3 AK2 AL2 ck2 cl2 _ hk2 hl2 hn2 hm2
  clear hc2 hb hv hv0 hv1 e5 hk1 hl1 hn1 hm1 hk2 hl2 hn2 hm2 hg2
  have cBX20 := BX2.out.c 0 _ rfl; have fBX20 := BX2.out.f 0 (by simp); have cBX21 := BX2.out.c 1 _ rfl; have fBX21 := BX2.out.f 1 (by simp); have lBX2 := BX2.out.lt
  go_upto_region 3 with (fail)
  clear cBX20 fBX20 cBX21 fBX21 lBX2
  clear BX2 HF2
  generalize (w2.setCell ⟨g, 0, none⟩ (.slice AK2 1 ck2)).setCell ⟨g, 1, none⟩ (.slice AL2 1 cl2) = wq3 at *
  clear w2 wq2
  have cBX30 := BX3.out.c 0 _ rfl; have fBX30 := BX3.out.f 0 (by simp); have cBX31 := BX3.out.c 1 _ rfl; have fBX31 := BX3.out.f 1 (by simp); have lBX3 := BX3.out.lt
  go_wp2_with fail
  clear cBX30 fBX30 cBX31 fBX31 lBX3
  refine hc3.mono ?_; rintro e w3 ⟨v3, rfl, hv, hb⟩
  obtain ⟨AK3, AL3, ck3, cl3, rfl, hk1, hl1, hn1, hm1⟩ := hv.one
  have hg2 : g < wq3.heap.size := BX3.out.lt
  replace BX3 := Lib.hid (BX3.out.below hb BX3.out.lt); replace HF3 := Lib.hid (below_step' HF3.out hb)
  have hv0 : ChB (g + 1) w3 (.agg #[.slice AK3 1 ck3, .slice AL3 1 cl3]) _ _ := hv.mono hg2
  have hv1 := (hv0.set ⟨g, 0, none⟩ (.slice AK3 1 ck3) (Nat.lt_succ_self g)).set ⟨g, 1, none⟩ (.slice AL3 1 cl3) (Nat.lt_succ_self g)
  obtain ⟨AK', AL', ck', cl', e5, hk2, hl2, hn2, hm2⟩ := hv1.one
  obtain ⟨⟨rfl, rfl⟩, rfl, rfl⟩ : (AK3 = AK' ∧ ck3 = ck') ∧ AL3 = AL' ∧ cl3 = cl' := by simpa using e5
  have BX4 : Hid (Box ((w3.setCell ⟨g, 0, none⟩ (.slice AK3 1 ck3)).setCell ⟨g, 1, none⟩ (.slice AL3 1 cl3)) g [.slice AK3 1 ck3, .slice AL3 1 cl3]) := Lib.hid ((BX3.out.set 0 (.slice AK3 1 ck3) (by simp)).set 1 (.slice AL3 1 cl3) (by simp))
  have HF4 := Lib.hid (below_set (g := g) (j := 1) (v := .slice AL3 1 cl3) (below_set (g := g) (j := 0) (v := .slice AK3 1 ck3) HF3.out hg) hg)
  have hc4 := al4 AK3 AL3 ck3 cl3 _ hk2 hl2 hn2 hm2
  clear hc3 hb hv hv0 hv1 e5 hk1 hl1 hn1 hm1 hk2 hl2 hn2 hm2 hg2
  have cBX30 := BX3.out.c 0 _ rfl; have fBX30 := BX3.out.f 0 (by simp); have cBX31 := BX3.out.c 1 _ rfl; have fBX31 := BX3.out.f 1 (by simp); have lBX3 := BX3.out.lt
  go_upto_region 4 with (fail)
  clear cBX30 fBX30 cBX31 fBX31 lBX3
  clear BX3 HF3
  generalize (w3.setCell ⟨g, 0, none⟩ (.slice AK3 1 ck3)).setCell ⟨g, 1, none⟩ (.slice AL3 1 cl3) = wq4 at *
  clear w3 wq3
  have cBX40 := BX4.out.c 0 _ rfl; have fBX40 := BX4.out.f 0 (by simp); have cBX41 := BX4.out.c 1 _ rfl; have fBX41 := BX4.out.f 1 (by simp); have lBX4 := BX4.out.lt
  go_wp2_with fail
  clear cBX40 fBX40 cBX41 fBX41 lBX4
  refine hc4.mono ?_; rintro e w4 ⟨v4, rfl, hv, hb⟩
  obtain ⟨AK4, AL4, ck4, cl4, rfl, hk1, hl1, hn1, hm1⟩ := hv.one
  have hg2 : g < wq4.heap.size := BX4.out.lt
  replace BX4 := Lib.hid (BX4.out.below hb BX4.out.lt); replace HF4 := Lib.hid (below_step' HF4.out hb)
  have hv0 : ChB (g + 1) w4 (.agg #[.slice AK4 1 ck4, .slice AL4 1 cl4]) _ _ := hv.mono hg2
  have hv1 := (hv0.set ⟨g, 0, none⟩ (.slice AK4 1 ck4) (Nat.lt_succ_self g)).set ⟨g, 1, none⟩ (.slice AL4 1 cl4) (Nat.lt_succ_self g)
  obtain ⟨AK', AL', ck', cl', e5, hk2, hl2, hn2, hm2⟩ := hv1.one
  obtain ⟨⟨rfl, rfl⟩, rfl, rfl⟩ : (AK4 = AK' ∧ ck4 = ck') ∧ AL4 = AL' ∧ cl4 = cl' := by simpa using e5
  have BX5 : Hid (Box ((w4.setCell ⟨g, 0, none⟩ (.slice AK4 1 ck4)).setCell ⟨g, 1, none⟩ (.slice AL4 1 cl4)) g [.slice AK4 1 ck4, .slice AL4 1 cl4]) := Lib.hid ((BX4.out.set 0 (.slice AK4 1 ck4) (by simp)).set 1 (.slice AL4 1 cl4) (by simp))
  have HF5 := Lib.hid (below_set (g := g) (j := 1) (v := .slice AL4 1 cl4) (below_set (g := g) (j := 0) (v := .slice AK4 1 ck4) HF4.out hg) hg)
  have hc5 := al5 AK4 AL4 ck4 cl4 _ hk2 hl2 hn2 hm2
  clear hc4 hb hv hv0 hv1 e5 hk1 hl1 hn1 hm1 hk2 hl2 hn2 hm2 hg2
  have cBX40 := BX4.out.c 0 _ rfl; have fBX40 := BX4.out.f 0 (by simp); have cBX41 := BX4.out.c 1 _ rfl; have fBX41 := BX4.out.f 1 (by simp); have lBX4 := BX4.out.lt
  go_upto_region 5 with (fail)
  clear cBX40 fBX40 cBX41 fBX41 lBX4
  clear BX4 HF4
  generalize (w4.setCell ⟨g, 0, none⟩ (.slice AK4 1 ck4)).setCell ⟨g, 1, none⟩ (.slice AL4 1 cl4) = wq5 at *
  clear w4 wq4
  have cBX50 := BX5.out.c 0 _ rfl; have fBX50 := BX5.out.f 0 (by simp); have cBX51 := BX5.out.c 1 _ rfl; have fBX51 := BX5.out.f 1 (by simp); have lBX5 := BX5.out.lt
  go_wp2_with fail
  clear cBX50 fBX50 cBX51 fBX51 lBX5
  refine hc5.mono ?_; rintro e w5 ⟨v5, rfl, hv, hb⟩
  obtain ⟨AK5, AL5, ck5, cl5, rfl, hk1, hl1, hn1, hm1⟩ := hv.one
  have hg2 : g < wq5.heap.size := BX5.out.lt
  replace BX5 := Lib.hid (BX5.out.below hb BX5.out.lt); replace HF5 := Lib.hid (below_step' HF5.out hb)
  have hv0 : ChB (g + 1) w5 (.agg #[.slice AK5 1 ck5, .slice AL5 1 cl5]) _ _ := hv.mono hg2
  have hv1 := (hv0.set ⟨g, 0, none⟩ (.slice AK5 1 ck5) (Nat.lt_succ_self g)).set ⟨g, 1, none⟩ (.slice AL5 1 cl5) (Nat.lt_succ_self g)
  obtain ⟨AK', AL', ck', cl', e5, hk2, hl2, hn2, hm2⟩ := hv1.one
  obtain ⟨⟨rfl, rfl⟩, rfl, rfl⟩ : (AK5 = AK' ∧ ck5 = ck') ∧ AL5 = AL' ∧ cl5 = cl' := by simpa using e5
  have BX6 : Hid (Box ((w5.setCell ⟨g, 0, none⟩ (.slice AK5 1 ck5)).setCell ⟨g, 1, none⟩ (.slice AL5 1 cl5)) g [.slice AK5 1 ck5, .slice AL5 1 cl5]) := Lib.hid ((BX5.out.set 0 (.slice AK5 1 ck5) (by simp)).set 1 (.slice AL5 1 cl5) (by simp))
  have HF6 := Lib.hid (below_set (g := g) (j := 1) (v := .slice AL5 1 cl5) (below_set (g := g) (j := 0) (v := .slice AK5 1 ck5) HF5.out hg) hg)
  obtain ⟨bl, ol, v, rfl, _, hcl, Ai, ci, rfl, _⟩ := hl2 0 _ rfl
  simp only [Nat.add_zero, List.length_cons, List.length_nil, Nat.zero_add, Nat.reduceAdd] at hcl
  clear hc5 hb hv hv0 hv1 e5 hk1 hl1 hn1 hm1 hk2 hl2 hn2 hm2 hg2
  have cBX50 := BX5.out.c 0 _ rfl; have fBX50 := BX5.out.f 0 (by simp); have cBX51 := BX5.out.c 1 _ rfl; have fBX51 := BX5.out.f 1 (by simp); have lBX5 := BX5.out.lt
  go_upto_region 6 with (fail)
  clear cBX50 fBX50 cBX51 fBX51 lBX5
  clear BX5 HF5
  generalize (w5.setCell ⟨g, 0, none⟩ (.slice AK5 1 ck5)).setCell ⟨g, 1, none⟩ (.slice (some ⟨bl, ol, none⟩) 1 cl5) = wq6 at *
  clear w5 wq5
  have cBX60 := BX6.out.c 0 _ rfl; have fBX60 := BX6.out.f 0 (by simp); have cBX61 := BX6.out.c 1 _ rfl; have fBX61 := BX6.out.f 1 (by simp); have lBX6 := BX6.out.lt
  go_wp2_with (go_at_call 13; (with_reducible refine (num_any _ _).mono ?_); rintro e w' ⟨rfl, rfl⟩)
  go_ret
  exact ⟨rfl, HF6.out⟩
end Go.Proofs.Ytpkacnoimdjckaa
