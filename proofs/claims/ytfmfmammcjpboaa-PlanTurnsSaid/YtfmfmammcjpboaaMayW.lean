/- catalog.May. -/
import Derived.Test.YtfmfmammcjpboaaMapB
import Derived.Test.YtfmfmammcjpboaaLines
namespace Go.Proofs.Ytfmfmammcjpboaa
open Go.RowKit
set_option linter.unusedVariables false
set_option linter.unusedSimpArgs false
theorem MaxL.grown {w w' : World} {row : Option Nat} (h : MaxL w) (hg : w.grownBy w' row) (hne : some 0 ≠ row) : MaxL w' := by
  obtain ⟨m, hm⟩ := h
  exact ⟨m, (World.cell?_of_block (a := ⟨0, 0, none⟩) (hg.block 0 (World.block_lt_of_cell? _ _ hm) hne)).trans hm⟩
structure Col where
  name : ByteArray
  kind : Int
  nn : Bool
structure Ixd where
  name : ByteArray
  col : Int
def encC (c : Col) : List Value := [.string c.name, .int .i64 c.kind, .bool c.nn]
def encX (x : Ixd) : List Value := [.string x.name, .int .i64 x.col]
theorem encC_len (c : Col) : (encC c).length = 3 := rfl
theorem encX_len (x : Ixd) : (encX x).length = 2 := rfl
def colsB : List (List UInt8) → List Col → Bool
  | _, [] => true
  | seen, c :: l => !(seen.contains c.name.toList) && (nameB c.name && (decide (1 ≤ c.kind) && (decide (c.kind ≤ 3) && colsB (c.name.toList :: seen) l)))
def ixsB (n : Nat) : List (List UInt8) → List Ixd → Bool
  | _, [] => true
  | seen, x :: l => !(seen.contains x.name.toList) && (nameB x.name && (decide (0 ≤ x.col ∧ x.col < n) && ixsB n (x.name.toList :: seen) l))
def mayT (nm : ByteArray) (cs : List Col) (k : Int) (xs : List Ixd) : Bool :=
  nameB nm && (decide (1 ≤ cs.length ∧ cs.length ≤ 8 ∧ xs.length ≤ 4 ∧ 0 ≤ k ∧ k < cs.length) && ((match cs[k.toNat]? with | some c => c.nn | none => false) && (colsB [] cs && ixsB cs.length [] xs)))
set_option maxHeartbeats 4000000 in
set_option maxRecDepth 100000 in
theorem may_any (nm : ByteArray) (A B : Option Addr) (cs : List Col) (xs : List Ixd) (ca cb : Nat) (k : Int) (w : World) (HA : RowE encC 3 w A cs) (HB : RowE encX 2 w B xs) (hm : MaxL w) (hk : -9223372036854775808 ≤ k ∧ k ≤ 9223372036854775807) (hcs : ∀ c ∈ cs, c.name.size ≤ maxLen) (hxs : ∀ x ∈ xs, x.name.size ≤ maxLen ∧ -9223372036854775808 ≤ x.col ∧ x.col ≤ 9223372036854775807) :
    Calls Try.prog 22 #[.agg #[.string nm, .slice A cs.length ca, .int .i64 k, .slice B xs.length cb]] w fun e w' => e = .returned (.bool (mayT nm cs k xs)) ∧ Below w.heap.size w w' := by
  have hF0 := (Below.refl w.heap.size w).alloc (Nat.le_refl _) (.cells #[.string nm, .slice A cs.length ca, .int .i64 k, .slice B xs.length cb] 38)
  have BT := Box.new w #[.string nm, .slice A cs.length ca, .int .i64 k, .slice B xs.length cb] 38
  go_enter Try.func22, Try.ntmps22
  go_wp2_with fail
  generalize w.alloc (.cells #[.string nm, .slice A cs.length ca, .int .i64 k, .slice B xs.length cb] 38) = w0 at *
  have hm0 := hm.below hF0
  have cT0 := BT.c 0 _ rfl
  have cT1 := BT.c 1 _ rfl
  have cT2 := BT.c 2 _ rfl
  have cT3 := BT.c 3 _ rfl
  cases hnm : nameB nm
  · have hv : mayT nm cs k xs = false := by unfold mayT; rw [hnm]; rfl
    have hc := name_any nm w0 hm0
    rw [hnm] at hc
    have HV := Lib.hid hv
    clear hv
    go_wp2_with fail
    refine hc.mono ?_; rintro e w1 ⟨rfl, h1⟩
    go_wp2
    all_goals (go_ret; exact ⟨by (rw [HV.out]; try rfl), below_step' hF0 h1⟩)
  · have hc := name_any nm w0 hm0
    rw [hnm] at hc
    by_cases hg : 1 ≤ cs.length ∧ cs.length ≤ 8 ∧ xs.length ≤ 4 ∧ 0 ≤ k ∧ k < cs.length
    · have hv : mayT nm cs k xs = ((match cs[k.toNat]? with | some c => c.nn | none => false) && (colsB [] cs && ixsB cs.length [] xs)) := by
        unfold mayT; rw [hnm, decide_eq_true hg, Bool.true_and, Bool.true_and]
      obtain ⟨g1, g2, g3, g4, g5⟩ := hg
      obtain ⟨c0, hc0⟩ : ∃ c, cs[k.toNat]? = some c := ⟨_, List.getElem?_eq_getElem (by omega)⟩
      rw [hc0] at hv
      dsimp only at hv
      have HV := Lib.hid hv
      have g1' : ¬ (cs.length : Int) < 1 := by omega
      have g2' : ¬ 8 < (cs.length : Int) := by omega
      have g3' : ¬ 4 < (xs.length : Int) := by omega
      have hkw : IntKind.u64.wrap k = k := by rw [IntKind.wrap_u64]; omega
      have hkc : ¬ (cs.length : Int) ≤ k := by omega
      obtain ⟨b0, off, rfl, hb0, hcells⟩ := HA k.toNat c0 hc0
      clear hv
      go_wp2_with fail
      refine hc.mono ?_; rintro e w1 ⟨rfl, h1⟩
      have BT1 := BT.step h1
      have HF := Lib.hid (below_step' hF0 h1)
      have hn0 : w1.cell? ⟨b0, off + k.toNat * 3 + 2, none⟩ = some (.bool c0.nn) := (HF.out.cell (p := ⟨b0, _, none⟩) hb0).trans (hcells k.toNat c0 hc0 2 _ rfl)
      have hm1 := hm0.below h1
      clear cT0 cT1 cT2 cT3 hc BT hF0 hcells h1 hm0
      have cT0 := BT1.c 0 _ rfl
      have cT1 := BT1.c 1 _ rfl
      have cT2 := BT1.c 2 _ rfl
      have cT3 := BT1.c 3 _ rfl
      cases hnn : c0.nn
      · rw [hnn] at hn0 HV
        go_wp2
        all_goals (go_ret; exact ⟨by (rw [HV.out]; try rfl), HF.out⟩)
      · rw [hnn] at hn0 HV
        have HV2 : Hid (mayT nm cs k xs = (colsB [] cs && ixsB cs.length [] xs)) := Lib.hid (by rw [HV.out, Bool.true_and])
        clear HV
        have hmm := @run_makeMap Try.prog
        have hbl0 := BT1.lt
        go_wp2
        have hN0 := NamesAt.made w1
        have BTm := Lib.hid (BT1.alloc (.map #[] 0))
        have HFm := Lib.hid (HF.out.alloc (Nat.le_of_lt BT1.lt) (.map #[] 0))
        have hmm : MaxL (w1.alloc (.map #[] 0)) := hm1.below ((Below.refl _ _).alloc (Nat.le_refl _) _)
        have hbl : w.heap.size < w1.heap.size := BT1.lt
        clear cT0 cT1 cT2 cT3 BT1 HF hn0 hm1
        generalize w1.alloc (.map #[] 0) = wm at *
        generalize w1.heap.size = mb at *
        have HAh := Lib.hid HA
        clear HA
        go_loopw [52, 6] (fun i _u wr => ∃ (j : Nat) (l : List (List UInt8)), j ≤ cs.length ∧ i = .int .i64 j ∧ NamesAt wr mb l ∧ l.length = j ∧ Hid (Box wr w.heap.size [.string nm, .slice (some ⟨b0, off, none⟩) cs.length ca, .int .i64 k, .slice B xs.length cb]) ∧ Hid (Below w.heap.size w wr) ∧ MaxL wr ∧ Hid (colsB l (cs.drop j) = colsB [] cs)) (fun i _ _ => cs.length - (Lib.intOf i).toNat)
        case atStart => exact ⟨0, [], Nat.zero_le _, rfl, hN0, rfl, BTm, HFm, hmm, Lib.hid rfl⟩
        case round =>
          clear hN0 BTm HFm hmm
          obtain ⟨j, l, hj, rfl, hN, hlen, HBT, HF, hM, HC⟩ := hrel
          by_cases hlt : j < cs.length
          · obtain ⟨c, hcj⟩ : ∃ c, cs[j]? = some c := ⟨_, List.getElem?_eq_getElem hlt⟩
            obtain ⟨b0', off', hbe, hb0', hcells⟩ := HAh.out j c hcj
            obtain ⟨rfl, rfl⟩ : b0 = b0' ∧ off = off' := by simpa using hbe
            have e0 : wr.cell? ⟨b0, off + j * 3, none⟩ = some (.string c.name) := (HF.out.cell (p := ⟨b0, _, none⟩) hb0').trans (hcells j c hcj 0 _ rfl)
            have e1 : wr.cell? ⟨b0, off + j * 3 + 1, none⟩ = some (.int .i64 c.kind) := (HF.out.cell (p := ⟨b0, _, none⟩) hb0').trans (hcells j c hcj 1 _ rfl)
            have e2 : wr.cell? ⟨b0, off + j * 3 + 2, none⟩ = some (.bool c.nn) := (HF.out.cell (p := ⟨b0, _, none⟩) hb0').trans (hcells j c hcj 2 _ rfl)
            have hsz := hcs c (List.mem_of_getElem? hcj)
            have hd : cs.drop j = c :: cs.drop (j + 1) := drop_cons hcj
            have hC2 : colsB [] cs = (!(l.contains c.name.toList) && (nameB c.name && (decide (1 ≤ c.kind) && (decide (c.kind ≤ 3) && colsB (c.name.toList :: l) (cs.drop (j + 1)))))) := by rw [← HC.out, hd]; rfl
            have HC2 := Lib.hid hC2
            have hlt' : (j : Int) < (cs.length : Int) := by omega
            have hbm := HBT.out.lt
            clear hcells hcj hd hC2 HC hbe
            obtain ⟨cn, ck, cb'⟩ := c
            dsimp only at e0 e1 e2 hsz HC2
            have hN1 := hN.below ((Below.refl _ wr).alloc (Nat.le_refl _) (.cells #[.string cn, .int .i64 ck, .bool cb'] 65))
            have BX := Box.new wr #[.string cn, .int .i64 ck, .bool cb'] 65
            have HF1 := HF.out.alloc (Nat.le_of_lt hbm) (.cells #[.string cn, .int .i64 ck, .bool cb'] 65)
            have BT1 := HBT.out.alloc (.cells #[.string cn, .int .i64 ck, .bool cb'] 65)
            have hM1 := hM.below ((Below.refl _ wr).alloc (Nat.le_refl _) (.cells #[.string cn, .int .i64 ck, .bool cb'] 65))
            have hlook := hN1.look cn hsz
            cases hcon : l.contains cn.toList
            · rw [hcon] at hlook HC2
              have hnc := fun W hMW => name_any cn W hMW
              cases hnb : nameB cn
              · rw [hnb] at hnc HC2
                have HV3 : Hid (mayT nm cs k xs = false) := Lib.hid (by rw [HV2.out, HC2.out]; rfl)
                go_wp2_with fail
                refine (hnc _ hM1).mono ?_; rintro e w5 ⟨rfl, h5⟩
                have HF5 := below_step' HF1 h5
                go_wp2
                go_ret
                exact ⟨by (rw [HV3.out]; try rfl), HF5⟩
              rw [hnb] at hnc HC2
              go_wp2_with fail
              refine (hnc _ hM1).mono ?_; rintro e w5 ⟨rfl, h5⟩
              have HF5 := Lib.hid (below_step' HF1 h5)
              have hN5 := hN1.below h5
              have BT5 := Lib.hid (BT1.step h5)
              have BX5 := BX.step h5
              have hM5 := hM1.below h5
              have hmb5 := hN5.lt
              clear hlook hN1 BX HF1 BT1 hM1 hnc h5 hM HF HBT hN
              have cX0 := BX5.c 0 _ rfl
              have cX1 := BX5.c 1 _ rfl
              by_cases k1 : 1 ≤ ck
              · by_cases k3 : ck ≤ 3
                · have HC3 : colsB (cn.toList :: l) (cs.drop (j + 1)) = colsB [] cs := by
                    have e := HC2.out
                    rw [decide_eq_true k1, decide_eq_true k3] at e
                    simpa using e.symm
                  have k1' : ¬ ck < 1 := by omega
                  have k3' : ¬ 3 < ck := by omega
                  obtain ⟨n5, D5, hn5, ho5, hi5, ha5⟩ := hN5
                  go_wp2_with (at_mapUpdate; refine wpList_mapUpdate_own (H := Unit) _ rfl _ _ _ 108 rfl 9 4 (Maps.string_keyed Try.underlying9) Try.underlying108 (plainElem Try.prog 4) mb n5 D5 rfl ho5 (by simp only [maxLen]; omega) _ _ (.string cn.data.toList) rfl rfl (key_text cn hsz) (.lit (.bool true)) [] (plainElem_bool Try.underlying4 true) ?_; intro w6 hown6 hgrow6)
                  go_roundw
                  case rel => exact ⟨j + 1, cn.toList :: l, by omega, by go_num, NamesAt.put hn5 hi5 ha5 hown6, by simp [hlen], Lib.hid (BT5.out.grown hgrow6 (fun e => by have := Option.some.inj e; omega)), Lib.hid (HF5.out.grown hgrow6 (Nat.le_of_lt BT5.out.lt) (fun q hq => by have := Option.some.inj hq; omega)), hM5.grown hgrow6 (fun e => by have := Option.some.inj e; omega), Lib.hid HC3⟩
                  case measure => simp [Lib.intOf]; omega
                · have HV3 : Hid (mayT nm cs k xs = false) := Lib.hid (by rw [HV2.out, HC2.out, decide_eq_false k3]; simp)
                  have k1' : ¬ ck < 1 := by omega
                  have k3' : 3 < ck := by omega
                  go_wp2
                  go_ret
                  exact ⟨by (rw [HV3.out]; try rfl), HF5.out⟩
              · have HV3 : Hid (mayT nm cs k xs = false) := Lib.hid (by rw [HV2.out, HC2.out, decide_eq_false k1]; simp)
                have k1' : ck < 1 := by omega
                go_wp2
                go_ret
                exact ⟨by (rw [HV3.out]; try rfl), HF5.out⟩
            · rw [hcon] at hlook HC2
              have HV3 : Hid (mayT nm cs k xs = false) := Lib.hid (by rw [HV2.out, HC2.out]; rfl)
              go_wp2
              go_ret
              exact ⟨by (rw [HV3.out]; try rfl), HF1⟩
          · obtain rfl : j = cs.length := by omega
            have hcols : colsB [] cs = true := by
              have e := HC.out
              rw [List.drop_length] at e
              rw [← e]
              cases l <;> rfl
            have HV4 : Hid (mayT nm cs k xs = ixsB cs.length [] xs) := Lib.hid (by rw [HV2.out, hcols, Bool.true_and])
            obtain ⟨w7, hclr, hN7, hg7⟩ := hN.clear
            have hmb := hN.lt
            have hbm := HBT.out.lt
            have HB7 := Lib.hid (HBT.out.grown hg7 (fun e => by have := Option.some.inj e; omega))
            have HF7 := Lib.hid (HF.out.grown hg7 (Nat.le_of_lt hbm) (fun q hq => by have := Option.some.inj hq; omega))
            have hM7 := hM.grown hg7 (fun e => by have := Option.some.inj e; omega)
            clear HC HV2 hcols hN hg7 HBT HF hM HAh
            have cT3 := HB7.out.c 3 _ rfl
            have hBh := Lib.hid HB
            clear HB
            go_wp2
            clear cT3
            go_loopw [84, 8] (fun i _u wr => ∃ (j : Nat) (l : List (List UInt8)), j ≤ xs.length ∧ i = .int .i64 j ∧ NamesAt wr mb l ∧ l.length = j ∧ Hid (Box wr w.heap.size [.string nm, .slice (some ⟨b0, off, none⟩) cs.length ca, .int .i64 k, .slice B xs.length cb]) ∧ Hid (Below w.heap.size w wr) ∧ MaxL wr ∧ Hid (ixsB cs.length l (xs.drop j) = ixsB cs.length [] xs)) (fun i _ _ => xs.length - (Lib.intOf i).toNat)
            case atStart => exact ⟨0, [], Nat.zero_le _, rfl, hN7, rfl, HB7, HF7, hM7, Lib.hid rfl⟩
            case round =>
              clear hN7 HB7 HF7 hM7 hclr hlen
              obtain ⟨j, l, hj, rfl, hN, hlen, HBT, HF, hM, HC⟩ := hrel
              by_cases hlt : j < xs.length
              · obtain ⟨c, hcj⟩ : ∃ c, xs[j]? = some c := ⟨_, List.getElem?_eq_getElem hlt⟩
                obtain ⟨b1, of1, rfl, hb1, hcells⟩ := hBh.out j c hcj
                have e0 : wr.cell? ⟨b1, of1 + j * 2, none⟩ = some (.string c.name) := (HF.out.cell (p := ⟨b1, _, none⟩) hb1).trans (hcells j c hcj 0 _ rfl)
                have e1 : wr.cell? ⟨b1, of1 + j * 2 + 1, none⟩ = some (.int .i64 c.col) := (HF.out.cell (p := ⟨b1, _, none⟩) hb1).trans (hcells j c hcj 1 _ rfl)
                obtain ⟨hsz, hr1, hr2⟩ := hxs c (List.mem_of_getElem? hcj)
                have hd : xs.drop j = c :: xs.drop (j + 1) := drop_cons hcj
                have hC2 : ixsB cs.length [] xs = (!(l.contains c.name.toList) && (nameB c.name && (decide (0 ≤ c.col ∧ c.col < cs.length) && ixsB cs.length (c.name.toList :: l) (xs.drop (j + 1))))) := by rw [← HC.out, hd]; rfl
                have HC2 := Lib.hid hC2
                have hlt' : (j : Int) < (xs.length : Int) := by omega
                have hbm := HBT.out.lt
                clear hcells hcj hd hC2 HC
                obtain ⟨cn, ck⟩ := c
                dsimp only at e0 e1 hsz HC2 hr1 hr2
                have hN1 := hN.below ((Below.refl _ wr).alloc (Nat.le_refl _) (.cells #[.string cn, .int .i64 ck] 79))
                have BX := Box.new wr #[.string cn, .int .i64 ck] 79
                have HF1 := HF.out.alloc (Nat.le_of_lt hbm) (.cells #[.string cn, .int .i64 ck] 79)
                have BT1 := HBT.out.alloc (.cells #[.string cn, .int .i64 ck] 79)
                have hM1 := hM.below ((Below.refl _ wr).alloc (Nat.le_refl _) (.cells #[.string cn, .int .i64 ck] 79))
                have hlook := hN1.look cn hsz
                cases hcon : l.contains cn.toList
                · rw [hcon] at hlook HC2
                  have hnc := fun W hMW => name_any cn W hMW
                  cases hnb : nameB cn
                  · rw [hnb] at hnc HC2
                    have HV3 : Hid (mayT nm cs k xs = false) := Lib.hid (by rw [HV4.out, HC2.out]; rfl)
                    go_wp2_with fail
                    refine (hnc _ hM1).mono ?_; rintro e w5 ⟨rfl, h5⟩
                    have HF5 := below_step' HF1 h5
                    go_wp2
                    go_ret
                    exact ⟨by (rw [HV3.out]; try rfl), HF5⟩
                  rw [hnb] at hnc HC2
                  go_wp2_with fail
                  refine (hnc _ hM1).mono ?_; rintro e w5 ⟨rfl, h5⟩
                  have HF5 := Lib.hid (below_step' HF1 h5)
                  have hN5 := hN1.below h5
                  have BT5 := Lib.hid (BT1.step h5)
                  have BX5 := BX.step h5
                  have hM5 := hM1.below h5
                  have hmb5 := hN5.lt
                  clear hlook hN1 BX HF1 BT1 hM1 hnc h5 hM HF HBT hN
                  have cX0 := BX5.c 0 _ rfl
                  have cX1 := BX5.c 1 _ rfl
                  have hcu : (cs.length : Int) % 18446744073709551616 = cs.length := by omega
                  by_cases k1 : 0 ≤ ck ∧ ck < cs.length
                  · have HC3 : ixsB cs.length (cn.toList :: l) (xs.drop (j + 1)) = ixsB cs.length [] xs := by
                      have e := HC2.out
                      rw [decide_eq_true k1] at e
                      simpa using e.symm
                    have hw1 : IntKind.u64.wrap ck = ck := by rw [IntKind.wrap_u64]; omega
                    have k3' : ¬ (cs.length : Int) ≤ ck := by omega
                    obtain ⟨n5, D5, hn5, ho5, hi5, ha5⟩ := hN5
                    go_wp2_with (at_mapUpdate; refine wpList_mapUpdate_own (H := Unit) _ rfl _ _ _ 108 rfl 9 4 (Maps.string_keyed Try.underlying9) Try.underlying108 (plainElem Try.prog 4) mb n5 D5 rfl ho5 (by simp only [maxLen]; omega) _ _ (.string cn.data.toList) rfl rfl (key_text cn hsz) (.lit (.bool true)) [] (plainElem_bool Try.underlying4 true) ?_; intro w6 hown6 hgrow6)
                    go_roundw
                    case rel => exact ⟨j + 1, cn.toList :: l, by omega, by go_num, NamesAt.put hn5 hi5 ha5 hown6, by simp [hlen], Lib.hid (BT5.out.grown hgrow6 (fun e => by have := Option.some.inj e; omega)), Lib.hid (HF5.out.grown hgrow6 (Nat.le_of_lt BT5.out.lt) (fun q hq => by have := Option.some.inj hq; omega)), hM5.grown hgrow6 (fun e => by have := Option.some.inj e; omega), Lib.hid HC3⟩
                    case measure => simp [Lib.intOf]; omega
                  · have HV3 : Hid (mayT nm cs k xs = false) := Lib.hid (by rw [HV4.out, HC2.out, decide_eq_false k1]; simp)
                    have k3' : (cs.length : Int) ≤ IntKind.u64.wrap ck := by rw [IntKind.wrap_u64]; omega
                    go_wp2
                    go_ret
                    exact ⟨by (rw [HV3.out]; try rfl), HF5.out⟩
                · rw [hcon] at hlook HC2
                  have HV3 : Hid (mayT nm cs k xs = false) := Lib.hid (by rw [HV4.out, HC2.out]; rfl)
                  go_wp2
                  go_ret
                  exact ⟨by (rw [HV3.out]; try rfl), HF1⟩
              · obtain rfl : j = xs.length := by omega
                have hix : ixsB cs.length [] xs = true := by
                  have e := HC.out
                  rw [List.drop_length] at e
                  rw [← e]
                  cases l <;> rfl
                have HV5 : Hid (mayT nm cs k xs = true) := Lib.hid (by rw [HV4.out, hix])
                clear HV4 HC hix
                go_wp2
                go_ret
                exact ⟨by (rw [HV5.out]; try rfl), HF.out⟩
    · have hv : mayT nm cs k xs = false := by unfold mayT; rw [hnm, decide_eq_false hg]; rfl
      have HV := Lib.hid hv
      clear hv
      have hg1 : (cs.length : Int) < 1 ∨ 8 < (cs.length : Int) ∨ 4 < (xs.length : Int) ∨ (1 ≤ (cs.length : Int) ∧ (cs.length : Int) ≤ 8 ∧ (xs.length : Int) ≤ 4 ∧ (cs.length : Int) ≤ IntKind.u64.wrap k) := by rw [IntKind.wrap_u64]; omega
      have hu : (cs.length : Int) % 18446744073709551616 = cs.length ∨ 8 < (cs.length : Int) := by omega
      go_wp2_with fail
      refine hc.mono ?_; rintro e w1 ⟨rfl, h1⟩
      have BT1 := BT.step h1
      clear cT0 cT1 cT2 cT3
      have cT0 := BT1.c 0 _ rfl
      have cT1 := BT1.c 1 _ rfl
      have cT2 := BT1.c 2 _ rfl
      have cT3 := BT1.c 3 _ rfl
      have HF := below_step' hF0 h1
      rcases hg1 with g | g | g | g
      · go_wp2
        all_goals (go_ret; exact ⟨by (rw [HV.out]; try rfl), HF⟩)
      · have g2 : ¬ (cs.length : Int) < 1 := by omega
        go_wp2
        all_goals (go_ret; exact ⟨by (rw [HV.out]; try rfl), HF⟩)
      · by_cases g2 : (cs.length : Int) < 1
        · go_wp2
          all_goals (go_ret; exact ⟨by (rw [HV.out]; try rfl), HF⟩)
        · by_cases g3 : 8 < (cs.length : Int)
          · go_wp2
            all_goals (go_ret; exact ⟨by (rw [HV.out]; try rfl), HF⟩)
          · go_wp2
            all_goals (go_ret; exact ⟨by (rw [HV.out]; try rfl), HF⟩)
      · obtain ⟨g1, g2, g3, g4⟩ := g
        have g1' : ¬ (cs.length : Int) < 1 := by omega
        have g2' : ¬ 8 < (cs.length : Int) := by omega
        have g3' : ¬ 4 < (xs.length : Int) := by omega
        have hu' : (cs.length : Int) % 18446744073709551616 = cs.length := by omega
        clear hu
        go_wp2
        all_goals (go_ret; exact ⟨by (rw [HV.out]; try rfl), HF⟩)
end Go.Proofs.Ytfmfmammcjpboaa
