/- The page's versions: Check, See, Own are the program's. -/
import Derived.Test.YtpkacnoimdjckaaOfG
import Derived.Test.YtpkacnoimdjckaaWritePlain
namespace Go.Proofs.Ytpkacnoimdjckaa
open Go.RowKit
open Go.Shelf
set_option linter.unusedVariables false
set_option linter.unusedSimpArgs false
/-- What a version must be less than. -/
def above (l : List Ver) : Nat → Int
  | 0 => 1099511627777
  | j + 1 => match l[j]? with
    | some v => if 0 < v.st then v.st else 1099511627777
    | none => 1099511627777
set_option maxHeartbeats 4000000 in
set_option maxRecDepth 100000 in
theorem rcheck_any (A : Option Addr) (c : Nat) (l : List Ver) (w : World) (HR : RowE encVer 4 w A l) :
    Calls Try.prog 43 #[.slice A l.length c] w fun e w' => e = .returned (.int .i64 (chk l)) ∧ Below w.heap.size w w' := by
  have RR := Lib.hid HR
  clear HR
  by_cases hbig : 64 < l.length
  · have e : chk l = 9 := by unfold chk; rw [if_pos hbig]
    have hb : (64 : Int) < (l.length : Int) := by omega
    rw [e]
    clear e hbig
    go_enter Try.func43, Try.ntmps43
    go_wp2_with fail
    go_ret
    exact ⟨rfl, Below.refl _ _⟩
  · have E9 : Hid (chkFrom true 1099511627777 l = false → chk l = 9) := Lib.hid (fun h => by unfold chk; rw [if_neg hbig, h]; rfl)
    have E0 : Hid (chkFrom true 1099511627777 l = true → chk l = 0) := Lib.hid (fun h => by unfold chk; rw [if_neg hbig, h]; rfl)
    have hb : ¬ (64 : Int) < (l.length : Int) := by omega
    clear hbig
    generalize chk l = r at *
    go_enter Try.func43, Try.ntmps43
    go_wp2_with fail
    go_loopw [3] (fun s3 wr => ∃ j : Nat, j ≤ l.length ∧ s3 = .int .i64 j ∧ Hid (Below w.heap.size w wr) ∧ Hid (chkFrom true 1099511627777 l = chkFrom (j == 0) (above l j) (l.drop j)) ∧ Hid (∀ v, 1 ≤ j → l[j - 1]? = some v → 0 ≤ v.st ∧ (2 ≤ j → v.st ≠ 0))) (fun s3 _ => l.length - (Lib.intOf s3).toNat)
    case atStart => exact ⟨0, Nat.zero_le _, rfl, Lib.hid (Below.refl _ _), Lib.hid rfl, Lib.hid (fun v h => absurd h (by decide))⟩
    case round =>
      obtain ⟨j, hj, rfl, HF, HC, HP⟩ := hrel
      by_cases hlt : j < l.length
      · obtain ⟨x, hx⟩ : ∃ x, l[j]? = some x := ⟨_, List.getElem?_eq_getElem hlt⟩
        have hd : l.drop j = x :: l.drop (j + 1) := by
          rw [List.drop_eq_getElem_cons hlt]; congr 1
          rw [List.getElem?_eq_getElem hlt] at hx; exact Option.some.inj hx
        obtain ⟨b0, off, rfl, hb0, g0, g1, g2, g3⟩ := RR.out.four (B := 0) hx HF.out
        have HX : Hid (chkFrom true 1099511627777 l = (vmay x && decide (x.st < above l j) && ((j == 0) || !(x.st == 0)) && chkFrom false (if 0 < x.st then x.st else above l j) (l.drop (j + 1)))) := Lib.hid (by rw [HC.out, hd, chkFrom_cons])
        have HA : Hid (above l (j + 1) = if 0 < x.st then x.st else 1099511627777) := Lib.hid (by simp [above, hx])
        have HPR : Hid (j ≠ 0 → ∃ p, l[j - 1]? = some p ∧ above l j = (if 0 < p.st then p.st else 1099511627777) ∧ (p.st = 0 → j = 1) ∧ 0 ≤ p.st) := Lib.hid (fun h0 => by
          obtain ⟨p, hp⟩ : ∃ p, l[j - 1]? = some p := ⟨_, List.getElem?_eq_getElem (by omega)⟩
          refine ⟨p, hp, ?_, fun e => ?_, (HP.out p (by omega) hp).1⟩
          · obtain ⟨k, rfl⟩ : ∃ k, j = k + 1 := ⟨j - 1, by omega⟩
            have : l[k]? = some p := by simpa using hp
            simp [above, this]
          · rcases Nat.lt_or_ge 1 j with h | h
            · exact absurd e ((HP.out p (by omega) hp).2 (by omega))
            · omega)
        have HXX := Lib.hid hx
        clear HC hx hd HP
        obtain ⟨st, tx, gn, val⟩ := x
        dsimp only at g0 g1 g2 g3
        have hji : (j : Int) < (l.length : Int) := by omega
        have HV : Hid (vmay ⟨st, tx, gn, val⟩ = (decide (0 ≤ st) && decide (st ≤ 1099511627776) && decide (1 ≤ tx) && decide (tx ≤ 1099511627776) && decide ((val.size : Int) ≤ 4096) && !(gn && !(val.toList == [])))) := Lib.hid rfl
        go_upto_region 7 with (fail)
        have BV := Lib.hid (Box.new wr #[.int .i64 st, .int .i64 tx, .bool gn, .string val] 41)
        have HB := (Below.refl _ wr).alloc (Nat.le_refl _) (.cells #[.int .i64 st, .int .i64 tx, .bool gn, .string val] 41)
        replace HF := Lib.hid (below_step' HF.out HB)
        clear HB g0 g1 g2 g3
        generalize wr.alloc (.cells #[.int .i64 st, .int .i64 tx, .bool gn, .string val] 41) = wv at *
        generalize wr.heap.size = bv at *
        clear wr
        by_cases hc1 : st < 0
        · have hf : ¬ (0 : Int) ≤ st := by omega
          have E : Hid (r = 9) := Lib.hid (E9.out (by rw [HX.out, HV.out]; simp; intros; omega))
          clear HX HV HA HPR HXX E0 E9
          have cBV0 := BV.out.c 0 _ rfl; have fBV0 := BV.out.f 0 (by simp); have cBV1 := BV.out.c 1 _ rfl; have fBV1 := BV.out.f 1 (by simp); have cBV2 := BV.out.c 2 _ rfl; have fBV2 := BV.out.f 2 (by simp); have cBV3 := BV.out.c 3 _ rfl; have fBV3 := BV.out.f 3 (by simp); have lBV := BV.out.lt
          go_wp2_with fail
          go_ret
          exact ⟨by rw [E.out]; rfl, HF.out⟩
        · skip
          by_cases hc2 : 1099511627776 < st
          · have hf : ¬ st ≤ 1099511627776 := by omega
            have E : Hid (r = 9) := Lib.hid (E9.out (by rw [HX.out, HV.out]; simp; intros; omega))
            clear HX HV HA HPR HXX E0 E9
            have cBV0 := BV.out.c 0 _ rfl; have fBV0 := BV.out.f 0 (by simp); have cBV1 := BV.out.c 1 _ rfl; have fBV1 := BV.out.f 1 (by simp); have cBV2 := BV.out.c 2 _ rfl; have fBV2 := BV.out.f 2 (by simp); have cBV3 := BV.out.c 3 _ rfl; have fBV3 := BV.out.f 3 (by simp); have lBV := BV.out.lt
            go_wp2_with fail
            go_ret
            exact ⟨by rw [E.out]; rfl, HF.out⟩
          · skip
            by_cases hc3 : tx < 1
            · have hf : ¬ (1 : Int) ≤ tx := by omega
              have E : Hid (r = 9) := Lib.hid (E9.out (by rw [HX.out, HV.out]; simp; intros; omega))
              clear HX HV HA HPR HXX E0 E9
              have cBV0 := BV.out.c 0 _ rfl; have fBV0 := BV.out.f 0 (by simp); have cBV1 := BV.out.c 1 _ rfl; have fBV1 := BV.out.f 1 (by simp); have cBV2 := BV.out.c 2 _ rfl; have fBV2 := BV.out.f 2 (by simp); have cBV3 := BV.out.c 3 _ rfl; have fBV3 := BV.out.f 3 (by simp); have lBV := BV.out.lt
              go_wp2_with fail
              go_ret
              exact ⟨by rw [E.out]; rfl, HF.out⟩
            · skip
              by_cases hc4 : 1099511627776 < tx
              · have hf : ¬ tx ≤ 1099511627776 := by omega
                have E : Hid (r = 9) := Lib.hid (E9.out (by rw [HX.out, HV.out]; simp; intros; omega))
                clear HX HV HA HPR HXX E0 E9
                have cBV0 := BV.out.c 0 _ rfl; have fBV0 := BV.out.f 0 (by simp); have cBV1 := BV.out.c 1 _ rfl; have fBV1 := BV.out.f 1 (by simp); have cBV2 := BV.out.c 2 _ rfl; have fBV2 := BV.out.f 2 (by simp); have cBV3 := BV.out.c 3 _ rfl; have fBV3 := BV.out.f 3 (by simp); have lBV := BV.out.lt
                go_wp2_with fail
                go_ret
                exact ⟨by rw [E.out]; rfl, HF.out⟩
              · skip
                have HVX : Hid ((0 : Int) ≤ st ∧ st ≤ 1099511627776 ∧ (1 : Int) ≤ tx ∧ tx ≤ 1099511627776) := Lib.hid ⟨by omega, by omega, by omega, by omega⟩
                have main : ∀ (hq : Hid ((gn && !(val.toList == [])) = false)), Hid (vmay ⟨st, tx, gn, val⟩ = decide ((val.size : Int) ≤ 4096)) := fun hq => Lib.hid (by
                  obtain ⟨a, b, c, d⟩ := HVX.out
                  rw [HV.out, hq.out]; simp [a, b, c, d])
                cases gn with
                | true =>
                  cases ht : (val.toList == []) with
                  | false =>
                    have ht' : ¬ val.toList = [] := by simpa using ht
                
                    have E : Hid (r = 9) := Lib.hid (E9.out (by rw [HX.out, HV.out]; simp [ht]))
                    clear HX HV HA HPR HXX E0 E9
                    have cBV0 := BV.out.c 0 _ rfl; have fBV0 := BV.out.f 0 (by simp); have cBV1 := BV.out.c 1 _ rfl; have fBV1 := BV.out.f 1 (by simp); have cBV2 := BV.out.c 2 _ rfl; have fBV2 := BV.out.f 2 (by simp); have cBV3 := BV.out.c 3 _ rfl; have fBV3 := BV.out.f 3 (by simp); have lBV := BV.out.lt
                    go_wp2_with fail
                    go_ret
                    exact ⟨by rw [E.out]; rfl, HF.out⟩
                  | true =>
                    have ht' : val.toList = [] := by simpa using ht
                    have HM := main (Lib.hid (by rw [ht]; rfl))
                
                    by_cases hc5 : (4096 : Int) < val.size
                    · have E : Hid (r = 9) := Lib.hid (E9.out (by rw [HX.out, HM.out]; simp; intros; omega))
                      clear HX HV HA HPR HXX E0 E9 HM main
                      have cBV0 := BV.out.c 0 _ rfl; have fBV0 := BV.out.f 0 (by simp); have cBV1 := BV.out.c 1 _ rfl; have fBV1 := BV.out.f 1 (by simp); have cBV2 := BV.out.c 2 _ rfl; have fBV2 := BV.out.f 2 (by simp); have cBV3 := BV.out.c 3 _ rfl; have fBV3 := BV.out.f 3 (by simp); have lBV := BV.out.lt
                      go_wp2_with fail
                      go_ret
                      exact ⟨by rw [E.out]; rfl, HF.out⟩
                    · skip
                      have HVM := Lib.hid (HM.out.trans (decide_eq_true (by omega)))
                      clear HV HM main
                      by_cases hj0 : j = 0
                      · have hjz : ¬ (0 : Int) < (j : Int) := by omega
                        have HN2 : Hid (chkFrom true 1099511627777 l = chkFrom ((j + 1) == 0) (above l (j + 1)) (l.drop (j + 1))) := Lib.hid (by rw [HX.out, HVM.out, HA.out, hj0, show above l 0 = 1099511627777 from rfl, decide_eq_true (by have := HVX.out.2.1; omega : st < 1099511627777)]; simp)
                        have cBV0 := BV.out.c 0 _ rfl; have fBV0 := BV.out.f 0 (by simp); have cBV1 := BV.out.c 1 _ rfl; have fBV1 := BV.out.f 1 (by simp); have cBV2 := BV.out.c 2 _ rfl; have fBV2 := BV.out.f 2 (by simp); have cBV3 := BV.out.c 3 _ rfl; have fBV3 := BV.out.f 3 (by simp); have lBV := BV.out.lt
                        go_wp2_with fail
                        go_quiet (fail)
                        clear cBV0 fBV0 cBV1 fBV1 cBV2 fBV2 cBV3 fBV3 lBV
                        go_wp2_with fail
                        go_roundw
                        case rel => exact ⟨j + 1, by omega, by go_num, Lib.hid (below_drewN HF.out _), HN2, Lib.hid (fun v _ hv => by
                          rw [Nat.add_sub_cancel, HXX.out] at hv
                          cases hv; exact ⟨HVX.out.1, fun h => by omega⟩)⟩
                        case measure => simp [Lib.intOf]; omega
                      · obtain ⟨p, hp, hpa, hpz, hpos⟩ := HPR.out hj0
                        have hjz : (0 : Int) < (j : Int) := by omega
                        have hjb : (j == 0) = false := by simpa using hj0
                        have j3 : decide ((0 : Int) < (j : Int)) = true := decide_eq_true (by omega)
                        have j4 : decide (0 < j) = true := decide_eq_true (by omega)
                        have j1 : (0 : Int) ≤ ((j - 1 : Nat) : Int) := by omega
                        have hjm : (j : Int) - 1 = ((j - 1 : Nat) : Int) := by omega
                        have hjm2 : ((j - 1 : Nat) : Int) < (l.length : Int) := by omega
                        have hjw : IntKind.i64.wrap ((j : Int) - 1) = (j : Int) - 1 := IntWalk.i64_in _ ⟨by omega, by omega⟩
                        obtain ⟨b1, off1, e1, hb1, p0, p1, p2, p3⟩ := RR.out.four (B := 0) hp HF.out
                        obtain ⟨rfl, rfl⟩ : b0 = b1 ∧ off = off1 := by simpa using e1
                        obtain ⟨pst, ptx, pg, pv⟩ := p
                        dsimp only at p0 hpa hpz hpos
                        have HPOS := Lib.hid hpos
                        have HPA := Lib.hid hpa
                        have HPZ := Lib.hid hpz
                        have HXX2 := HXX
                        clear p1 p2 p3 hpa hpz HPR e1 hp hpos
                        by_cases hs0 : st = 0
                        · have E : Hid (r = 9) := Lib.hid (E9.out (by rw [HX.out, hs0, hjb]; simp))
                          have hs1 : (st == 0) = true := by simpa using hs0
                          have cBV0 := BV.out.c 0 _ rfl; have fBV0 := BV.out.f 0 (by simp); have cBV1 := BV.out.c 1 _ rfl; have fBV1 := BV.out.f 1 (by simp); have cBV2 := BV.out.c 2 _ rfl; have fBV2 := BV.out.f 2 (by simp); have cBV3 := BV.out.c 3 _ rfl; have fBV3 := BV.out.f 3 (by simp); have lBV := BV.out.lt
                          go_wp2_with fail
                          go_quiet (fail)
                          go_wp2_with fail
                          go_ret
                          exact ⟨by rw [E.out]; rfl, below_drewN HF.out _⟩
                        · have hs1 : (st == 0) = false := by simpa using hs0
                          have HN3 : Hid (∀ v, 1 ≤ j + 1 → l[j + 1 - 1]? = some v → 0 ≤ v.st ∧ (2 ≤ j + 1 → v.st ≠ 0)) := Lib.hid (fun v _ hv => by
                            rw [Nat.add_sub_cancel, HXX.out] at hv
                            cases hv; exact ⟨HVX.out.1, fun _ => hs0⟩)
                          by_cases hp0 : pst = 0
                          · have hp1 : (pst == 0) = true := by simpa using hp0
                            have HN2 : Hid (chkFrom true 1099511627777 l = chkFrom ((j + 1) == 0) (above l (j + 1)) (l.drop (j + 1))) := Lib.hid (by rw [HX.out, HVM.out, HA.out, HPA.out, hs1, hp0]; simp; omega)
                            clear HPA HPZ HXX HXX2 HX
                            rw [hp0] at p0
                            have cBV0 := BV.out.c 0 _ rfl; have fBV0 := BV.out.f 0 (by simp); have cBV1 := BV.out.c 1 _ rfl; have fBV1 := BV.out.f 1 (by simp); have cBV2 := BV.out.c 2 _ rfl; have fBV2 := BV.out.f 2 (by simp); have cBV3 := BV.out.c 3 _ rfl; have fBV3 := BV.out.f 3 (by simp); have lBV := BV.out.lt
                            go_wp2_with fail
                            go_quiet (fail)
                            clear cBV0 fBV0 cBV1 fBV1 cBV2 fBV2 cBV3 fBV3 lBV
                            go_wp2_with fail
                            go_roundw
                            case rel => exact ⟨j + 1, by omega, by go_num, Lib.hid (below_drewN HF.out _), HN2, HN3⟩
                            case measure => simp [Lib.intOf]; omega
                          · have hp1 : (pst == 0) = false := by simpa using hp0
                            have hp2 : (pst != 0) = true := by simpa using hp0
                            have hpp : 0 < pst := by have := HPOS.out; omega
                            by_cases hge : pst ≤ st
                            · have E : Hid (r = 9) := Lib.hid (E9.out (by rw [HX.out, HPA.out, if_pos hpp]; simp; intros; omega))
                              clear HPA HPZ HXX HXX2 HX HA HN3 E0 E9
                              have cBV0 := BV.out.c 0 _ rfl; have fBV0 := BV.out.f 0 (by simp); have cBV1 := BV.out.c 1 _ rfl; have fBV1 := BV.out.f 1 (by simp); have cBV2 := BV.out.c 2 _ rfl; have fBV2 := BV.out.f 2 (by simp); have cBV3 := BV.out.c 3 _ rfl; have fBV3 := BV.out.f 3 (by simp); have lBV := BV.out.lt
                              go_wp2_with fail
                              go_quiet (fail)
                              go_wp2_with fail
                              go_ret
                              exact ⟨by rw [E.out]; rfl, below_drewN HF.out _⟩
                            · have HN2 : Hid (chkFrom true 1099511627777 l = chkFrom ((j + 1) == 0) (above l (j + 1)) (l.drop (j + 1))) := Lib.hid (by
                                have h1 : 0 < st := by have := HVX.out.1; omega
                                rw [HX.out, HVM.out, HA.out, HPA.out, hs1, if_pos hpp, if_pos h1, if_pos h1]; simp; intros; omega)
                              clear HPA HPZ HXX HXX2 HX HA E0 E9
                              have cBV0 := BV.out.c 0 _ rfl; have fBV0 := BV.out.f 0 (by simp); have cBV1 := BV.out.c 1 _ rfl; have fBV1 := BV.out.f 1 (by simp); have cBV2 := BV.out.c 2 _ rfl; have fBV2 := BV.out.f 2 (by simp); have cBV3 := BV.out.c 3 _ rfl; have fBV3 := BV.out.f 3 (by simp); have lBV := BV.out.lt
                              go_wp2_with fail
                              go_quiet (fail)
                              clear cBV0 fBV0 cBV1 fBV1 cBV2 fBV2 cBV3 fBV3 lBV
                              go_wp2_with fail
                              go_roundw
                              case rel => exact ⟨j + 1, by omega, by go_num, Lib.hid (below_drewN HF.out _), HN2, HN3⟩
                              case measure => simp [Lib.intOf]; omega
                      
                    
                | false =>
                  have HM := main (Lib.hid rfl)
                  by_cases hc5 : (4096 : Int) < val.size
                  · have E : Hid (r = 9) := Lib.hid (E9.out (by rw [HX.out, HM.out]; simp; intros; omega))
                    clear HX HV HA HPR HXX E0 E9 HM main
                    have cBV0 := BV.out.c 0 _ rfl; have fBV0 := BV.out.f 0 (by simp); have cBV1 := BV.out.c 1 _ rfl; have fBV1 := BV.out.f 1 (by simp); have cBV2 := BV.out.c 2 _ rfl; have fBV2 := BV.out.f 2 (by simp); have cBV3 := BV.out.c 3 _ rfl; have fBV3 := BV.out.f 3 (by simp); have lBV := BV.out.lt
                    go_wp2_with fail
                    go_ret
                    exact ⟨by rw [E.out]; rfl, HF.out⟩
                  · skip
                    have HVM := Lib.hid (HM.out.trans (decide_eq_true (by omega)))
                    clear HV HM main
                    by_cases hj0 : j = 0
                    · have hjz : ¬ (0 : Int) < (j : Int) := by omega
                      have HN2 : Hid (chkFrom true 1099511627777 l = chkFrom ((j + 1) == 0) (above l (j + 1)) (l.drop (j + 1))) := Lib.hid (by rw [HX.out, HVM.out, HA.out, hj0, show above l 0 = 1099511627777 from rfl, decide_eq_true (by have := HVX.out.2.1; omega : st < 1099511627777)]; simp)
                      have cBV0 := BV.out.c 0 _ rfl; have fBV0 := BV.out.f 0 (by simp); have cBV1 := BV.out.c 1 _ rfl; have fBV1 := BV.out.f 1 (by simp); have cBV2 := BV.out.c 2 _ rfl; have fBV2 := BV.out.f 2 (by simp); have cBV3 := BV.out.c 3 _ rfl; have fBV3 := BV.out.f 3 (by simp); have lBV := BV.out.lt
                      go_wp2_with fail
                      go_quiet (fail)
                      clear cBV0 fBV0 cBV1 fBV1 cBV2 fBV2 cBV3 fBV3 lBV
                      go_wp2_with fail
                      go_roundw
                      case rel => exact ⟨j + 1, by omega, by go_num, Lib.hid (below_drewN HF.out _), HN2, Lib.hid (fun v _ hv => by
                        rw [Nat.add_sub_cancel, HXX.out] at hv
                        cases hv; exact ⟨HVX.out.1, fun h => by omega⟩)⟩
                      case measure => simp [Lib.intOf]; omega
                    · obtain ⟨p, hp, hpa, hpz, hpos⟩ := HPR.out hj0
                      have hjz : (0 : Int) < (j : Int) := by omega
                      have hjb : (j == 0) = false := by simpa using hj0
                      have j3 : decide ((0 : Int) < (j : Int)) = true := decide_eq_true (by omega)
                      have j4 : decide (0 < j) = true := decide_eq_true (by omega)
                      have j1 : (0 : Int) ≤ ((j - 1 : Nat) : Int) := by omega
                      have hjm : (j : Int) - 1 = ((j - 1 : Nat) : Int) := by omega
                      have hjm2 : ((j - 1 : Nat) : Int) < (l.length : Int) := by omega
                      have hjw : IntKind.i64.wrap ((j : Int) - 1) = (j : Int) - 1 := IntWalk.i64_in _ ⟨by omega, by omega⟩
                      obtain ⟨b1, off1, e1, hb1, p0, p1, p2, p3⟩ := RR.out.four (B := 0) hp HF.out
                      obtain ⟨rfl, rfl⟩ : b0 = b1 ∧ off = off1 := by simpa using e1
                      obtain ⟨pst, ptx, pg, pv⟩ := p
                      dsimp only at p0 hpa hpz hpos
                      have HPOS := Lib.hid hpos
                      have HPA := Lib.hid hpa
                      have HPZ := Lib.hid hpz
                      have HXX2 := HXX
                      clear p1 p2 p3 hpa hpz HPR e1 hp hpos
                      by_cases hs0 : st = 0
                      · have E : Hid (r = 9) := Lib.hid (E9.out (by rw [HX.out, hs0, hjb]; simp))
                        have hs1 : (st == 0) = true := by simpa using hs0
                        have cBV0 := BV.out.c 0 _ rfl; have fBV0 := BV.out.f 0 (by simp); have cBV1 := BV.out.c 1 _ rfl; have fBV1 := BV.out.f 1 (by simp); have cBV2 := BV.out.c 2 _ rfl; have fBV2 := BV.out.f 2 (by simp); have cBV3 := BV.out.c 3 _ rfl; have fBV3 := BV.out.f 3 (by simp); have lBV := BV.out.lt
                        go_wp2_with fail
                        go_quiet (fail)
                        go_wp2_with fail
                        go_ret
                        exact ⟨by rw [E.out]; rfl, below_drewN HF.out _⟩
                      · have hs1 : (st == 0) = false := by simpa using hs0
                        have HN3 : Hid (∀ v, 1 ≤ j + 1 → l[j + 1 - 1]? = some v → 0 ≤ v.st ∧ (2 ≤ j + 1 → v.st ≠ 0)) := Lib.hid (fun v _ hv => by
                          rw [Nat.add_sub_cancel, HXX.out] at hv
                          cases hv; exact ⟨HVX.out.1, fun _ => hs0⟩)
                        by_cases hp0 : pst = 0
                        · have hp1 : (pst == 0) = true := by simpa using hp0
                          have HN2 : Hid (chkFrom true 1099511627777 l = chkFrom ((j + 1) == 0) (above l (j + 1)) (l.drop (j + 1))) := Lib.hid (by rw [HX.out, HVM.out, HA.out, HPA.out, hs1, hp0]; simp; omega)
                          clear HPA HPZ HXX HXX2 HX
                          rw [hp0] at p0
                          have cBV0 := BV.out.c 0 _ rfl; have fBV0 := BV.out.f 0 (by simp); have cBV1 := BV.out.c 1 _ rfl; have fBV1 := BV.out.f 1 (by simp); have cBV2 := BV.out.c 2 _ rfl; have fBV2 := BV.out.f 2 (by simp); have cBV3 := BV.out.c 3 _ rfl; have fBV3 := BV.out.f 3 (by simp); have lBV := BV.out.lt
                          go_wp2_with fail
                          go_quiet (fail)
                          clear cBV0 fBV0 cBV1 fBV1 cBV2 fBV2 cBV3 fBV3 lBV
                          go_wp2_with fail
                          go_roundw
                          case rel => exact ⟨j + 1, by omega, by go_num, Lib.hid (below_drewN HF.out _), HN2, HN3⟩
                          case measure => simp [Lib.intOf]; omega
                        · have hp1 : (pst == 0) = false := by simpa using hp0
                          have hp2 : (pst != 0) = true := by simpa using hp0
                          have hpp : 0 < pst := by have := HPOS.out; omega
                          by_cases hge : pst ≤ st
                          · have E : Hid (r = 9) := Lib.hid (E9.out (by rw [HX.out, HPA.out, if_pos hpp]; simp; intros; omega))
                            clear HPA HPZ HXX HXX2 HX HA HN3 E0 E9
                            have cBV0 := BV.out.c 0 _ rfl; have fBV0 := BV.out.f 0 (by simp); have cBV1 := BV.out.c 1 _ rfl; have fBV1 := BV.out.f 1 (by simp); have cBV2 := BV.out.c 2 _ rfl; have fBV2 := BV.out.f 2 (by simp); have cBV3 := BV.out.c 3 _ rfl; have fBV3 := BV.out.f 3 (by simp); have lBV := BV.out.lt
                            go_wp2_with fail
                            go_quiet (fail)
                            go_wp2_with fail
                            go_ret
                            exact ⟨by rw [E.out]; rfl, below_drewN HF.out _⟩
                          · have HN2 : Hid (chkFrom true 1099511627777 l = chkFrom ((j + 1) == 0) (above l (j + 1)) (l.drop (j + 1))) := Lib.hid (by
                              have h1 : 0 < st := by have := HVX.out.1; omega
                              rw [HX.out, HVM.out, HA.out, HPA.out, hs1, if_pos hpp, if_pos h1, if_pos h1]; simp; intros; omega)
                            clear HPA HPZ HXX HXX2 HX HA E0 E9
                            have cBV0 := BV.out.c 0 _ rfl; have fBV0 := BV.out.f 0 (by simp); have cBV1 := BV.out.c 1 _ rfl; have fBV1 := BV.out.f 1 (by simp); have cBV2 := BV.out.c 2 _ rfl; have fBV2 := BV.out.f 2 (by simp); have cBV3 := BV.out.c 3 _ rfl; have fBV3 := BV.out.f 3 (by simp); have lBV := BV.out.lt
                            go_wp2_with fail
                            go_quiet (fail)
                            clear cBV0 fBV0 cBV1 fBV1 cBV2 fBV2 cBV3 fBV3 lBV
                            go_wp2_with fail
                            go_roundw
                            case rel => exact ⟨j + 1, by omega, by go_num, Lib.hid (below_drewN HF.out _), HN2, HN3⟩
                            case measure => simp [Lib.intOf]; omega
                    
                  
      · obtain rfl : j = l.length := by omega
        have e : chkFrom true 1099511627777 l = true := by rw [HC.out, List.drop_length]; unfold chkFrom; rfl
        have E := Lib.hid (E0.out e)
        clear HC HP E0 E9 e
        go_wp2_with fail
        go_ret
        exact ⟨by rw [E.out]; rfl, HF.out⟩
end Go.Proofs.Ytpkacnoimdjckaa
