/- Package gc: Check. -/
import Derived.Test.YtpkacnoimdjckaaChn
import Derived.Test.YtpkacnoimdjckaaLater
import Derived.Test.YtpkacnoimdjckaaTail
import Derived.Lib.Walk
import Derived.Lib.Hide
import Derived.Deep.QuietTactic
import Derived.BigQuiet
namespace Go.Proofs.Ytpkacnoimdjckaa
open Go.RowKit
open Go.Shelf
set_option linter.unusedVariables false
set_option linter.unusedSimpArgs false
@[go_sem] theorem string_geq (t : TypeId) (a b : ByteArray) : binOp .geq t (.string a) (.string b) = pure (.bool !(Op.bytesLess a.toList b.toList)) := by
  simp only [binOp, Op.stringOp]
set_option maxHeartbeats 8000000 in
set_option maxRecDepth 100000 in
theorem gcheck_any (AK AL : Option Addr) (ck cl : Nat) (ks : List ByteArray) (ls : List (List Ver)) (w : World) (HK : RowE encS 1 w AK ks) (HL : RowL w AL ls) (hk : ks.length ≤ 140737488355328) (hl : ls.length ≤ 140737488355328) :
    Calls Try.prog 17 #[.agg #[.slice AK ks.length ck, .slice AL ls.length cl]] w fun e w' => e = .returned (.int .i64 (chkC ks ls)) ∧ Below w.heap.size w w' := by
  have RK := Lib.hid HK
  have RL := Lib.hid HL
  clear HK HL
  by_cases hlen : ks.length = ls.length
  · by_cases hbig : 2048 < ks.length
    · have e : chkC ks ls = 9 := by unfold chkC; rw [if_pos (.inr hbig)]
      rw [e]
      rw [hlen]
      have a1 : (2048 : Int) < (ls.length : Int) := by omega
      clear hlen hbig
      go_enter Try.func17, Try.ntmps17
      go_wp2
      go_ret
      exact ⟨rfl, (by (repeat (first | (with_reducible exact Below.refl _ _) | apply below_alloc _ (Nat.le_refl _) | refine below_set ?_ (by first | exact Nat.le_refl _ | omega) | apply below_drewN | refine below_step ?_ HB)))⟩
    · have E9 : Hid (chkCFrom none ks ls = false → chkC ks ls = 9) := Lib.hid (fun h => by unfold chkC; rw [if_neg (by omega), h]; rfl)
      have E0 : Hid (chkCFrom none ks ls = true → chkC ks ls = 0) := Lib.hid (fun h => by unfold chkC; rw [if_neg (by omega), h]; rfl)
      have a1 : ¬ (2048 : Int) < (ls.length : Int) := by omega
      have HLEN := Lib.hid hlen
      have hle : ls.length ≤ ks.length := by omega
      rw [hlen]
      clear hlen hbig
      generalize chkC ks ls = r at *
      have hb0 : Below w.heap.size w (w.alloc (.cells #[.slice AK ls.length ck, .slice AL ls.length cl] 28)) := (by (repeat (first | (with_reducible exact Below.refl _ _) | apply below_alloc _ (Nat.le_refl _) | refine below_set ?_ (by first | exact Nat.le_refl _ | omega) | apply below_drewN | refine below_step ?_ HB)))
      have BC := Lib.hid (Box.new w #[.slice AK ls.length ck, .slice AL ls.length cl] 28)
      replace RK := Lib.hid (RK.out.below hb0)
      replace RL := Lib.hid (RL.out.below hb0)
      have HF := Lib.hid hb0
      clear hb0
      go_enter Try.func17, Try.ntmps17
      go_wp2_with fail
      generalize w.alloc (.cells #[.slice AK ls.length ck, .slice AL ls.length cl] 28) = w0 at *
      go_loopw [21] (fun i wr => ∃ j : Nat, j ≤ ls.length ∧ i = .int .i64 j ∧ Hid (Below w0.heap.size w0 wr) ∧ Hid (chkCFrom none ks ls = chkCFrom (if j = 0 then none else ks[j - 1]?) (ks.drop j) (ls.drop j))) (fun i _ => ls.length - (Lib.intOf i).toNat)
      case atStart => exact ⟨0, Nat.zero_le _, rfl, Lib.hid (Below.refl _ _), Lib.hid (by simp)⟩
      case round =>
        obtain ⟨j, hj, rfl, HB, HE⟩ := hrel
        by_cases hlt : j < ls.length
        · obtain ⟨l, hl0⟩ : ∃ l, ls[j]? = some l := ⟨_, List.getElem?_eq_getElem hlt⟩
          obtain ⟨k, hk0⟩ : ∃ k, ks[j]? = some k := ⟨_, List.getElem?_eq_getElem (by omega)⟩
          have HN : Hid (chkCFrom none ks ls = (after? (if j = 0 then none else ks[j - 1]?) k && !l.isEmpty && (chk l == 0) && chkCFrom (some k) (ks.drop (j + 1)) (ls.drop (j + 1)))) := Lib.hid (by rw [HE.out, drop_cons hk0, drop_cons hl0, chkC_cons])
          have HK2 := Lib.hid hk0
          obtain ⟨bl, ol, v, rfl, hbl, hcl, Al, c', rfl, hlc, hrl, hnl⟩ := RL.out j l hl0
          obtain ⟨bk, ok, rfl, hbk, hck⟩ := RK.out.atE hk0 HB.out
          have gk : wr.cell? ⟨bk, ok + j, none⟩ = some (.string k) := by simpa using hck 0 _ rfl
          have gl : wr.cell? ⟨bl, ol + j, none⟩ = some (.slice Al l.length c') := (HB.out.cell (p := ⟨bl, ol + j, none⟩) hbl).trans hcl
          have hvc := check_any Al c' l
          have RLr := Lib.hid (hrl.below HB.out)
          have BCr := Lib.hid (BC.out.step HB.out)
          have lbk : bk < wr.heap.size := World.block_lt_of_cell? _ _ gk
          clear hk0 hl0 hck hcl hrl
          have p0 := later_cell BCr.out.lt (BCr.out.c 0 _ rfl)
          have p1 := later_cell BCr.out.lt (BCr.out.c 1 _ rfl)
          have pk := later_cell lbk gk
          have C1 : Hid (∀ p : Later wr, Calls Try.prog 41 #[.slice Al l.length c'] p.W fun e w' => e = .returned (.int .i64 (chk l)) ∧ Below p.W.heap.size p.W w') := Lib.hid (fun p => hvc _ (RLr.out.below p.h))
          have lbl : bl < wr.heap.size := World.block_lt_of_cell? _ _ gl
          clear hvc HE
          by_cases j0 : j = 0
          · subst j0
            have HN2 : Hid (chkCFrom none ks ls = (!l.isEmpty && (chk l == 0) && chkCFrom (some k) (ks.drop (0 + 1)) (ls.drop (0 + 1)))) := Lib.hid (by rw [HN.out, if_pos rfl]; simp [after?])
            clear HN
            simp only [Nat.add_zero] at gl pk
            cases hle0 : l.isEmpty with
            | true =>
              have hl0 : l = [] := by simpa using hle0
              subst hl0
              have EE := Lib.hid (E9.out (by rw [HN2.out]; rfl))
              have HF2 := Lib.hid (below_step' HF.out HB.out)
              have hz2 := HF2.out.size
              clear C1 HN2
              go_wp2_with fail
              (refine wp_region_later (by kernel_rfl) (by kernel_rfl) ?_
               repeat (first | go_big_quiet_step (fail) | quiet_step (fail))
               refine wpQuiet_nil ?_
               intro _ hw'
               obtain ⟨qL, hw''⟩ := hw'
               subst hw''
               obtain ⟨wL, h⟩ := qL)
              go_wp2
              go_ret
              exact ⟨ret_int EE.out.symm, HF2.out.trans (h.mono hz2)⟩
            | false =>
              have hpos : 0 < l.length := by cases l with | nil => simp at hle0 | cons a b => simp
              have hl0 : ((l.length : Int) == 0) = false := by rw [beq_eq_false_iff_ne]; omega
              have HN3 : Hid (chkCFrom none ks ls = ((chk l == 0) && chkCFrom (some k) (ks.drop (0 + 1)) (ls.drop (0 + 1)))) := Lib.hid (by rw [HN2.out, hle0]; rfl)
              clear HN2 hle0
              by_cases hc0 : chk l = 0
              · rw [hc0] at C1
                have HN4 : Hid (chkCFrom none ks ls = chkCFrom (if 0 + 1 = 0 then none else ks[0 + 1 - 1]?) (ks.drop (0 + 1)) (ls.drop (0 + 1))) := Lib.hid (by rw [HN3.out, hc0, if_neg (by omega), Nat.add_sub_cancel, HK2.out]; rfl)
                clear HN3
                go_wp2_with fail
                (refine wp_region_later (by kernel_rfl) (by kernel_rfl) ?_
                 repeat (first | go_big_quiet_step ((go_at_call 41; exact later_of (C1.out _))) | quiet_step ((go_at_call 41; exact later_of (C1.out _))))
                 refine wpQuiet_nil ?_
                 intro _ hw'
                 obtain ⟨qL, hw''⟩ := hw'
                 subst hw''
                 obtain ⟨wL, h⟩ := qL)
                go_wp2
                go_roundw
                case rel => exact ⟨0 + 1, by omega, by go_num, Lib.hid (below_step' HB.out h), HN4⟩
                case measure => simp [Lib.intOf]; omega
              · have EE := Lib.hid (E9.out (by rw [HN3.out]; simp [hc0]))
                have hc0' : (chk l == 0) = false := by simpa using hc0
                generalize chk l = vc at *
                have HF2 := Lib.hid (below_step' HF.out HB.out)
                have hz2 := HF2.out.size
                clear HN3
                go_wp2_with fail
                (refine wp_region_later (by kernel_rfl) (by kernel_rfl) ?_
                 repeat (first | go_big_quiet_step ((go_at_call 41; exact later_of (C1.out _))) | quiet_step ((go_at_call 41; exact later_of (C1.out _))))
                 refine wpQuiet_nil ?_
                 intro _ hw'
                 obtain ⟨qL, hw''⟩ := hw'
                 subst hw''
                 obtain ⟨wL, h⟩ := qL)
                go_wp2
                go_ret
                exact ⟨ret_int EE.out.symm, HF2.out.trans (h.mono hz2)⟩
          · obtain ⟨q, hq⟩ : ∃ q, ks[j - 1]? = some q := ⟨_, List.getElem?_eq_getElem (by omega)⟩
            obtain ⟨bk', ok', hA', _, hck'⟩ := RK.out.atE hq HB.out
            obtain ⟨rfl, rfl⟩ : bk = bk' ∧ ok = ok' := by simpa using hA'
            have gq : wr.cell? ⟨bk, ok + (j - 1), none⟩ = some (.string q) := by simpa using hck' 0 _ rfl
            have pq := later_cell lbk gq
            have jj : ((j : Int) - 1) = ((j - 1 : Nat) : Int) := by omega
            have j1 : (0 : Int) ≤ ((j - 1 : Nat) : Int) := by omega
            have j2 : ((j - 1 : Nat) : Int) < (ls.length : Int) := by omega
            have j3 : decide ((0 : Int) < (j : Int)) = true := decide_eq_true (by omega)
            have j4 : decide (0 < j) = true := decide_eq_true (by omega)
            have HN2 : Hid (chkCFrom none ks ls = (lt? q k && (!l.isEmpty && (chk l == 0) && chkCFrom (some k) (ks.drop (j + 1)) (ls.drop (j + 1))))) := Lib.hid (by rw [HN.out, if_neg j0, hq]; simp [after?, Bool.and_assoc])
            clear HN hq hck' hA' gq
            cases hlt' : lt? q k with
            | false =>
              have hb : Op.bytesLess q.toList k.toList = false := hlt'
              have EE := Lib.hid (E9.out (by rw [HN2.out, hlt']; rfl))
              have HF2 := Lib.hid (below_step' HF.out HB.out)
              have hz2 := HF2.out.size
              clear C1 HN2 hlt'
              go_wp2_with fail
              (refine wp_region_later (by kernel_rfl) (by kernel_rfl) ?_
               repeat (first | go_big_quiet_step (fail) | quiet_step (fail))
               refine wpQuiet_nil ?_
               intro _ hw'
               obtain ⟨qL, hw''⟩ := hw'
               subst hw''
               obtain ⟨wL, h⟩ := qL)
              go_wp2
              go_ret
              exact ⟨ret_int EE.out.symm, HF2.out.trans (h.mono hz2)⟩
            | true =>
              have hb : Op.bytesLess q.toList k.toList = true := hlt'
              rw [hlt', Bool.true_and] at HN2
              clear hlt'
              cases hle0 : l.isEmpty with
              | true =>
                have hl0 : l = [] := by simpa using hle0
                subst hl0
                have EE := Lib.hid (E9.out (by rw [HN2.out]; rfl))
                have HF2 := Lib.hid (below_step' HF.out HB.out)
                have hz2 := HF2.out.size
                clear C1 HN2
                go_wp2_with fail
                (refine wp_region_later (by kernel_rfl) (by kernel_rfl) ?_
                 repeat (first | go_big_quiet_step (fail) | quiet_step (fail))
                 refine wpQuiet_nil ?_
                 intro _ hw'
                 obtain ⟨qL, hw''⟩ := hw'
                 subst hw''
                 obtain ⟨wL, h⟩ := qL)
                go_wp2
                go_ret
                exact ⟨ret_int EE.out.symm, HF2.out.trans (h.mono hz2)⟩
              | false =>
                have hpos : 0 < l.length := by cases l with | nil => simp at hle0 | cons a b => simp
                have hl0 : ((l.length : Int) == 0) = false := by rw [beq_eq_false_iff_ne]; omega
                have HN3 : Hid (chkCFrom none ks ls = ((chk l == 0) && chkCFrom (some k) (ks.drop (j + 1)) (ls.drop (j + 1)))) := Lib.hid (by rw [HN2.out, hle0]; rfl)
                clear HN2 hle0
                by_cases hc0 : chk l = 0
                · rw [hc0] at C1
                  have HN4 : Hid (chkCFrom none ks ls = chkCFrom (if j + 1 = 0 then none else ks[j + 1 - 1]?) (ks.drop (j + 1)) (ls.drop (j + 1))) := Lib.hid (by rw [HN3.out, hc0, if_neg (by omega), Nat.add_sub_cancel, HK2.out]; rfl)
                  clear HN3
                  go_wp2_with fail
                  (refine wp_region_later (by kernel_rfl) (by kernel_rfl) ?_
                   repeat (first | go_big_quiet_step ((go_at_call 41; exact later_of (C1.out _))) | quiet_step ((go_at_call 41; exact later_of (C1.out _))))
                   refine wpQuiet_nil ?_
                   intro _ hw'
                   obtain ⟨qL, hw''⟩ := hw'
                   subst hw''
                   obtain ⟨wL, h⟩ := qL)
                  go_wp2
                  go_roundw
                  case rel => exact ⟨j + 1, by omega, by go_num, Lib.hid (below_step' HB.out h), HN4⟩
                  case measure => simp [Lib.intOf]; omega
                · have EE := Lib.hid (E9.out (by rw [HN3.out]; simp [hc0]))
                  have hc0' : (chk l == 0) = false := by simpa using hc0
                  generalize chk l = vc at *
                  have HF2 := Lib.hid (below_step' HF.out HB.out)
                  have hz2 := HF2.out.size
                  clear HN3
                  go_wp2_with fail
                  (refine wp_region_later (by kernel_rfl) (by kernel_rfl) ?_
                   repeat (first | go_big_quiet_step ((go_at_call 41; exact later_of (C1.out _))) | quiet_step ((go_at_call 41; exact later_of (C1.out _))))
                   refine wpQuiet_nil ?_
                   intro _ hw'
                   obtain ⟨qL, hw''⟩ := hw'
                   subst hw''
                   obtain ⟨wL, h⟩ := qL)
                  go_wp2
                  go_ret
                  exact ⟨ret_int EE.out.symm, HF2.out.trans (h.mono hz2)⟩
        · obtain rfl : j = ls.length := by omega
          have HT : Hid (r = 0) := Lib.hid (E0.out (by rw [HE.out, List.drop_length]; cases ks.drop ls.length <;> simp [chkCFrom]))
          have HF2 := Lib.hid (below_step' HF.out HB.out)
          go_wp2
          go_ret
          exact ⟨ret_int HT.out.symm, HF2.out⟩
  · have e : chkC ks ls = 9 := by unfold chkC; rw [if_pos (.inl hlen)]
    rw [e]
    have a0 : ((ks.length : Int) == (ls.length : Int)) = false := by simp; omega
    have a2 : (ks.length == ls.length) = false := by simpa using hlen
    go_enter Try.func17, Try.ntmps17
    go_wp2
    go_ret
    exact ⟨rfl, (by (repeat (first | (with_reducible exact Below.refl _ _) | apply below_alloc _ (Nat.le_refl _) | refine below_set ?_ (by first | exact Nat.le_refl _ | omega) | apply below_drewN | refine below_step ?_ HB)))⟩
end Go.Proofs.Ytpkacnoimdjckaa
