/- The page's chains: place, Get, Range. -/
import Derived.Test.YtpkacnoimdjckaaRefV
import Derived.Test.YtpkacnoimdjckaaChkW
import Derived.Test.YtpkacnoimdjckaaGetW
namespace Go.Proofs.Ytpkacnoimdjckaa
open Go.RowKit
open Go.Shelf
set_option linter.unusedVariables false
set_option linter.unusedSimpArgs false
set_option maxHeartbeats 4000000 in
set_option maxRecDepth 100000 in
theorem rsee_any (A : Option Addr) (c : Nat) (l : List Ver) (snap tx : Int) (w : World) (HR : RowE encVer 4 w A l) (hl : l.length ≤ 140737488355328) :
    Calls Try.prog 42 #[.slice A l.length c, .int .i64 snap, .int .i64 tx] w fun e w' => e = .returned (.tuple #[.string (seeR snap tx l).1, .bool (seeR snap tx l).2.1, .int .i64 (seeR snap tx l).2.2.1, .int .i64 (seeR snap tx l).2.2.2]) ∧ Below w.heap.size w w' := by
  by_cases h0 : chk l = 0
  · have e : seeR snap tx l = (match see snap tx l with | some v => (v.val, !v.gone, v.st, 0) | none => (⟨#[]⟩, false, 0, 0)) := by unfold seeR; rw [if_pos h0]; cases see snap tx l <;> rfl
    have hc := rcheck_any A c l w HR
    rw [h0] at hc
    have E1 := Lib.hid e
    have HR' := Lib.hid HR
    clear HR e h0
    go_enter Try.func42, Try.ntmps42
    go_wp2_with (go_at_call 43; refine hc.mono ?_; rintro e w1 ⟨rfl, h1⟩)
    clear hc
    go_loopw [10] (fun i wr => ∃ j : Nat, j ≤ l.length ∧ i = .int .i64 j ∧ Hid (see snap tx l = see snap tx (l.drop j)) ∧ Below w.heap.size w wr) (fun i _ => l.length - (Lib.intOf i).toNat)
    case atStart => exact ⟨0, Nat.zero_le _, rfl, Lib.hid (by simp), h1⟩
    case round =>
      obtain ⟨j, hj, rfl, HE, hbel⟩ := hrel
      by_cases hlt : j < l.length
      · obtain ⟨x, hx⟩ : ∃ x, l[j]? = some x := ⟨_, List.getElem?_eq_getElem hlt⟩
        obtain ⟨b0, off, rfl, hb0, g0, g1, g2, g3⟩ := HR'.out.four (B := 0) hx hbel
        have DX := drop_cons hx
        have HE2 : Hid (see snap tx l = if sees snap tx x then some x else see snap tx (l.drop (j + 1))) := Lib.hid (by rw [HE.out, DX, see_cons])
        clear HE DX hx
        obtain ⟨st, tx', g, val⟩ := x
        dsimp only at g0 g1 g2 g3
        by_cases k0 : st = 0
        · subst k0
          by_cases k1 : tx' = tx
          · subst k1
            go_wp2_with fail
            go_quiet (fail)
            go_wp2
            refine bodyPost_ret (v := .tuple #[.string val, .bool !g, .int .i64 0, .int .i64 0]) (by simp [results, Try.results42, go_sem]) rfl ⟨?_, below_drewN hbel _⟩
            rw [E1.out, HE2.out]; simp [sees]
          · have k1b : (tx' == tx) = false := by simpa using k1
            go_wp2
            go_roundw
            case rel => exact ⟨j + 1, by omega, by go_num, Lib.hid (by rw [HE2.out]; simp [sees, k1b]), hbel⟩
            case measure => simp [Lib.intOf]; omega
        · have k0b : (st == 0) = false := by simpa using k0
          by_cases k2 : 0 < st
          · by_cases k3 : st ≤ snap
            · go_wp2_with fail
              go_quiet (fail)
              go_wp2
              refine bodyPost_ret (v := .tuple #[.string val, .bool !g, .int .i64 st, .int .i64 0]) (by simp [results, Try.results42, go_sem]) rfl ⟨?_, below_drewN hbel _⟩
              rw [E1.out, HE2.out]; simp [sees, k0, k2, k3]
            · go_wp2
              go_roundw
              case rel => exact ⟨j + 1, by omega, by go_num, Lib.hid (by rw [HE2.out]; simp [sees, k0, show ¬ st ≤ snap by omega]), hbel⟩
              case measure => simp [Lib.intOf]; omega
          · go_wp2
            go_roundw
            case rel => exact ⟨j + 1, by omega, by go_num, Lib.hid (by rw [HE2.out]; simp [sees, k0, show ¬ 0 < st by omega]), hbel⟩
            case measure => simp [Lib.intOf]; omega
      · obtain rfl : j = l.length := by omega
        go_wp2
        refine bodyPost_ret (v := .tuple #[.string ⟨#[]⟩, .bool false, .int .i64 0, .int .i64 0]) (by simp [results, Try.results42, go_sem]) rfl ⟨?_, hbel⟩
        rw [E1.out, HE.out, List.drop_length]; rfl
  · have h9 : chk l = 9 := (chk_or l).resolve_left h0
    have e : seeR snap tx l = (⟨#[]⟩, false, 0, 9) := by unfold seeR; rw [if_neg h0, h9]
    have hc := rcheck_any A c l w HR
    rw [e]
    rw [h9] at hc
    dsimp only
    clear e h9 h0
    go_enter Try.func42, Try.ntmps42
    go_wp2_with (go_at_call 43; refine hc.mono ?_; rintro e w1 ⟨rfl, h1⟩)
    exact bodyPost_ret (v := .tuple #[.string ⟨#[]⟩, .bool false, .int .i64 0, .int .i64 9]) (by simp [results, Try.results42, go_sem]) rfl ⟨rfl, h1⟩
set_option maxHeartbeats 8000000 in
set_option maxRecDepth 100000 in
theorem rgcheck_any (AK AL : Option Addr) (ck cl : Nat) (ks : List ByteArray) (ls : List (List Ver)) (w : World) (HK : RowE encS 1 w AK ks) (HL : RowL w AL ls) (hk : ks.length ≤ 140737488355328) (hl : ls.length ≤ 140737488355328) :
    Calls Try.prog 22 #[.agg #[.slice AK ks.length ck, .slice AL ls.length cl]] w fun e w' => e = .returned (.int .i64 (chkC ks ls)) ∧ Below w.heap.size w w' := by
  have RK := Lib.hid HK
  have RL := Lib.hid HL
  clear HK HL
  by_cases hlen : ks.length = ls.length
  · by_cases hbig : 2048 < ks.length
    · have e : chkC ks ls = 9 := by unfold chkC; rw [if_pos (.inr hbig)]
      rw [e]
      rw [hlen]
      have a1 : (2048 : Int) < (ls.length : Int) := by omega
      clear hlen hbig
      go_enter Try.func22, Try.ntmps22
      go_wp2
      go_ret
      exact ⟨rfl, (by (repeat (first | (with_reducible exact Below.refl _ _) | apply below_alloc _ (Nat.le_refl _) | refine below_set ?_ (by first | exact Nat.le_refl _ | omega) | apply below_drewN | refine below_step ?_ HB)))⟩
    · have E9 : Hid (chkCFrom none ks ls = false → chkC ks ls = 9) := Lib.hid (fun h => by unfold chkC; rw [if_neg (by omega), h]; rfl)
      have E0 : Hid (chkCFrom none ks ls = true → chkC ks ls = 0) := Lib.hid (fun h => by unfold chkC; rw [if_neg (by omega), h]; rfl)
      have a1 : ¬ (2048 : Int) < (ls.length : Int) := by omega
      have HLEN := Lib.hid hlen
      have hle : ls.length ≤ ks.length := by omega
      rw [hlen]
      clear hlen hbig
      generalize chkC ks ls = r at *
      have hb0 : Below w.heap.size w (w.alloc (.cells #[.slice AK ls.length ck, .slice AL ls.length cl] 25)) := (by (repeat (first | (with_reducible exact Below.refl _ _) | apply below_alloc _ (Nat.le_refl _) | refine below_set ?_ (by first | exact Nat.le_refl _ | omega) | apply below_drewN | refine below_step ?_ HB)))
      have BC := Lib.hid (Box.new w #[.slice AK ls.length ck, .slice AL ls.length cl] 25)
      replace RK := Lib.hid (RK.out.below hb0)
      replace RL := Lib.hid (RL.out.below hb0)
      have HF := Lib.hid hb0
      clear hb0
      go_enter Try.func22, Try.ntmps22
      go_wp2_with fail
      generalize w.alloc (.cells #[.slice AK ls.length ck, .slice AL ls.length cl] 25) = w0 at *
      go_loopw [3] (fun i wr => ∃ j : Nat, j ≤ ls.length ∧ i = .int .i64 j ∧ Hid (Below w0.heap.size w0 wr) ∧ Hid (chkCFrom none ks ls = chkCFrom (if j = 0 then none else ks[j - 1]?) (ks.drop j) (ls.drop j))) (fun i _ => ls.length - (Lib.intOf i).toNat)
      case atStart => exact ⟨0, Nat.zero_le _, rfl, Lib.hid (Below.refl _ _), Lib.hid (by simp)⟩
      case round =>
        obtain ⟨j, hj, rfl, HB, HE⟩ := hrel
        by_cases hlt : j < ls.length
        · obtain ⟨l, hl0⟩ : ∃ l, ls[j]? = some l := ⟨_, List.getElem?_eq_getElem hlt⟩
          obtain ⟨k, hk0⟩ : ∃ k, ks[j]? = some k := ⟨_, List.getElem?_eq_getElem (by omega)⟩
          have HN : Hid (chkCFrom none ks ls = (after? (if j = 0 then none else ks[j - 1]?) k && !l.isEmpty && (chk l == 0) && chkCFrom (some k) (ks.drop (j + 1)) (ls.drop (j + 1)))) := Lib.hid (by rw [HE.out, drop_cons hk0, drop_cons hl0, chkC_cons])
          have HK2 := Lib.hid hk0
          obtain ⟨bl, ol, v, rfl, hbl, hcl, Al, c', rfl, hlc, hrl, hnl⟩ := RL.out j l hl0
          obtain ⟨bk, ok, rfl, hbk, hck⟩ := RK.out.atE hk0 HB.out
          have gk : wr.cell? ⟨bk, ok + j, none⟩ = some (.string k) := by simpa using hck 0 _ rfl
          have gl : wr.cell? ⟨bl, ol + j, none⟩ = some (.slice Al l.length c') := (HB.out.cell (p := ⟨bl, ol + j, none⟩) hbl).trans hcl
          have hvc := rcheck_any Al c' l
          have RLr := Lib.hid (hrl.below HB.out)
          have BCr := Lib.hid (BC.out.step HB.out)
          have cB0 := BCr.out.c 0 _ rfl
          have cB1 := BCr.out.c 1 _ rfl
          have lbk : bk < wr.heap.size := World.block_lt_of_cell? _ _ gk
          clear hk0 hl0 hck hcl hrl
          have p0 := later_cell BCr.out.lt (BCr.out.c 0 _ rfl)
          have p1 := later_cell BCr.out.lt (BCr.out.c 1 _ rfl)
          have pk := later_cell lbk gk
          have C1 : Hid (∀ p : Later wr, Calls Try.prog 43 #[.slice Al l.length c'] p.W fun e w' => e = .returned (.int .i64 (chk l)) ∧ Below p.W.heap.size p.W w') := Lib.hid (fun p => hvc _ (RLr.out.below p.h))
          have lbl : bl < wr.heap.size := World.block_lt_of_cell? _ _ gl
          clear hvc HE
          by_cases j0 : j = 0
          · subst j0
            have HN2 : Hid (chkCFrom none ks ls = (!l.isEmpty && (chk l == 0) && chkCFrom (some k) (ks.drop (0 + 1)) (ls.drop (0 + 1)))) := Lib.hid (by rw [HN.out, if_pos rfl]; simp [after?])
            clear HN
            simp only [Nat.add_zero] at gl pk
            have pl := later_cell lbl gl
            cases hle0 : l.isEmpty with
            | true =>
              have hl0 : l = [] := by simpa using hle0
              subst hl0
              have EE := Lib.hid (E9.out (by rw [HN2.out]; rfl))
              have HF2 := Lib.hid (below_step' HF.out HB.out)
              have hz2 := HF2.out.size
              clear C1 HN2
              go_wp2_with fail
              (refine wp_region_later (by kernel_rfl) (by kernel_rfl) ?_
               repeat (first | go_big_quiet_step (fail) | quiet_step (fail))
               refine wpQuiet_nil ?_
               intro _ hw'
               obtain ⟨qL, hw''⟩ := hw'
               subst hw''
               obtain ⟨wL, h⟩ := qL)
              go_wp2
              go_ret
              exact ⟨ret_int EE.out.symm, HF2.out.trans (h.mono hz2)⟩
            | false =>
              have hpos : 0 < l.length := by cases l with | nil => simp at hle0 | cons a b => simp
              have hl0 : ((l.length : Int) == 0) = false := by rw [beq_eq_false_iff_ne]; omega
              have HN3 : Hid (chkCFrom none ks ls = ((chk l == 0) && chkCFrom (some k) (ks.drop (0 + 1)) (ls.drop (0 + 1)))) := Lib.hid (by rw [HN2.out, hle0]; rfl)
              clear HN2 hle0
              by_cases hc0 : chk l = 0
              · rw [hc0] at C1
                have HN4 : Hid (chkCFrom none ks ls = chkCFrom (if 0 + 1 = 0 then none else ks[0 + 1 - 1]?) (ks.drop (0 + 1)) (ls.drop (0 + 1))) := Lib.hid (by rw [HN3.out, hc0, if_neg (by omega), Nat.add_sub_cancel, HK2.out]; rfl)
                clear HN3
                go_wp2_with fail
                (refine wp_region_later (by kernel_rfl) (by kernel_rfl) ?_
                 repeat (first | go_big_quiet_step ((go_at_call 43; exact later_of (C1.out _))) | quiet_step ((go_at_call 43; exact later_of (C1.out _))))
                 refine wpQuiet_nil ?_
                 intro _ hw'
                 obtain ⟨qL, hw''⟩ := hw'
                 subst hw''
                 obtain ⟨wL, h⟩ := qL)
                go_wp2
                go_roundw
                case rel => exact ⟨0 + 1, by omega, by go_num, Lib.hid (below_step' HB.out h), HN4⟩
                case measure => simp [Lib.intOf]; omega
              · have EE := Lib.hid (E9.out (by rw [HN3.out]; simp [hc0]))
                have hc0' : (chk l == 0) = false := by simpa using hc0
                generalize chk l = vc at *
                have HF2 := Lib.hid (below_step' HF.out HB.out)
                have hz2 := HF2.out.size
                clear HN3
                go_wp2_with fail
                (refine wp_region_later (by kernel_rfl) (by kernel_rfl) ?_
                 repeat (first | go_big_quiet_step ((go_at_call 43; exact later_of (C1.out _))) | quiet_step ((go_at_call 43; exact later_of (C1.out _))))
                 refine wpQuiet_nil ?_
                 intro _ hw'
                 obtain ⟨qL, hw''⟩ := hw'
                 subst hw''
                 obtain ⟨wL, h⟩ := qL)
                go_wp2
                go_ret
                exact ⟨ret_int EE.out.symm, HF2.out.trans (h.mono hz2)⟩
          · obtain ⟨q, hq⟩ : ∃ q, ks[j - 1]? = some q := ⟨_, List.getElem?_eq_getElem (by omega)⟩
            obtain ⟨bk', ok', hA', _, hck'⟩ := RK.out.atE hq HB.out
            obtain ⟨rfl, rfl⟩ : bk = bk' ∧ ok = ok' := by simpa using hA'
            have gq : wr.cell? ⟨bk, ok + (j - 1), none⟩ = some (.string q) := by simpa using hck' 0 _ rfl
            have pq := later_cell lbk gq
            have pl := later_cell lbl gl
            have jj : ((j : Int) - 1) = ((j - 1 : Nat) : Int) := by omega
            have j1 : (0 : Int) ≤ ((j - 1 : Nat) : Int) := by omega
            have j2 : ((j - 1 : Nat) : Int) < (ls.length : Int) := by omega
            have j3 : decide ((0 : Int) < (j : Int)) = true := decide_eq_true (by omega)
            have j4 : decide (0 < j) = true := decide_eq_true (by omega)
            have HN2 : Hid (chkCFrom none ks ls = (lt? q k && (!l.isEmpty && (chk l == 0) && chkCFrom (some k) (ks.drop (j + 1)) (ls.drop (j + 1))))) := Lib.hid (by rw [HN.out, if_neg j0, hq]; simp [after?, Bool.and_assoc])
            clear HN hq hck' hA' gq
            cases hlt' : lt? q k with
            | false =>
              have hb : Op.bytesLess q.toList k.toList = false := hlt'
              have EE := Lib.hid (E9.out (by rw [HN2.out, hlt']; rfl))
              have HF2 := Lib.hid (below_step' HF.out HB.out)
              have hz2 := HF2.out.size
              clear C1 HN2 hlt'
              go_wp2_with fail
              (refine wp_region_later (by kernel_rfl) (by kernel_rfl) ?_
               repeat (first | go_big_quiet_step (fail) | quiet_step (fail))
               refine wpQuiet_nil ?_
               intro _ hw'
               obtain ⟨qL, hw''⟩ := hw'
               subst hw''
               obtain ⟨wL, h⟩ := qL)
              go_wp2
              go_ret
              exact ⟨ret_int EE.out.symm, HF2.out.trans (h.mono hz2)⟩
            | true =>
              have hb : Op.bytesLess q.toList k.toList = true := hlt'
              rw [hlt', Bool.true_and] at HN2
              clear hlt'
              cases hle0 : l.isEmpty with
              | true =>
                have hl0 : l = [] := by simpa using hle0
                subst hl0
                have EE := Lib.hid (E9.out (by rw [HN2.out]; rfl))
                have HF2 := Lib.hid (below_step' HF.out HB.out)
                have hz2 := HF2.out.size
                clear C1 HN2
                go_wp2_with fail
                (refine wp_region_later (by kernel_rfl) (by kernel_rfl) ?_
                 repeat (first | go_big_quiet_step (fail) | quiet_step (fail))
                 refine wpQuiet_nil ?_
                 intro _ hw'
                 obtain ⟨qL, hw''⟩ := hw'
                 subst hw''
                 obtain ⟨wL, h⟩ := qL)
                go_wp2
                go_ret
                exact ⟨ret_int EE.out.symm, HF2.out.trans (h.mono hz2)⟩
              | false =>
                have hpos : 0 < l.length := by cases l with | nil => simp at hle0 | cons a b => simp
                have hl0 : ((l.length : Int) == 0) = false := by rw [beq_eq_false_iff_ne]; omega
                have HN3 : Hid (chkCFrom none ks ls = ((chk l == 0) && chkCFrom (some k) (ks.drop (j + 1)) (ls.drop (j + 1)))) := Lib.hid (by rw [HN2.out, hle0]; rfl)
                clear HN2 hle0
                by_cases hc0 : chk l = 0
                · rw [hc0] at C1
                  have HN4 : Hid (chkCFrom none ks ls = chkCFrom (if j + 1 = 0 then none else ks[j + 1 - 1]?) (ks.drop (j + 1)) (ls.drop (j + 1))) := Lib.hid (by rw [HN3.out, hc0, if_neg (by omega), Nat.add_sub_cancel, HK2.out]; rfl)
                  clear HN3
                  go_wp2_with fail
                  (refine wp_region_later (by kernel_rfl) (by kernel_rfl) ?_
                   repeat (first | go_big_quiet_step ((go_at_call 43; exact later_of (C1.out _))) | quiet_step ((go_at_call 43; exact later_of (C1.out _))))
                   refine wpQuiet_nil ?_
                   intro _ hw'
                   obtain ⟨qL, hw''⟩ := hw'
                   subst hw''
                   obtain ⟨wL, h⟩ := qL)
                  go_wp2
                  go_roundw
                  case rel => exact ⟨j + 1, by omega, by go_num, Lib.hid (below_step' HB.out h), HN4⟩
                  case measure => simp [Lib.intOf]; omega
                · have EE := Lib.hid (E9.out (by rw [HN3.out]; simp [hc0]))
                  have hc0' : (chk l == 0) = false := by simpa using hc0
                  generalize chk l = vc at *
                  have HF2 := Lib.hid (below_step' HF.out HB.out)
                  have hz2 := HF2.out.size
                  clear HN3
                  go_wp2_with fail
                  (refine wp_region_later (by kernel_rfl) (by kernel_rfl) ?_
                   repeat (first | go_big_quiet_step ((go_at_call 43; exact later_of (C1.out _))) | quiet_step ((go_at_call 43; exact later_of (C1.out _))))
                   refine wpQuiet_nil ?_
                   intro _ hw'
                   obtain ⟨qL, hw''⟩ := hw'
                   subst hw''
                   obtain ⟨wL, h⟩ := qL)
                  go_wp2
                  go_ret
                  exact ⟨ret_int EE.out.symm, HF2.out.trans (h.mono hz2)⟩
        · obtain rfl : j = ls.length := by omega
          have HT : Hid (r = 0) := Lib.hid (E0.out (by rw [HE.out, List.drop_length]; cases ks.drop ls.length <;> simp [chkCFrom]))
          have HF2 := Lib.hid (below_step' HF.out HB.out)
          have BCr := Lib.hid (BC.out.step HB.out)
          have cB0 := BCr.out.c 0 _ rfl
          have cB1 := BCr.out.c 1 _ rfl
          go_wp2
          go_ret
          exact ⟨ret_int HT.out.symm, HF2.out⟩
  · have e : chkC ks ls = 9 := by unfold chkC; rw [if_pos (.inl hlen)]
    rw [e]
    have a0 : ((ks.length : Int) == (ls.length : Int)) = false := by simp; omega
    have a2 : (ks.length == ls.length) = false := by simpa using hlen
    go_enter Try.func22, Try.ntmps22
    go_wp2
    go_ret
    exact ⟨rfl, (by (repeat (first | (with_reducible exact Below.refl _ _) | apply below_alloc _ (Nat.le_refl _) | refine below_set ?_ (by first | exact Nat.le_refl _ | omega) | apply below_drewN | refine below_step ?_ HB)))⟩
end Go.Proofs.Ytpkacnoimdjckaa
namespace Go.Proofs.Ytpkacnoimdjckaa
open Go.RowKit
open Go.Shelf
set_option linter.unusedVariables false
set_option linter.unusedSimpArgs false
theorem place_at {ks : List ByteArray} {t : ByteArray} {i : Nat} (h1 : ∀ (k : Nat) (y : ByteArray), k < i → ks[k]? = some y → lt? y t = true) (h2 : i = ks.length ∨ ∃ y, ks[i]? = some y ∧ lt? y t = false) : place ks t = i := by
  induction ks generalizing i with
  | nil =>
    rcases h2 with h | ⟨y, h, _⟩
    · rw [h]; rfl
    · simp at h
  | cons k ks ih =>
    cases i with
    | zero =>
      rcases h2 with h | ⟨y, h, h'⟩
      · simp at h
      · simp at h; subst h; simp [place, h']
    | succ i =>
      have := h1 0 k (by omega) rfl
      simp only [place, this, if_true]
      rw [ih (i := i) (fun m y hm hy => h1 (m + 1) y (by omega) (by simpa using hy)) (by simpa using h2)]
set_option maxHeartbeats 4000000 in
set_option maxRecDepth 100000 in
theorem rplace_any (AK AL : Option Addr) (ck cl nl : Nat) (ks : List ByteArray) (key : ByteArray) (w : World) (HK : RowE encS 1 w AK ks) (hk : ks.length ≤ 140737488355328) :
    Calls Try.prog 30 #[.agg #[.slice AK ks.length ck, .slice AL nl cl], .string key] w fun e w' => e = .returned (.tuple #[.int .i64 (place ks key), .bool (atK ks key)]) ∧ Below w.heap.size w w' := by
  have hb0 : Below w.heap.size w (w.alloc (.cells #[.slice AK ks.length ck, .slice AL nl cl] 25)) := (by (repeat (first | (with_reducible exact Below.refl _ _) | apply below_alloc _ (Nat.le_refl _) | refine below_set ?_ (by first | exact Nat.le_refl _ | omega) | apply below_drewN | refine below_step ?_ HB)))
  have BC := Lib.hid (Box.new w #[.slice AK ks.length ck, .slice AL nl cl] 25)
  have RK := Lib.hid (HK.below hb0)
  have HF := Lib.hid hb0
  clear HK hb0
  go_enter Try.func30, Try.ntmps30
  go_wp2_with fail
  generalize w.alloc (.cells #[.slice AK ks.length ck, .slice AL nl cl] 25) = w0 at *
  go_loopw [6] (fun s6 wr => ∃ j : Nat, j ≤ ks.length ∧ s6 = .int .i64 j ∧ wr = w0 ∧ Hid (∀ (k : Nat) (y : ByteArray), k < j → ks[k]? = some y → lt? y key = true)) (fun s6 _ => ks.length - (Lib.intOf s6).toNat)
  case atStart => exact ⟨0, Nat.zero_le _, rfl, rfl, Lib.hid (fun k y h => absurd h (Nat.not_lt_zero _))⟩
  case round =>
    obtain ⟨j, hj, rfl, rfl, HN⟩ := hrel
    by_cases hlt : j < ks.length
    · obtain ⟨y, hy⟩ : ∃ y, ks[j]? = some y := ⟨_, List.getElem?_eq_getElem hlt⟩
      obtain ⟨bk, ok, rfl, hbk, hck⟩ := RK.out j y hy
      have gk : wr.cell? ⟨bk, ok + j, none⟩ = some (.string y) := by have := hck j y hy 0 _ rfl; simpa using this
      have hji : (j : Int) < (ks.length : Int) := by omega
      clear hck
      cases q : Op.bytesLess y.toList key.toList with
      | true =>
        have HN2 : Hid (∀ (k : Nat) (z : ByteArray), k < j + 1 → ks[k]? = some z → lt? z key = true) := Lib.hid (fun k z hk hz => by
          by_cases e : k = j
          · subst e; rw [hy] at hz; cases hz; exact q
          · exact HN.out k z (by omega) hz)
        clear HN hy
        have cBC0 := BC.out.c 0 _ rfl; have fBC0 := BC.out.f 0 (by simp); have cBC1 := BC.out.c 1 _ rfl; have fBC1 := BC.out.f 1 (by simp); have lBC := BC.out.lt
        go_wp2_with fail
        go_roundw
        case rel => exact ⟨j + 1, by omega, by go_num, trivial, HN2⟩
        case measure => simp [Lib.intOf]; omega
      | false =>
        have EP := Lib.hid (place_at HN.out (.inr ⟨y, hy, q⟩))
        have EA : Hid (atK ks key = decide (y.toList = key.toList)) := Lib.hid (by unfold atK; rw [EP.out, hy])
        clear HN hy
        have hd : (y.toList == key.toList) = decide (y.toList = key.toList) := by
          by_cases h : y.toList = key.toList <;> simp [h]
        have HD := Lib.hid hd
        clear hd
        have cBC0 := BC.out.c 0 _ rfl; have fBC0 := BC.out.f 0 (by simp); have cBC1 := BC.out.c 1 _ rfl; have fBC1 := BC.out.f 1 (by simp); have lBC := BC.out.lt
        go_wp2_with fail
        go_quiet (fail)
        go_wp2_with fail
        refine bodyPost_ret (v := .tuple #[.int .i64 j, .bool (y.toList == key.toList)]) (by simp [results, Try.results30, go_sem]) rfl ?_
        rw [EP.out, EA.out, HD.out]
        exact ⟨rfl, below_drewN HF.out _⟩
    · obtain rfl : j = ks.length := by omega
      have EP := Lib.hid (place_at HN.out (.inl rfl))
      have EA : Hid (atK ks key = false) := Lib.hid (by unfold atK; rw [EP.out, List.getElem?_eq_none (Nat.le_refl _)])
      clear HN
      have cBC0 := BC.out.c 0 _ rfl; have fBC0 := BC.out.f 0 (by simp); have cBC1 := BC.out.c 1 _ rfl; have fBC1 := BC.out.f 1 (by simp); have lBC := BC.out.lt
      go_wp2_with fail
      refine bodyPost_ret (v := .tuple #[.int .i64 ks.length, .bool false]) (by simp [results, Try.results30, go_sem]) rfl ?_
      rw [EP.out, EA.out]
      exact ⟨rfl, HF.out⟩
theorem place_low : ∀ (ks : List ByteArray) (t : ByteArray) (k : Nat) (y : ByteArray), k < place ks t → ks[k]? = some y → lt? y t = true
  | [], t, k, y, h, _ => by simp [place] at h
  | a :: ks, t, k, y, h, hy => by
    by_cases q : lt? a t = true
    · cases k with
      | zero => simp at hy; subst hy; exact q
      | succ k =>
        simp only [place, q, if_true] at h
        exact place_low ks t k y (by omega) (by simpa using hy)
    · simp [place, q] at h
theorem place_high {ks : List ByteArray} (hr : Rise ks) (t : ByteArray) (k : Nat) (y : ByteArray) (h : place ks t ≤ k) (hy : ks[k]? = some y) : lt? y t = false := by
  have hfirst : ∀ (ks : List ByteArray) (y : ByteArray), ks[place ks t]? = some y → lt? y t = false := by
    intro ks
    induction ks with
    | nil => intro y h; simp at h
    | cons a ks ih =>
      intro y h
      by_cases q : lt? a t = true
      · have e : place (a :: ks) t = place ks t + 1 := by simp [place, q]
        rw [e] at h
        exact ih y (by simpa using h)
      · have e : place (a :: ks) t = 0 := by simp [place, q]
        rw [e] at h
        obtain rfl : a = y := by simpa using h
        simpa using q
  obtain ⟨z, hz⟩ : ∃ z, ks[place ks t]? = some z := ⟨_, List.getElem?_eq_getElem (by have := lt_of_get hy; omega)⟩
  have h0 := hfirst ks z hz
  rcases Nat.lt_or_ge (place ks t) k with hlt | hge
  · have h1 := rise_get hr hz hy hlt
    cases hq : lt? y t with
    | false => rfl
    | true => rw [lt_trans' h1 hq] at h0; cases h0
  · obtain rfl : place ks t = k := by omega
    rw [hz] at hy; cases hy; exact h0
theorem getR_at {ks : List ByteArray} {ls : List (List Ver)} (hc : chkC ks ls = 0) (key : ByteArray) (snap tx : Int) :
    getR ks ls key snap tx = if atK ks key = true then seeR snap tx ((ls[place ks key]?).getD []) else (⟨#[]⟩, false, 0, 0) := by
  obtain ⟨hlen, _, hri, _⟩ := chkC_ok hc
  unfold getR
  rw [if_neg (by simp [hc])]
  by_cases hat : atK ks key = true
  · rw [if_pos hat]
    unfold atK at hat
    cases hy : ks[place ks key]? with
    | none => rw [hy] at hat; cases hat
    | some y =>
      rw [hy] at hat
      obtain ⟨l, hl⟩ : ∃ l, ls[place ks key]? = some l := ⟨_, List.getElem?_eq_getElem (by have := lt_of_get hy; omega)⟩
      rw [find_at hri hy hl (by simpa using hat), hl]; rfl
  · rw [if_neg hat, find_none hri (place_low ks key) (place_high hri key)]
    rintro ⟨y, hy, he⟩
    apply hat
    unfold atK
    rw [hy]; simpa using he
set_option maxHeartbeats 4000000 in
set_option maxRecDepth 100000 in
theorem rget_any (AK AL : Option Addr) (ck cl : Nat) (ks : List ByteArray) (ls : List (List Ver)) (key : ByteArray) (snap tx : Int) (w : World) (HK : RowE encS 1 w AK ks) (HL : RowL w AL ls) (hk : ks.length ≤ 140737488355328) (hl : ls.length ≤ 140737488355328) :
    Calls Try.prog 20 #[.agg #[.slice AK ks.length ck, .slice AL ls.length cl], .string key, .int .i64 snap, .int .i64 tx] w fun e w' => e = .returned (.tuple #[.string (getR ks ls key snap tx).1, .bool (getR ks ls key snap tx).2.1, .int .i64 (getR ks ls key snap tx).2.2.1, .int .i64 (getR ks ls key snap tx).2.2.2]) ∧ Below w.heap.size w w' := by
  have hb0 : Below w.heap.size w (w.alloc (.cells #[.slice AK ks.length ck, .slice AL ls.length cl] 25)) := (by (repeat (first | (with_reducible exact Below.refl _ _) | apply below_alloc _ (Nat.le_refl _) | refine below_set ?_ (by first | exact Nat.le_refl _ | omega) | apply below_drewN | refine below_step ?_ HB)))
  have BC := Lib.hid (Box.new w #[.slice AK ks.length ck, .slice AL ls.length cl] 25)
  have RK := Lib.hid (HK.below hb0)
  have RL := Lib.hid (HL.below hb0)
  have HF := Lib.hid hb0
  have hck := rgcheck_any AK AL ck cl ks ls _ RK.out RL.out hk hl
  have E1 : Hid (chkC ks ls = 9 → getR ks ls key snap tx = (⟨#[]⟩, false, 0, 9)) := Lib.hid (fun h => by unfold getR; rw [if_pos (by simp [h]), h])
  have E2 : Hid (chkC ks ls = 0 → getR ks ls key snap tx = if atK ks key = true then seeR snap tx ((ls[place ks key]?).getD []) else (⟨#[]⟩, false, 0, 0)) := Lib.hid (fun h => getR_at h key snap tx)
  have CK := Lib.hid (fun h => chkC_ok (ks := ks) (ls := ls) h)
  have C9 := chkC_or ks ls
  clear HK HL hb0
  generalize chkC ks ls = kc at *
  generalize getR ks ls key snap tx = g at *
  go_enter Try.func20, Try.ntmps20
  go_wp2_with fail
  refine hck.mono ?_; rintro e w1 ⟨rfl, h1⟩
  replace BC := Lib.hid (BC.out.below h1 BC.out.lt); replace RK := Lib.hid (RK.out.below h1); replace RL := Lib.hid (RL.out.below h1); replace HF := Lib.hid (below_step' HF.out h1)
  clear hck h1
  rcases C9 with rfl | rfl
  · obtain ⟨hlen, hle, hri, hls⟩ := CK.out (by trivial)
    have EE := Lib.hid (E2.out (by trivial))
    have hpl := rplace_any AK AL ck cl ls.length ks key w1 RK.out hk
    have HLEN := Lib.hid hlen
    have HLS := Lib.hid hls
    have HAT : Hid (atK ks key = true → ∃ l, ls[place ks key]? = some l) := Lib.hid (fun hat => by
      unfold atK at hat
      cases hy : ks[place ks key]? with
      | none => rw [hy] at hat; cases hat
      | some y => exact ⟨_, List.getElem?_eq_getElem (by have := lt_of_get hy; omega)⟩)
    clear E1 E2 CK hlen hri hls
    generalize place ks key = i at *
    generalize atK ks key = b at *
    have cBC0 := BC.out.c 0 _ rfl; have fBC0 := BC.out.f 0 (by simp); have cBC1 := BC.out.c 1 _ rfl; have fBC1 := BC.out.f 1 (by simp); have lBC := BC.out.lt
    go_wp2_with fail
    clear cBC0 fBC0 cBC1 fBC1 lBC
    refine hpl.mono ?_; rintro e w2 ⟨rfl, h2⟩
    replace BC := Lib.hid (BC.out.below h2 BC.out.lt); replace RK := Lib.hid (RK.out.below h2); replace RL := Lib.hid (RL.out.below h2); replace HF := Lib.hid (below_step' HF.out h2)
    clear hpl h2
    cases b with
    | true =>
      obtain ⟨l, hl0⟩ := HAT.out rfl
      have EG : Hid (g = seeR snap tx l) := Lib.hid (by rw [EE.out, hl0]; rfl)
      obtain ⟨bl, ol, v, rfl, hbl, hcl, Al, c', rfl, hlc, hrl, hnl⟩ := RL.out i l hl0
      have hse := rsee_any Al c' l snap tx w2 hrl (by have := chk_len (HLS.out l (List.mem_of_getElem? hl0)).2; omega)
      have hji : (i : Int) < (ls.length : Int) := by have := lt_of_get hl0; omega
      rw [← EG.out] at hse
      clear hl0 hrl EE HAT EG
      have cBC0 := BC.out.c 0 _ rfl; have fBC0 := BC.out.f 0 (by simp); have cBC1 := BC.out.c 1 _ rfl; have fBC1 := BC.out.f 1 (by simp); have lBC := BC.out.lt
      go_wp2_with fail
      refine hse.mono ?_; rintro e w3 ⟨rfl, h3⟩
      go_wp2
      refine bodyPost_ret (v := .tuple #[.string g.1, .bool g.2.1, .int .i64 g.2.2.1, .int .i64 g.2.2.2]) (by simp [results, Try.results20, go_sem]) rfl ⟨rfl, HF.out.trans (h3.mono HF.out.size)⟩
    | false =>
      have EG : Hid (g = (⟨#[]⟩, false, 0, 0)) := Lib.hid (by rw [EE.out]; simp)
      clear EE HAT
      go_wp2
      refine bodyPost_ret (v := .tuple #[.string ⟨#[]⟩, .bool false, .int .i64 0, .int .i64 0]) (by simp [results, Try.results20, go_sem]) rfl ?_
      rw [EG.out]
      exact ⟨rfl, HF.out⟩
  · have EE := Lib.hid (E1.out (by trivial))
    clear E1 E2 CK
    have cBC0 := BC.out.c 0 _ rfl; have fBC0 := BC.out.f 0 (by simp); have cBC1 := BC.out.c 1 _ rfl; have fBC1 := BC.out.f 1 (by simp); have lBC := BC.out.lt
    go_wp2
    refine bodyPost_ret (v := .tuple #[.string ⟨#[]⟩, .bool false, .int .i64 0, .int .i64 9]) (by simp [results, Try.results20, go_sem]) rfl ?_
    rw [EE.out]
    exact ⟨rfl, HF.out⟩
set_option maxHeartbeats 8000000 in
set_option maxRecDepth 100000 in
theorem rrange_any (AK AL : Option Addr) (ck cl : Nat) (ks : List ByteArray) (ls : List (List Ver)) (fr tt : ByteArray) (snap tx : Int) (w : World) (HK : RowE encS 1 w AK ks) (HL : RowL w AL ls) (hk : ks.length ≤ 140737488355328) (hl : ls.length ≤ 140737488355328) :
    Calls Try.prog 21 #[.agg #[.slice AK ks.length ck, .slice AL ls.length cl], .string fr, .string tt, .int .i64 snap, .int .i64 tx] w fun e w' => ∃ v, e = .returned (.tuple #[v, .int .i64 (rangeR ks ls fr tt snap tx).2]) ∧ SlB encP 2 w.heap.size w' v (rangeR ks ls fr tt snap tx).1 ∧ Below w.heap.size w w' := by
  obtain ⟨i0, hi0, hz0, hz1, hz2⟩ := infoP
  have hb0 : Below w.heap.size w (w.alloc (.cells #[.slice AK ks.length ck, .slice AL ls.length cl] 25)) := (by (repeat (first | (with_reducible exact Below.refl _ _) | apply below_alloc _ (Nat.le_refl _) | refine below_set ?_ (by first | exact Nat.le_refl _ | omega) | apply below_drewN | refine below_step ?_ HB)))
  have BC := Lib.hid (Box.new w #[.slice AK ks.length ck, .slice AL ls.length cl] 25)
  have RK := Lib.hid (HK.below hb0)
  have RL := Lib.hid (HL.below hb0)
  have HF := Lib.hid hb0
  have hck := rgcheck_any AK AL ck cl ks ls _ RK.out RL.out hk hl
  have E1 : Hid (chkC ks ls ≠ 0 → rangeR ks ls fr tt snap tx = ([], chkC ks ls)) := Lib.hid (fun h => by unfold rangeR; rw [if_pos h])
  have E2 : Hid (chkC ks ls = 0 → rangeR ks ls fr tt snap tx = (rangeL fr tt snap tx ks ls, 0)) := Lib.hid (fun h => by unfold rangeR; rw [if_neg (by simp [h])])
  have CK := Lib.hid (fun h => chkC_ok (ks := ks) (ls := ls) h)
  have C9 := chkC_or ks ls
  clear HK HL hb0
  generalize chkC ks ls = kc at *
  go_enter Try.func21, Try.ntmps21
  go_wp2_with fail
  refine hck.mono ?_; rintro e w1 ⟨rfl, h1⟩
  replace BC := Lib.hid (BC.out.below h1 BC.out.lt); replace RK := Lib.hid (RK.out.below h1); replace RL := Lib.hid (RL.out.below h1); replace HF := Lib.hid (below_step' HF.out h1)
  clear hck h1
  by_cases k0 : kc = 0
  · subst k0
    obtain ⟨hlen, hle, hri, hls⟩ := CK.out (by trivial)
    have EE := Lib.hid (E2.out (by trivial))
    have HLS := Lib.hid hls
    have HLEN := Lib.hid hlen
    have hle2 : ls.length ≤ 2048 := by omega
    clear E1 E2 CK hri hls hlen
    have cBC0 := BC.out.c 0 _ rfl; have fBC0 := BC.out.f 0 (by simp); have cBC1 := BC.out.c 1 _ rfl; have fBC1 := BC.out.f 1 (by simp); have lBC := BC.out.lt
    go_wp2_with fail
    clear cBC0 fBC0 cBC1 fBC1 lBC
    have hzl : (ks.zip ls).length ≤ 2048 := by rw [List.length_zip]; omega
    have hz2w := HF.out.size
    go_loopw [12, 13] (fun s13 s14 wr => ∃ j : Nat, j ≤ ks.length ∧ s14 = .int .i64 j ∧ Hid (Below w1.heap.size w1 wr) ∧ Hid (wr.ownsRow w1.heap.size 62 2 s13 (((ks.zip ls).take j).flatMap (tellP fr tt snap tx)).length ((((ks.zip ls).take j).flatMap (tellP fr tt snap tx)).flatMap encP))) (fun _ s14 _ => ks.length - (Lib.intOf s14).toNat)
    case atStart => exact ⟨0, Nat.zero_le _, rfl, Lib.hid (Below.refl _ _), Lib.hid (by simpa using World.ownsRow_nil _ _ _ _)⟩
    case round =>
      obtain ⟨j, hj, rfl, HB, HO⟩ := hrel
      by_cases hlt : j < ks.length
      · obtain ⟨l, hl0⟩ : ∃ l, ls[j]? = some l := ⟨_, List.getElem?_eq_getElem (by have := HLEN.out; omega)⟩
        obtain ⟨y, hk0⟩ : ∃ y, ks[j]? = some y := ⟨_, List.getElem?_eq_getElem (by omega)⟩
        obtain ⟨bl, ol, v, rfl, hbl, hcl, Al, c', rfl, hlc, hrl, hnl⟩ := RL.out j l hl0
        obtain ⟨bk, ok, rfl, hbk, hck⟩ := RK.out.atE hk0 HB.out
        have gk : wr.cell? ⟨bk, ok + j, none⟩ = some (.string y) := by simpa using hck 0 _ rfl
        have gl : wr.cell? ⟨bl, ol + j, none⟩ = some (.slice Al l.length c') := (HB.out.cell (p := ⟨bl, ol + j, none⟩) hbl).trans hcl
        have hse := rsee_any Al c' l snap tx wr (hrl.below HB.out) (by
          have := chk_len (HLS.out l (List.mem_of_getElem? hl0)).2; omega)
        have BCr := Lib.hid (BC.out.step HB.out)
        have TS := Lib.hid (tell_snoc (fr := fr) (tt := tt) (snap := snap) (tx := tx) (List.getElem?_zip_eq_some.2 ⟨hk0, hl0⟩ : (ks.zip ls)[j]? = some (y, l)))
        have TP0 : Hid (tellP fr tt snap tx (y, l) = if inSpan fr tt y = true ∧ (seeR snap tx l).2.1 = true then [(y, (seeR snap tx l).1)] else []) := Lib.hid rfl
        have HI0 : Hid (inSpan fr tt y = (!(Op.bytesLess y.toList fr.toList) && (tt.toList == [] || Op.bytesLess y.toList tt.toList))) := Lib.hid rfl
        have hji : (j : Int) < (ks.length : Int) := by omega
        have hji2 : (j : Int) < (ls.length : Int) := by have := lt_of_get hl0; omega
        have hol : (((ks.zip ls).take j).flatMap (tellP fr tt snap tx)).length ≤ 2048 := Nat.le_trans (tell_len _ _ _ _ _) (by rw [List.length_take]; omega)
        have lbk : bk < w1.heap.size := hbk
        clear hk0 hl0 hck hcl hrl
        generalize seeR snap tx l = sr at *
        obtain ⟨sv, sok, sst, ser⟩ := sr
        dsimp only at hse
        cases q1 : Op.bytesLess y.toList fr.toList with
        | true =>
          have TS2 : Hid (((ks.zip ls).take (j + 1)).flatMap (tellP fr tt snap tx) = ((ks.zip ls).take j).flatMap (tellP fr tt snap tx)) := Lib.hid (by rw [TS.out, TP0.out, HI0.out]; simp [q1])
          clear TS TP0 HI0 hse gl
          have cBCr0 := BCr.out.c 0 _ rfl; have fBCr0 := BCr.out.f 0 (by simp); have cBCr1 := BCr.out.c 1 _ rfl; have fBCr1 := BCr.out.f 1 (by simp); have lBCr := BCr.out.lt
          go_wp2_with fail
          go_roundw
          case rel => exact ⟨j + 1, by omega, by go_num, HB, by rw [TS2.out]; exact HO⟩
          case measure => simp [Lib.intOf]; omega
        | false =>
          cases ht : (tt.toList == []) with
          | true =>
            have ht' : tt.toList = [] := by simpa using ht
            have TP : Hid (tellP fr tt snap tx (y, l) = if sok = true then [(y, sv)] else []) := Lib.hid (by rw [TP0.out, HI0.out]; simp [q1, ht])
            clear TP0 HI0
            have cBCr0 := BCr.out.c 0 _ rfl; have fBCr0 := BCr.out.f 0 (by simp); have cBCr1 := BCr.out.c 1 _ rfl; have fBCr1 := BCr.out.f 1 (by simp); have lBCr := BCr.out.lt
            go_wp2_with fail
            refine hse.mono ?_; rintro e w3 ⟨rfl, h3⟩
            have HB3 := Lib.hid (below_step' HB.out h3)
            have HO3 := Lib.hid (own_below HO.out h3)
            have BC3 := Lib.hid (BCr.out.step h3)
            have gk3 : w3.cell? ⟨bk, ok + j, none⟩ = some (.string y) := (h3.cell (p := ⟨bk, ok + j, none⟩) (World.block_lt_of_cell? _ _ gk)).trans gk
            have hz3 := HB3.out.size
            clear cBCr0 fBCr0 cBCr1 fBCr1 lBCr
            clear h3 hse gl gk
            generalize ((ks.zip ls).take j).flatMap (tellP fr tt snap tx) = X at *
            cases sok with
            | false =>
              have TS2 : Hid (((ks.zip ls).take (j + 1)).flatMap (tellP fr tt snap tx) = X) := Lib.hid (by rw [TS.out, TP.out]; simp)
              clear TS TP
              go_wp2_with fail
              go_roundw
              case rel => exact ⟨j + 1, by omega, by go_num, HB3, by rw [TS2.out]; exact HO3⟩
              case measure => simp [Lib.intOf]; omega
            | true =>
              have TS2 : Hid (((ks.zip ls).take (j + 1)).flatMap (tellP fr tt snap tx) = X ++ [(y, sv)]) := Lib.hid (by rw [TS.out, TP.out]; simp)
              clear TS TP
              have hji : (j : Int) < (ks.length : Int) := by omega
              have cBC30 := BC3.out.c 0 _ rfl; have fBC30 := BC3.out.f 0 (by simp); have cBC31 := BC3.out.c 1 _ rfl; have fBC31 := BC3.out.f 1 (by simp); have lBC3 := BC3.out.lt
              go_wp2_with (at_builtin; refine wpList_append_own _ rfl _ _ 47 rfl w1.heap.size 62 i0 (.agg #[.string ⟨#[]⟩, .string ⟨#[]⟩]) 2 32 Try.underlying47 hi0 hz0 hz1 hz2 rfl (by decide) _ _ _ rfl (HO3.out.alloc _) ⟨w3.heap.size, 0, none⟩ 1 1 [.string y, .string sv] rfl rfl ?_ ?_ ?_ ?_ ?_ ?_)
              all_goals first | (intro jj u hjj; exact cell_new (by simp) hjj) | (intro u hu; simp at hu; rcases hu with rfl | rfl <;> rfl) | (unfold maxLen; omega) | omega | (simp; done) | (simp; omega) | skip
              intro v' w4 hown' hgrow hnil
              have HB4 : Hid (Below w1.heap.size w1 w4) := Lib.hid ((HB3.out.alloc hz3 (.cells #[.string y, .string sv] 62)).grown hgrow (by simp; omega) (fun q hq => (HO3.out.lt q hq).1))
              have HO4 : Hid (w4.ownsRow w1.heap.size 62 2 v' (X ++ [(y, sv)]).length ((X ++ [(y, sv)]).flatMap encP)) := Lib.hid (by rw [List.flatMap_append]; simpa [encP] using hown')
              clear hown' hgrow hnil
              go_wp2
              go_roundw
              case rel => exact ⟨j + 1, by omega, by go_num, HB4, by rw [TS2.out]; exact HO4⟩
              case measure => simp [Lib.intOf]; omega

          | false =>
            have ht' : ¬ tt.toList = [] := by simpa using ht
            cases q2 : Op.bytesLess y.toList tt.toList with
            | false =>
              have TS2 : Hid (((ks.zip ls).take (j + 1)).flatMap (tellP fr tt snap tx) = ((ks.zip ls).take j).flatMap (tellP fr tt snap tx)) := Lib.hid (by rw [TS.out, TP0.out, HI0.out]; simp [q1, ht, q2])
              clear TS TP0 HI0 hse gl
              have cBCr0 := BCr.out.c 0 _ rfl; have fBCr0 := BCr.out.f 0 (by simp); have cBCr1 := BCr.out.c 1 _ rfl; have fBCr1 := BCr.out.f 1 (by simp); have lBCr := BCr.out.lt
              go_wp2_with fail
              go_roundw
              case rel => exact ⟨j + 1, by omega, by go_num, HB, by rw [TS2.out]; exact HO⟩
              case measure => simp [Lib.intOf]; omega
            | true =>
              have TP : Hid (tellP fr tt snap tx (y, l) = if sok = true then [(y, sv)] else []) := Lib.hid (by rw [TP0.out, HI0.out]; simp [q1, ht, q2])
              clear TP0 HI0
              have cBCr0 := BCr.out.c 0 _ rfl; have fBCr0 := BCr.out.f 0 (by simp); have cBCr1 := BCr.out.c 1 _ rfl; have fBCr1 := BCr.out.f 1 (by simp); have lBCr := BCr.out.lt
              go_wp2_with fail
              refine hse.mono ?_; rintro e w3 ⟨rfl, h3⟩
              have HB3 := Lib.hid (below_step' HB.out h3)
              have HO3 := Lib.hid (own_below HO.out h3)
              have BC3 := Lib.hid (BCr.out.step h3)
              have gk3 : w3.cell? ⟨bk, ok + j, none⟩ = some (.string y) := (h3.cell (p := ⟨bk, ok + j, none⟩) (World.block_lt_of_cell? _ _ gk)).trans gk
              have hz3 := HB3.out.size
              clear cBCr0 fBCr0 cBCr1 fBCr1 lBCr
              clear h3 hse gl gk
              generalize ((ks.zip ls).take j).flatMap (tellP fr tt snap tx) = X at *
              cases sok with
              | false =>
                have TS2 : Hid (((ks.zip ls).take (j + 1)).flatMap (tellP fr tt snap tx) = X) := Lib.hid (by rw [TS.out, TP.out]; simp)
                clear TS TP
                go_wp2_with fail
                go_roundw
                case rel => exact ⟨j + 1, by omega, by go_num, HB3, by rw [TS2.out]; exact HO3⟩
                case measure => simp [Lib.intOf]; omega
              | true =>
                have TS2 : Hid (((ks.zip ls).take (j + 1)).flatMap (tellP fr tt snap tx) = X ++ [(y, sv)]) := Lib.hid (by rw [TS.out, TP.out]; simp)
                clear TS TP
                have hji : (j : Int) < (ks.length : Int) := by omega
                have cBC30 := BC3.out.c 0 _ rfl; have fBC30 := BC3.out.f 0 (by simp); have cBC31 := BC3.out.c 1 _ rfl; have fBC31 := BC3.out.f 1 (by simp); have lBC3 := BC3.out.lt
                go_wp2_with (at_builtin; refine wpList_append_own _ rfl _ _ 47 rfl w1.heap.size 62 i0 (.agg #[.string ⟨#[]⟩, .string ⟨#[]⟩]) 2 32 Try.underlying47 hi0 hz0 hz1 hz2 rfl (by decide) _ _ _ rfl (HO3.out.alloc _) ⟨w3.heap.size, 0, none⟩ 1 1 [.string y, .string sv] rfl rfl ?_ ?_ ?_ ?_ ?_ ?_)
                all_goals first | (intro jj u hjj; exact cell_new (by simp) hjj) | (intro u hu; simp at hu; rcases hu with rfl | rfl <;> rfl) | (unfold maxLen; omega) | omega | (simp; done) | (simp; omega) | skip
                intro v' w4 hown' hgrow hnil
                have HB4 : Hid (Below w1.heap.size w1 w4) := Lib.hid ((HB3.out.alloc hz3 (.cells #[.string y, .string sv] 62)).grown hgrow (by simp; omega) (fun q hq => (HO3.out.lt q hq).1))
                have HO4 : Hid (w4.ownsRow w1.heap.size 62 2 v' (X ++ [(y, sv)]).length ((X ++ [(y, sv)]).flatMap encP)) := Lib.hid (by rw [List.flatMap_append]; simpa [encP] using hown')
                clear hown' hgrow hnil
                go_wp2
                go_roundw
                case rel => exact ⟨j + 1, by omega, by go_num, HB4, by rw [TS2.out]; exact HO4⟩
                case measure => simp [Lib.intOf]; omega

      · obtain rfl : j = ks.length := by omega
        have e9 : (ks.zip ls).take ks.length = ks.zip ls := List.take_of_length_le (by rw [List.length_zip]; omega)
        rw [e9] at HO
        clear e9
        obtain ⟨A9, c9, rfl, _, _⟩ := own_slice HO.out
        have HFE := Lib.hid (HF.out.trans (HB.out.mono hz2w))
        have BCr := Lib.hid (BC.out.step HB.out)
        have cBCr0 := BCr.out.c 0 _ rfl; have fBCr0 := BCr.out.f 0 (by simp); have cBCr1 := BCr.out.c 1 _ rfl; have fBCr1 := BCr.out.f 1 (by simp); have lBCr := BCr.out.lt
        go_wp2_with fail
        go_ret2
        rw [EE.out]
        refine ⟨_, rfl, ?_, HFE.out⟩
        dsimp only
        exact SlB.of_own encP_len (by decide) hz2w HO.out
  · obtain rfl : kc = 9 := C9.resolve_left k0
    have EE := Lib.hid (E1.out k0)
    clear E1 E2 CK
    have cBC0 := BC.out.c 0 _ rfl; have fBC0 := BC.out.f 0 (by simp); have cBC1 := BC.out.c 1 _ rfl; have fBC1 := BC.out.f 1 (by simp); have lBC := BC.out.lt
    go_wp2
    go_ret2
    rw [EE.out]
    exact ⟨_, rfl, SlB.nil _, HF.out⟩
end Go.Proofs.Ytpkacnoimdjckaa
