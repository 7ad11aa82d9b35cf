/- The law LockKeys: its walk. -/
import Derived.Test.YtdiclnkkddnncaaAliveL
import Derived.Test.YtdiclnkkddnncaaRdL
import Derived.Test.YtdiclnkkddnncaaLkK
import Derived.Test.YtdiclnkkddnncaaKindK
import Derived.Test.YtdiclnkkddnncaaMayL
namespace Go.Proofs.Ytdiclnkkddnncaa
open Go.RowKit
open Go.Shelf
set_option linter.unusedVariables false
set_option linter.unusedSimpArgs false
theorem in_snoc {l : List ByteArray} {j : Nat} {x : ByteArray} (hx : l[j]? = some x) (o : ByteArray) : inK (l.take (j + 1)) o = (inK (l.take j) o || x.toList == o.toList) := by
  unfold inK; rw [List.take_add_one, hx]; simp
theorem stK_take {l : List ByteArray} {j : Nat} {x : ByteArray} (hx : l[j]? = some x) : stK (l.take (j + 1)) = (addL (stK (l.take j)) (keyL 1 x)).1 := by
  rw [List.take_add_one, hx]; exact stK_snoc _ _
set_option maxHeartbeats 8000000 in
set_option maxRecDepth 100000 in
theorem keys_law (A : Option Addr) (c : Nat) (l : List ByteArray) (o : ByteArray) (w : World) (HR : RowE encS 1 w A l) (hs : ∀ x ∈ l, x.size ≤ 140737488351232) (ho : o.size ≤ 140737488351232) :
    Calls Try.prog 6 #[.slice A l.length c, .string o] w fun e w' => e = .returned (.bool true) ∧ Below w.heap.size w w' := by
  have HR0 := Lib.hid HR
  have HS := Lib.hid hs
  clear HR hs
  go_enter Try.func6, Try.ntmps6
  go_wp2_with fail
  refine (alive_any w).mono ?_; rintro e w1 ⟨rfl, h1⟩
  have B5 := Lib.hid (Box1.new w1 (.slice none 0 0) 30)
  have HF := Lib.hid (h1.alloc h1.size (.cells #[.slice none 0 0] 30))
  have hzb : w.heap.size ≤ w1.heap.size := h1.size
  clear h1
  go_wp2_with fail
  generalize hb5 : w1.heap.size = b5 at *
  generalize w1.alloc (.cells #[.slice none 0 0] 30) = w2 at *
  clear hb5
  go_loopw [6, 7] (fun s6 s7 wr => ∃ j : Nat, j ≤ l.length ∧ j ≤ 30 ∧ s7 = .int .i64 j ∧ s6 = .bool (inK (l.take j) o) ∧ Hid (Below w.heap.size w wr) ∧ ∃ As cs, Hid (Box1 wr b5 (.slice As (stK (l.take j)).length cs)) ∧ Hid (RowE encL 3 wr As (stK (l.take j))) ∧ (As = none → cs = 0) ∧ Hid (∀ a, As = some a → b5 < a.block)) (fun _ s7 _ => l.length - (Lib.intOf s7).toNat)
  case atStart => exact ⟨0, Nat.zero_le _, Nat.zero_le _, rfl, by simp [inK], HF, none, 0, B5, Lib.hid (by simpa [stK] using RowE.nil), fun _ => rfl, Lib.hid (fun a h => by cases h)⟩
  case round =>
    obtain ⟨j, hj, hj30, rfl, rfl, HFr, As, cs, HB, HRs, hns, hAs⟩ := hrel
    clear HF B5
    obtain ⟨hck, hln, hcv⟩ := stK_ok _ (l.take j) rfl (by rw [List.length_take]; omega)
    have hln' : (stK (l.take j)).length ≤ 30 := by rw [List.length_take] at hln; omega
    by_cases hlt : j < l.length ∧ j < 30
    · obtain ⟨hlt, h30⟩ := hlt
      obtain ⟨x, hx⟩ : ∃ x, l[j]? = some x := ⟨_, List.getElem?_eq_getElem hlt⟩
      obtain ⟨b0, off, rfl, hb0, hcx⟩ := HR0.out.atE hx HFr.out
      have g0 : wr.cell? ⟨b0, off + j, none⟩ = some (.string x) := by simpa using hcx 0 _ rfl
      have hxs := HS.out x (List.mem_of_getElem? hx)
      have hlr : b0 < wr.heap.size := World.block_lt_of_cell? _ _ g0
      have HG := Lib.hid g0
      have HS1 := Lib.hid (stK_take hx)
      have HI1 := Lib.hid (in_snoc hx o)
      have hadd0 := stK_add (l := l.take j) x (by rw [List.length_take]; omega)
      clear hx hcx hcv hck hln
      generalize stK (l.take j) = r at *
      have hrd := fun (W : World) (h : RowE encL 3 W As r) => read_any As cs r 1 x W h hns (by omega) hxs
      rw [hadd0] at hrd
      generalize hr' : (addL r (keyL 1 x)).1 = r' at *
      have HR' := Lib.hid hr'
      have HRD := Lib.hid hrd
      have hlt' : j < 30 := h30
      clear hadd0 hrd hr'
      have HWn := Lib.hid ((Below.refl wr.heap.size wr).alloc (Nat.le_refl _) (.cells #[.slice none 0 0] 30))
      obtain ⟨c50, f50, l5⟩ := id HB.out
      go_wp2_with fail
      generalize hwq : wr = wq at *
      clear hwq
      go_cut [8, 9] (fun p e wx => ∃ b A6 c6, p = .pointer (some ⟨b, 0, none⟩) ∧ e = .int .i64 0 ∧ Hid (Box1 wx b (.slice A6 r'.length c6)) ∧ Hid (RowE encL 3 wx A6 r') ∧ (A6 = none → c6 = 0) ∧ Hid (∀ a, A6 = some a → wq.heap.size ≤ a.block) ∧ Hid (Below wq.heap.size wq wx))
      case first =>
        go_region_with (first
          | (go_at_call 15; (with_reducible refine (HRD.out wq.drew (RowE.drew HRs.out)).mono ?_); rintro e wn ⟨v6, rfl, hv6, h6⟩
             obtain ⟨A6, c6, rfl, hr6, hn6, hN6⟩ := hv6.outL
             have m1 := below_undrew h6
             have HR6 := Lib.hid hr6
             have M1 := Lib.hid m1
             clear hr6 hv6 h6)
          | (go_at_call 15; (with_reducible refine (HRD.out (wq.alloc (.cells #[.slice none 0 0] 30)).drew (RowE.drew (HRs.out.below HWn.out))).mono ?_); rintro e wn ⟨v6, rfl, hv6, h6⟩
             obtain ⟨A6, c6, rfl, hr6, hn6, hN6⟩ := hv6.outL
             have m2 := below_undrew h6
             have M2 := Lib.hid (below_step' HWn.out m2)
             have HR6 := Lib.hid hr6
             have BD := Lib.hid ((Box1.new wq (.slice none 0 0) 30).step m2)
             obtain ⟨x0, y0, lb⟩ := id BD.out
             clear hr6 hv6 h6))
        all_goals
          go_wp2_with fail
          go_meet
          first
            | exact ⟨_, A6, c6, rfl, rfl, Lib.hid (Box1.new _ _ _), Lib.hid (HR6.out.below ((Below.refl wn.heap.size wn).alloc (Nat.le_refl _) _)), hn6, Lib.hid (fun a h => by have := hN6 a h; simp at this; omega), Lib.hid (M1.out.alloc M1.out.size _)⟩
            | exact ⟨_, A6, c6, rfl, rfl, Lib.hid ((Box1.new wn _ _).set0 _), Lib.hid (HR6.out.below (Below.setCell ((Below.refl wn.heap.size wn).alloc (Nat.le_refl _) _) (Nat.le_refl _) _)), hn6, Lib.hid (fun a h => by have := hN6 a h; simp at this; omega), Lib.hid (Below.setCell (M1.out.alloc M1.out.size _) M1.out.size _)⟩
            | exact ⟨_, A6, c6, rfl, rfl, Lib.hid (BD.out.set0 _), Lib.hid (HR6.out.set hN6 _ _ (by simp)), hn6, Lib.hid (fun a h => by have := hN6 a h; simp at this; omega), Lib.hid (Below.setCell M2.out (Nat.le_refl _) _)⟩
      case rest =>
        obtain ⟨b8, A6, c6, rfl, rfl, HB8, HR6, hn6, hN6, HW6⟩ := hcut
        have B5 := Lib.hid (HB.out.step HW6.out)
        have HF6 := Lib.hid (below_step' HFr.out HW6.out)
        have h8 : b5 < wq.heap.size := HB.out.lt
        have HG6 := Lib.hid ((HW6.out.cell (p := ⟨b0, off + j, none⟩) hlr).trans HG.out)
        clear c50 f50 l5 HB HRs HFr HW6 HG HWn HRD g0
        have hN7 : ∀ a, A6 = some a → b5 < a.block := fun a h => by have := hN6.out a h; omega
        have HN7 := Lib.hid hN7
        have HR7 := Lib.hid (RowE.set (N := b5 + 1) HR6.out (fun a h => hN7 a h) ⟨b5, 0, none⟩ (.slice A6 r'.length c6) (by simp))
        have B7 := Lib.hid (B5.out.set0 (.slice A6 r'.length c6))
        have HF7 := Lib.hid (Below.setCell HF6.out (p := ⟨b5, 0, none⟩) (by exact hzb) (.slice A6 r'.length c6))
        have g6 := HG6.out
        have hne : b0 ≠ b5 := by omega
        obtain ⟨cB50, fB50, lB5⟩ := id B5.out; obtain ⟨cHB80, fHB80, lHB8⟩ := id HB8.out
        clear hN7
        cases hin : inK (l.take j) o with
        | true =>
          go_wp2_with ((with_reducible refine (num_any _ _).mono ?_); rintro e wn ⟨rfl, rfl⟩)
          go_roundw
          case rel =>
            exact ⟨j + 1, by omega, by omega, by go_num, by rw [HI1.out, hin]; simp, HF7, A6, c6, by rw [HS1.out]; exact B7, by rw [HS1.out]; exact HR7, hn6, HN7⟩
          case measure => simp [Lib.intOf]; omega
        | false =>
          go_wp2_with ((with_reducible refine (num_any _ _).mono ?_); rintro e wn ⟨rfl, rfl⟩)
          go_roundw
          case rel =>
            exact ⟨j + 1, by omega, by omega, by go_num, by rw [HI1.out, hin]; simp, HF7, A6, c6, by rw [HS1.out]; exact B7, by rw [HS1.out]; exact HR7, hn6, HN7⟩
          case measure => simp [Lib.intOf]; omega
    · have hx10 : ∀ i, i < j ↔ (i < l.length ∧ i < 30) := fun i => by omega
      have HX := Lib.hid hx10
      have HIN : Hid (∀ i x, i < j → l[i]? = some x → inK (l.take j) x = true) := Lib.hid (fun i x hi hx => by
        unfold inK
        rw [List.any_eq_true]
        exact ⟨x, List.mem_of_getElem? (i := i) (by rw [List.getElem?_take, if_pos hi]; exact hx), by simp⟩)
      have HCV := Lib.hid hcv
      have HCK := Lib.hid hck
      have hg : (decide ((j : Int) < (l.length : Int)) && decide ((j : Int) < 30)) = false := by
        rw [Bool.and_eq_false_iff, decide_eq_false_iff_not, decide_eq_false_iff_not]; omega
      have hor : l.length ≤ j ∨ (j < l.length ∧ 30 ≤ j) := by omega
      clear hx10 hcv hck hg
      generalize stK (l.take j) = r at *
      have HRD := Lib.hid (fun (W : World) (k : ByteArray) (h : RowE encL 3 W As r) (hk : k.size ≤ 140737488351232) => reads_any As cs r 1 k W h HCK.out hk)
      generalize hino : inK (l.take j) o = io at *
      have HINO := Lib.hid hino
      clear hino
      obtain ⟨c50, f50, l5⟩ := id HB.out
      rcases hor with hor | ⟨hor, hor2⟩
      all_goals
        go_wp2_with fail
        generalize hwq : wr = wq at *
        clear hwq c50 f50 l5
        go_loopw [10] (fun s10 wr => ∃ i : Nat, i ≤ l.length ∧ i ≤ 30 ∧ s10 = .int .i64 i ∧ Hid (Below wq.heap.size wq wr)) (fun s10 _ => l.length - (Lib.intOf s10).toNat)
        case atStart => exact ⟨0, Nat.zero_le _, Nat.zero_le _, rfl, Lib.hid (Below.refl _ _)⟩
        case round =>
          obtain ⟨i, hi, hi30, rfl, HBi⟩ := hrel
          have HBr := Lib.hid (HB.out.step HBi.out)
          have HRr := Lib.hid (HRs.out.below HBi.out)
          have HFi := Lib.hid (below_step' HFr.out HBi.out)
          by_cases hlt2 : i < l.length ∧ i < 30
          · obtain ⟨hlt2, h302⟩ := hlt2
            obtain ⟨x, hx⟩ : ∃ x, l[i]? = some x := ⟨_, List.getElem?_eq_getElem hlt2⟩
            obtain ⟨b0, off, rfl, hb0, hcx⟩ := HR0.out.atE hx HFi.out
            have g0 : wr.cell? ⟨b0, off + i, none⟩ = some (.string x) := by simpa using hcx 0 _ rfl
            have hlr : b0 < wr.heap.size := World.block_lt_of_cell? _ _ g0
            have hxs := HS.out x (List.mem_of_getElem? hx)
            have hcx2 : covT r 1 x = true := (HCV.out x).trans (HIN.out i x ((HX.out i).2 ⟨hlt2, h302⟩) hx)
            have C1 : Hid (∀ p : Later wr, Calls Try.prog 14 #[.agg #[.slice As r.length cs], .int .i64 1, .string x] p.W fun e w' => e = .returned (.bool true) ∧ Below p.W.heap.size p.W w') := Lib.hid (fun p => by
              have := HRD.out p.W x (HRr.out.below p.h) hxs
              rw [hcx2] at this
              exact this)
            clear hx hcx hcx2
            have p0 := later_cell hlr g0
            have p1 := later_cell HBr.out.lt HBr.out.c0
            go_wp2_with fail
            (refine wp_region_later (by kernel_rfl) (by kernel_rfl) ?_
             repeat (first | go_big_quiet_step ((go_at_call 14; exact later_of (C1.out _))) | quiet_step ((go_at_call 14; exact later_of (C1.out _))))
             refine wpQuiet_nil ?_
             intro _ hw'
             obtain ⟨qL, hw''⟩ := hw'
             subst hw''
             obtain ⟨wL, h⟩ := qL)
            go_wp2
            go_roundw
            case rel => exact ⟨i + 1, by omega, by omega, by go_num, Lib.hid (below_step' HBi.out h)⟩
            case measure => simp [Lib.intOf]; omega
          · have hrd := HRD.out wr o HRr.out ho
            rw [HCV.out o, HINO.out] at hrd
            obtain ⟨c50, f50, l5⟩ := id HBr.out
            have hor3 : l.length ≤ i ∨ (i < l.length ∧ 30 ≤ i) := by omega
            rcases hor3 with hor3 | ⟨hor3, hor4⟩
            all_goals (go_wp2_with fail)
            all_goals
              refine hrd.mono ?_; rintro e w9 ⟨rfl, h9⟩
              go_wp2
              go_ret
              exact ⟨ret_bool (by simp), below_step' HFi.out h9⟩
end Go.Proofs.Ytdiclnkkddnncaa
