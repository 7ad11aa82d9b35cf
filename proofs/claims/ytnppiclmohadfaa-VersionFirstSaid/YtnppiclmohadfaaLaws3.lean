/- The laws of layer 15: of two who write one key from one snapshot the second is refused. -/
import Derived.Test.YtnppiclmohadfaaWriteA
import Derived.Test.YtnppiclmohadfaaFirstPlain
namespace Go.Proofs.Ytnppiclmohadfaa
open Go.RowKit
open Go.Shelf
set_option linter.unusedVariables false
set_option linter.unusedSimpArgs false
theorem undo_new' {tx : Int} {gone : Bool} {val : ByteArray} {m : List Ver} (h : chk (⟨0, tx, gone, val⟩ :: m) = 0) : undo tx (⟨0, tx, gone, val⟩ :: m) = m := by
  unfold undo
  rw [if_pos h, if_pos (by simp [openB])]; rfl
set_option maxHeartbeats 4000000 in
set_option maxRecDepth 100000 in
theorem first_any (A : Option Addr) (c : Nat) (l : List Ver) (snap a b : Int) (val : ByteArray) (w : World) (HR : RowE encVer 4 w A l) (hl : l.length * 40 ≤ 140737488351232) :
    Calls Try.prog 5 #[.slice A l.length c, .int .i64 snap, .int .i64 a, .int .i64 b, .string val] w fun e w' => e = .returned (.bool true) ∧ Below w.heap.size w w' := by
  have HF := Below.refl w.heap.size w
  go_enter Try.func5, Try.ntmps5
  go_wp2_with fail
  refine (alive_any _).mono ?_; rintro e w1 ⟨rfl, g⟩
  replace HF := below_step' HF g
  clear g
  by_cases hab : a = b
  · subst hab
    go_wp2_with fail
    refine (alive_any _).mono ?_; rintro e w2 ⟨rfl, g⟩
    go_wp2
    go_ret
    exact ⟨rfl, below_step' HF g⟩
  · have habb : (a == b) = false := by simpa using hab
    go_wp2_with fail
    refine (of_any A c l w1 (HR.below HF) hl).mono ?_; rintro e w2 ⟨v1, rfl, s1, g⟩
    replace HF := below_step' HF g
    clear g
    obtain ⟨A1, c1, rfl, hc1, hr1, hn1⟩ := s1
    go_wp2_with fail
    refine (write_any A1 c1 l snap a false val w2 hr1 hn1 hc1).mono ?_; rintro e w3 ⟨va, rfl, s2, g⟩
    replace HF := below_step' HF g
    clear g hr1 hc1 hn1
    by_cases h0 : (write snap a false val l).2 = 0
    · have WA := fun hb m he => write_again (snap := snap) (a := a) (b := b) (val := val) (l := l) (m := m) h0 he hb
      obtain ⟨kl, ka, ⟨m, hm, j1, j2, j3⟩, ra1, ra2, hv⟩ := write_ok h0
      clear j1 j2 j3
      have hvs : ¬ (4096 : Int) < val.size := fun h => hv (.inl h)
      have WB := fun hb => WA hb m hm
      rw [h0]
      rw [hm] at s2 ka
      have un := undo_new' ka
      have CT := fun hb hs hc => commit_then (snap := snap) (a := a) (b := b) (val := val) (m := m) ka hb hvs hs hc
      have W1 := fun hb => write_range (snap := snap) (b := b) (gone := false) (val := val) ka hb
      have W2 := fun hb => write_clash (snap := snap) (b := b) (val := val) ka hb hvs (by simp [openB, hab]) (by simp [clash])
      have cm := fun (A : Option Addr) (c : Nat) (w : World) (HR : RowE encVer 4 w A (⟨0, a, false, val⟩ :: m)) => commit_any A c m a 1099511627776 false val w HR ka
      obtain ⟨x, hx⟩ : ∃ x, x = (⟨0, a, false, val⟩ :: m : List Ver) := ⟨_, rfl⟩
      rw [← hx] at s2 ka un
      simp only [← hx] at W1 W2 cm
      have KA := Lib.hid ka
      have UN := Lib.hid un
      have WBH := Lib.hid WB
      have CTH := Lib.hid CT
      have W1H := Lib.hid W1
      have W2H := Lib.hid W2
      have CMH := Lib.hid cm
      clear hm hx ka un kl h0 WA WB CT W1 W2 cm hv
      obtain ⟨A2, c2, rfl, hc2, hr2, hn2⟩ := s2
      go_wp2_with (go_at_call 9; refine (num_any _ _).mono ?_; rintro e w' ⟨rfl, rfl⟩)
      have cw := write_any A2 c2 x snap b false val w3 hr2 hn2 hc2
      by_cases hb : b < 1 ∨ 1099511627776 < b
      · rw [W1H.out hb] at cw
        refine cw.mono ?_; rintro e w4 ⟨vx, rfl, _, g⟩
        replace HF := below_step' HF g
        clear g cw WBH CTH W1H W2H CMH
        by_cases hb1 : b < 1
        · go_wp2_with (go_at_call 9; refine (num_any _ _).mono ?_; rintro e w' ⟨rfl, rfl⟩)
          go_ret
          exact ⟨rfl, HF⟩
        · have hb2 : (1099511627776 : Int) < b := by omega
          go_wp2_with (go_at_call 9; refine (num_any _ _).mono ?_; rintro e w' ⟨rfl, rfl⟩)
          go_ret
          exact ⟨rfl, HF⟩
      · rw [W2H.out hb] at cw
        refine cw.mono ?_; rintro e w4 ⟨vx, rfl, _, g4⟩
        replace HF := below_step' HF g4
        have hb1 : ¬ b < 1 := by omega
        have hb2 : ¬ (1099511627776 : Int) < b := by omega
        have WB := Lib.hid (WBH.out hb)
        have CT := Lib.hid (CTH.out hb)
        clear cw WBH CTH W1H W2H hb
        go_wp2_with (go_at_call 9; refine (num_any _ _).mono ?_; rintro e w' ⟨rfl, rfl⟩)
        have cu := undo_any A2 c2 x a w4 (hr2.below g4) hn2
        rw [KA.out, UN.out] at cu
        refine cu.mono ?_; rintro e w5 ⟨vy, rfl, s5, g5⟩
        replace HF := below_step' HF g5
        have g35 := below_step' g4 g5
        clear cu g4
        obtain ⟨A5, c5, rfl, hc5, hr5, hn5⟩ := s5
        go_wp2_with fail
        refine (write_any A5 c5 m snap b false val w5 hr5 hn5 hc5).mono ?_; rintro e w6 ⟨vh, rfl, _, g6⟩
        replace HF := below_step' HF g6
        have g36 := below_step' g35 g6
        clear g5 g35 g6 hr5 hc5 hn5
        have HH : Hid ((write snap b false val m).2 = 0 ∨ ownHead l = true) := WB
        clear WB
        generalize (write snap b false val m).2 = eh at *
        go_wp2_with fail
        refine (CMH.out A2 c2 w6 (hr2.below g36)).mono ?_; rintro e w7 ⟨vz, rfl, s7, g7⟩
        replace HF := below_step' HF g7
        clear g36 g7 CMH hr2 hc2 hn2
        have FINAL : ∀ (W : World), Below w.heap.size w W → (eh = 0 ∨ ownHead l = true) → True := fun _ _ _ => trivial
        clear FINAL
        have HOWN : Hid (ownHead l = true → ∃ st tx' gn val' k, l = ⟨st, tx', gn, val'⟩ :: k ∧ st = 0) := Lib.hid (fun h => by
          cases l with
          | nil => simp [ownHead] at h
          | cons v k => obtain ⟨st, tx', gn, val'⟩ := v; exact ⟨st, tx', gn, val', k, rfl, by simpa [ownHead] using h⟩)
        by_cases hcz : (commitR a 1099511627776 false val m).2 = 0 ∧ snap < 1099511627776
        · obtain ⟨hz, hs⟩ := hcz
          have C95 := CT.out hs hz
          rw [hz]
          obtain ⟨A7, c7, rfl, hc7, hr7, hn7⟩ := s7
          have cw := write_any A7 c7 _ snap b false val w7 hr7 hn7 hc7
          rw [C95] at cw
          have CW := Lib.hid cw
          clear cw C95 hz CT hr7 hn7 hc7
          generalize (commitR a 1099511627776 false val m).1 = z at *
          by_cases heh : eh = 0
          · subst heh
            clear HH HOWN
            go_wp2_with (first | (go_at_call 9; refine (num_any _ _).mono ?_; rintro e w' ⟨rfl, rfl⟩) | (go_at_call 12; refine CW.out.mono ?_; rintro e w8 ⟨vj, rfl, sj, g8⟩; clear sj))
            go_ret
            exact ⟨rfl, below_step' HF g8⟩
          · obtain ⟨st, tx', gn, val', k, rfl, hst⟩ := HOWN.out (HH.out.resolve_left heh)
            obtain ⟨b0, off, rfl, hb0, q0, _, _, _⟩ := HR.four (j := 0) (x := ⟨st, tx', gn, val'⟩) (B := 0) rfl HF
            simp only [Nat.zero_mul, Nat.add_zero] at q0
            subst hst
            have hehb : (eh == 0) = false := by simpa using heh
            have hlp : (0 : Int) < (k.length : Int) + 1 := by omega
            have hbw := Nat.lt_of_lt_of_le hb0 HF.size
            clear HH HOWN
            go_wp2_with (first | (go_at_call 9; refine (num_any _ _).mono ?_; rintro e w' ⟨rfl, rfl⟩) | (go_at_call 12; refine CW.out.mono ?_; rintro e w8 ⟨vj, rfl, sj, g8⟩; clear sj; have q8 := (g8.cell (p := ⟨b0, off, none⟩) hbw).trans q0))
            go_ret
            exact ⟨rfl, below_step' HF g8⟩
        · have hcz' : ¬ ((commitR a 1099511627776 false val m).2 = 0 ∧ snap < 1099511627776) := hcz
          clear CT s7
          generalize (commitR a 1099511627776 false val m).2 = ei at *
          have HC : (ei == 0) = false ∨ ¬ snap < 1099511627776 := by
            by_cases q : ei = 0
            · exact .inr (fun h => hcz ⟨q, h⟩)
            · exact .inl (by simpa using q)
          clear hcz hcz'
          by_cases heh : eh = 0
          · subst heh
            clear HH HOWN
            by_cases hei : ei = 0
            · subst hei
              have hs : ¬ snap < 1099511627776 := by rcases HC with h | h; simp at h; exact h
              clear HC
              go_wp2_with (go_at_call 9; refine (num_any _ _).mono ?_; rintro e w' ⟨rfl, rfl⟩)
              go_ret
              exact ⟨rfl, HF⟩
            · have heib : (ei == 0) = false := by simpa using hei
              clear HC
              go_wp2_with (go_at_call 9; refine (num_any _ _).mono ?_; rintro e w' ⟨rfl, rfl⟩)
              go_ret
              exact ⟨rfl, HF⟩
          · obtain ⟨st, tx', gn, val', k, rfl, hst⟩ := HOWN.out (HH.out.resolve_left heh)
            obtain ⟨b0, off, rfl, hb0, q0, _, _, _⟩ := HR.four (j := 0) (x := ⟨st, tx', gn, val'⟩) (B := 0) rfl HF
            simp only [Nat.zero_mul, Nat.add_zero] at q0
            subst hst
            have hehb : (eh == 0) = false := by simpa using heh
            have hlp : (0 : Int) < (k.length : Int) + 1 := by omega
            clear HH HOWN
            by_cases hei : ei = 0
            · subst hei
              have hs : ¬ snap < 1099511627776 := by rcases HC with h | h; simp at h; exact h
              clear HC
              go_wp2_with (go_at_call 9; refine (num_any _ _).mono ?_; rintro e w' ⟨rfl, rfl⟩)
              go_ret
              exact ⟨rfl, HF⟩
            · have heib : (ei == 0) = false := by simpa using hei
              clear HC
              go_wp2_with (go_at_call 9; refine (num_any _ _).mono ?_; rintro e w' ⟨rfl, rfl⟩)
              go_ret
              exact ⟨rfl, HF⟩
    · have e2 := write_bad h0
      rw [e2] at s2
      clear e2
      obtain ⟨A2, c2, rfl, hc2, hr2, hn2⟩ := s2
      generalize (write snap a false val l).2 = k at *
      go_wp2_with (go_at_call 9; refine (num_any _ _).mono ?_; rintro e w' ⟨rfl, rfl⟩)
      all_goals (go_ret; exact ⟨ret_bool (by simp_all), HF⟩)
end Go.Proofs.Ytnppiclmohadfaa
