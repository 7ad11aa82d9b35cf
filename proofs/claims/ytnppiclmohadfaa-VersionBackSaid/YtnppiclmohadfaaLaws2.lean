/- The laws of layer 15: what is written and undone is as if it had not been. -/
import Derived.Test.YtnppiclmohadfaaWriteA
import Derived.Test.YtnppiclmohadfaaWritePlain
import Derived.Test.YtnppiclmohadfaaAlike
namespace Go.Proofs.Ytnppiclmohadfaa
open Go.RowKit
open Go.Shelf
set_option linter.unusedVariables false
set_option linter.unusedSimpArgs false
theorem undo_new {tx : Int} {gone : Bool} {val : ByteArray} {m : List Ver} (h : chk (⟨0, tx, gone, val⟩ :: m) = 0) : undo tx (⟨0, tx, gone, val⟩ :: m) = m := by
  unfold undo
  rw [if_pos h, if_pos (by simp [openB])]; rfl
set_option maxHeartbeats 4000000 in
set_option maxRecDepth 100000 in
theorem back_any (A : Option Addr) (c : Nat) (l : List Ver) (snap tx : Int) (gone : Bool) (val : ByteArray) (w : World) (HR : RowE encVer 4 w A l) (hl : l.length * 40 ≤ 140737488351232) (hlc : l.length ≤ c) :
    Calls Try.prog 4 #[.slice A l.length c, .int .i64 snap, .int .i64 tx, .bool gone, .string val] w fun e w' => e = .returned (.bool true) ∧ Below w.heap.size w w' := by
  have HF := Below.refl w.heap.size w
  go_enter Try.func4, Try.ntmps4
  go_wp2_with fail
  refine (alive_any _).mono ?_; rintro e w1 ⟨rfl, g⟩
  replace HF := below_step' HF g
  clear g
  go_wp2_with fail
  refine (of_any A c l w1 (HR.below HF) hl).mono ?_; rintro e w2 ⟨v1, rfl, s1, g⟩
  replace HF := below_step' HF g
  clear g
  obtain ⟨A1, c1, rfl, hc1, hr1, hn1⟩ := s1
  go_wp2_with fail
  refine (write_any A1 c1 l snap tx gone val w2 hr1 hn1 hc1).mono ?_; rintro e w3 ⟨va, rfl, s2, g⟩
  replace HF := below_step' HF g
  clear g hr1 hc1 hn1
  by_cases h0 : (write snap tx gone val l).2 = 0
  · obtain ⟨kl, ka, ⟨m, hm, hm2, hm3, hm4⟩, _⟩ := write_ok h0
    rw [h0]
    rw [hm] at s2 ka
    have un := undo_new ka
    have HM2 := Lib.hid hm2
    obtain ⟨la, hla⟩ : ∃ la, la = (⟨0, tx, gone, val⟩ :: m : List Ver) := ⟨_, rfl⟩
    rw [← hla] at s2 ka un
    have KA := Lib.hid ka
    have UN := Lib.hid un
    clear hm hm2 hm3 hm4 hla ka un kl h0
    obtain ⟨A2, c2, rfl, hc2, hr2, hn2⟩ := s2
    go_wp2_with (go_at_call 9; refine (num_any _ _).mono ?_; rintro e w' ⟨rfl, rfl⟩)
    have cu := undo_any A2 c2 la tx w3 hr2 hn2
    rw [KA.out, UN.out] at cu
    refine cu.mono ?_; rintro e w4 ⟨vb, rfl, s3, g⟩
    replace HF := below_step' HF g
    clear g cu hr2 hc2 hn2
    obtain ⟨A3, c3, rfl, hc3, hr3, hn3⟩ := s3
    cases l with
    | nil =>
      obtain rfl : m = [] := by rw [HM2.out]; simp [ownHead]
      have al := alike_same A3 A c3 c [] w4 hr3 RowE.nil (by simp)
      go_wp2_with (first | (go_at_call 9; refine (num_any _ _).mono ?_; rintro e w' ⟨rfl, rfl⟩) | (go_at_call 14; refine al.mono ?_; rintro e w5 ⟨rfl, g⟩))
      go_ret
      exact ⟨rfl, below_step' HF g⟩
    | cons x k =>
      obtain ⟨b0, off, rfl, hb0, g0, g1, g2, g3⟩ := HR.four (j := 0) (x := x) (B := 0) rfl HF
      obtain ⟨st, tx', gn, val'⟩ := x
      simp only [Nat.zero_mul, Nat.add_zero] at g0
      have hlp : (0 : Int) < (k.length : Int) + 1 := by omega
      by_cases hs : st = 0
      · obtain rfl : k = m := by rw [HM2.out]; simp [ownHead, hs]
        subst hs
        clear HM2
        have hw1 : IntKind.i64.wrap 1 = 1 := by decide
        by_cases hcc : c = 1
        · obtain rfl : k = [] := List.eq_nil_of_length_eq_zero (by simp at hlc; omega)
          subst hcc
          have al := alike_same A3 (some ⟨b0, off, none⟩) c3 0 [] w4 hr3 RowE.nil (by simp)
          go_wp2_with (first | (go_at_call 9; refine (num_any _ _).mono ?_; rintro e w' ⟨rfl, rfl⟩) | (go_at_call 14; refine al.mono ?_; rintro e w5 ⟨rfl, g⟩))
          go_ret
          exact ⟨rfl, below_step' HF g⟩
        · have HT : RowE encVer 4 w4 (some ⟨b0, off + 4, none⟩) k := fun i y hi => by
            obtain ⟨b, off', hA, hlt, hcl⟩ := (HR.below HF) 0 _ rfl
            obtain ⟨rfl, rfl⟩ : b0 = b ∧ off = off' := by simpa using hA
            exact ⟨b0, off + 4, rfl, hlt, fun i y hi j v hv => by
              have := hcl (i + 1) y (by simpa using hi) j v hv
              rw [show off + 4 + i * 4 + j = off + (i + 1) * 4 + j by omega]; exact this⟩
          have al := alike_same A3 (some ⟨b0, off + 4, none⟩) c3 (c - 1) k w4 hr3 HT (by simp at hl; omega)
          go_wp2_with (first | (go_at_call 9; refine (num_any _ _).mono ?_; rintro e w' ⟨rfl, rfl⟩) | (go_at_call 14; refine al.mono ?_; rintro e w5 ⟨rfl, g⟩))
          go_ret
          exact ⟨rfl, below_step' HF g⟩
      · have hsb : (st == 0) = false := by simpa using hs
        obtain ⟨lk, hlk⟩ : ∃ lk, lk = (⟨st, tx', gn, val'⟩ :: k : List Ver) := ⟨_, rfl⟩
        obtain rfl : lk = m := by rw [HM2.out, hlk]; simp [ownHead, hs]
        have HRk := HR.below HF
        rw [← hlk] at HRk
        have hkl : lk.length = k.length + 1 := by rw [hlk]; rfl
        have al := alike_same A3 (some ⟨b0, off, none⟩) c3 c lk w4 hr3 HRk (by simp at hl; omega)
        have AL := Lib.hid al
        clear hlk al HM2
        rw [hkl] at AL
        clear HRk
        go_wp2_with (first | (go_at_call 9; refine (num_any _ _).mono ?_; rintro e w' ⟨rfl, rfl⟩) | (go_at_call 14; refine AL.out.mono ?_; rintro e w5 ⟨rfl, g⟩))
        go_ret
        exact ⟨rfl, below_step' HF g⟩
  · have e2 := write_bad h0
    rw [e2] at s2
    clear e2
    obtain ⟨A2, c2, rfl, hc2, hr2, hn2⟩ := s2
    generalize (write snap tx gone val l).2 = k at *
    go_wp2_with (go_at_call 9; refine (num_any _ _).mono ?_; rintro e w' ⟨rfl, rfl⟩)
    all_goals (go_ret; exact ⟨ret_bool (by simp_all), HF⟩)
end Go.Proofs.Ytnppiclmohadfaa
