/- Package version: Write. -/
import Derived.Test.YtpkacnoimdjckaaWriteI0f
import Derived.Test.YtpkacnoimdjckaaWriteI0t
import Derived.Test.YtpkacnoimdjckaaWriteI1f
import Derived.Test.YtpkacnoimdjckaaWriteI1t
namespace Go.Proofs.Ytpkacnoimdjckaa
open Go.RowKit
open Go.Shelf
set_option linter.unusedVariables false
set_option linter.unusedSimpArgs false
set_option maxHeartbeats 4000000 in
set_option maxRecDepth 100000 in
theorem write_full (A : Option Addr) (c : Nat) (l : List Ver) (snap tx : Int) (gone : Bool) (val : ByteArray) (w : World) (HR : RowE encVer 4 w A l)
    (k0 : chk l = 0) (k1a : ¬ tx < 1) (k1b : ¬ (1099511627776 : Int) < tx) (k2 : ¬ ((4096 : Int) < val.size ∨ (gone = true ∧ val.toList.isEmpty = false))) (k3b : openB tx l = false) (k4b : clash snap l = false) (k5 : l.length = 64) :
    Calls Try.prog 27 #[.slice A l.length c, .int .i64 snap, .int .i64 tx, .bool gone, .string val] w fun e w' => ∃ v, e = .returned (.tuple #[v, .int .i64 (write snap tx gone val l).2]) ∧ SlV w.heap.size w' v (write snap tx gone val l).1 ∧ Below w.heap.size w w' := by
  have hc := check_any A c l w HR
  have NIL : ∀ w', SlV w.heap.size w' (.slice none 0 0) [] := fun w' => SlB.nil _
  have e : write snap tx gone val l = ([], 51) := by unfold write; rw [if_neg (by simp [k0]), if_neg (by omega), if_neg k2, if_neg (by simp [k3b]), if_neg (by simp [k4b]), if_pos k5]
  have E := Lib.hid e
  rw [k0] at hc
  clear e
  have k2a : ¬ (4096 : Int) < val.size := fun h => k2 (.inl h)
  have hop := fun (W : World) (h : Below w.heap.size w W) => open_any A c l tx W (HR.below h)
  rw [k3b] at hop
  have HOP := Lib.hid hop
  obtain ⟨x, m, rfl⟩ : ∃ x m, l = x :: m := by
    cases l with
    | nil => simp at k5
    | cons x m => exact ⟨x, m, rfl⟩
  obtain ⟨st, tx', g, val'⟩ := x
  have k6 : ¬ st = 0 ∧ st ≤ snap := by simpa [clash] using k4b
  have k6b : (st == 0) = false := by simpa using k6.1
  have k7 : ¬ snap < st := by omega
  have h64 : (m.length : Int) + 1 = 64 := by simp at k5; omega
  have hlp : (0 : Int) < (m.length : Int) + 1 := by omega
  clear hop k5
  cases gone with
  | false =>
    go_enter Try.func27, Try.ntmps27
    go_wp2_with (go_at_call 41; refine hc.mono ?_; rintro e w1 ⟨rfl, h1⟩)
    have hba := h1.alloc h1.size (.cells #[.int .i64 0, .int .i64 tx, .bool false, .string val] 45)
    refine (HOP.out _ hba).mono ?_; rintro e w2 ⟨rfl, rfl⟩
    obtain ⟨b0, off, rfl, hb0, g0, g1, g2, g3⟩ := HR.four (j := 0) (x := ⟨st, tx', g, val'⟩) (B := 0) rfl hba
    simp only [Nat.zero_mul, Nat.add_zero] at g0 g1 g2 g3
    go_wp2
    go_ret2
    rw [E.out]
    exact ⟨_, rfl, NIL _, hba⟩
  | true =>
    have k2b : val.toList.isEmpty = true := by
      cases h : val.toList.isEmpty with
      | true => rfl
      | false => exact absurd (.inr ⟨rfl, h⟩) k2
    have k2c : (!val.toList.isEmpty) = false := by rw [k2b]; rfl
    go_enter Try.func27, Try.ntmps27
    go_wp2_with (go_at_call 41; refine hc.mono ?_; rintro e w1 ⟨rfl, h1⟩)
    have hba := h1.alloc h1.size (.cells #[.int .i64 0, .int .i64 tx, .bool true, .string val] 45)
    refine (HOP.out _ hba).mono ?_; rintro e w2 ⟨rfl, rfl⟩
    obtain ⟨b0, off, rfl, hb0, g0, g1, g2, g3⟩ := HR.four (j := 0) (x := ⟨st, tx', g, val'⟩) (B := 0) rfl hba
    simp only [Nat.zero_mul, Nat.add_zero] at g0 g1 g2 g3
    go_wp2
    go_ret2
    rw [E.out]
    exact ⟨_, rfl, NIL _, hba⟩
theorem write_ins (A : Option Addr) (c : Nat) (l : List Ver) (snap tx : Int) (gone : Bool) (val : ByteArray) (w : World) (HR : RowE encVer 4 w A l) (hn : A = none → c = 0)
    (k0 : chk l = 0) (k1a : ¬ tx < 1) (k1b : ¬ (1099511627776 : Int) < tx) (k2 : ¬ ((4096 : Int) < val.size ∨ (gone = true ∧ val.toList.isEmpty = false))) (k3b : openB tx l = false) (k4b : clash snap l = false) (k5 : ¬ l.length = 64) :
    Calls Try.prog 27 #[.slice A l.length c, .int .i64 snap, .int .i64 tx, .bool gone, .string val] w fun e w' => ∃ v, e = .returned (.tuple #[v, .int .i64 (write snap tx gone val l).2]) ∧ SlV w.heap.size w' v (write snap tx gone val l).1 ∧ Below w.heap.size w w' := by
  cases gone with
  | false =>
    cases l with
    | nil => exact write_ins0f A c snap tx val w HR hn k0 k1a k1b k2 k3b k4b k5
    | cons x m => obtain ⟨st, tx', g, val'⟩ := x; exact write_ins1f A c st tx' g val' m snap tx val w HR hn k0 k1a k1b k2 k3b k4b k5
  | true =>
    cases l with
    | nil => exact write_ins0t A c snap tx val w HR hn k0 k1a k1b k2 k3b k4b k5
    | cons x m => obtain ⟨st, tx', g, val'⟩ := x; exact write_ins1t A c st tx' g val' m snap tx val w HR hn k0 k1a k1b k2 k3b k4b k5
set_option maxHeartbeats 4000000 in
set_option maxRecDepth 100000 in
theorem write_any (A : Option Addr) (c : Nat) (l : List Ver) (snap tx : Int) (gone : Bool) (val : ByteArray) (w : World) (HR : RowE encVer 4 w A l) (hn : A = none → c = 0) (hcap : l.length ≤ c) :
    Calls Try.prog 27 #[.slice A l.length c, .int .i64 snap, .int .i64 tx, .bool gone, .string val] w fun e w' => ∃ v, e = .returned (.tuple #[v, .int .i64 (write snap tx gone val l).2]) ∧ SlV w.heap.size w' v (write snap tx gone val l).1 ∧ Below w.heap.size w w' := by
  have hc := check_any A c l w HR
  have NIL : ∀ w', SlV w.heap.size w' (.slice none 0 0) [] := fun w' => SlB.nil _
  by_cases k0 : chk l = 0
  · by_cases k1 : tx < 1 ∨ 1099511627776 < tx
    · have e : write snap tx gone val l = ([], 4) := by unfold write; rw [if_neg (by simp [k0]), if_pos k1]
      rw [e]; rw [k0] at hc
      clear e
      go_enter Try.func27, Try.ntmps27
      go_wp2_with (go_at_call 41; refine hc.mono ?_; rintro e w1 ⟨rfl, h1⟩)
      all_goals (first | (exfalso; omega) | (go_ret2; exact ⟨_, rfl, NIL _, h1⟩))
    · have k1a : ¬ tx < 1 := by omega
      have k1b : ¬ (1099511627776 : Int) < tx := by omega
      by_cases k2 : (4096 : Int) < val.size ∨ (gone = true ∧ val.toList.isEmpty = false)
      · have e : write snap tx gone val l = ([], 5) := by unfold write; rw [if_neg (by simp [k0]), if_neg k1, if_pos k2]
        rw [e]; rw [k0] at hc
        clear e k1
        go_enter Try.func27, Try.ntmps27
        rcases k2 with k2 | ⟨rfl, k2⟩
        · go_wp2_with (go_at_call 41; refine hc.mono ?_; rintro e w1 ⟨rfl, h1⟩)
          go_ret2
          exact ⟨_, rfl, NIL _, h1⟩
        · have k2b : (!val.toList.isEmpty) = true := by rw [k2]; rfl
          by_cases k3 : (4096 : Int) < val.size
          · go_wp2_with (go_at_call 41; refine hc.mono ?_; rintro e w1 ⟨rfl, h1⟩)
            go_ret2
            exact ⟨_, rfl, NIL _, h1⟩
          · go_wp2_with (go_at_call 41; refine hc.mono ?_; rintro e w1 ⟨rfl, h1⟩)
            go_ret2
            exact ⟨_, rfl, NIL _, h1⟩
      · have k2a : ¬ (4096 : Int) < val.size := fun h => k2 (.inl h)
        have hlen := chk_len k0
        by_cases k3 : openB tx l = true
        · have e : write snap tx gone val l = (⟨0, tx, gone, val⟩ :: l.tail, 0) := by unfold write; rw [if_neg (by simp [k0]), if_neg k1, if_neg k2, if_pos k3]
          have E := Lib.hid e
          rw [k0] at hc
          clear e k1
          obtain ⟨x, m, rfl⟩ : ∃ x m, l = x :: m := by
            cases l with
            | nil => simp [openB] at k3
            | cons x m => exact ⟨x, m, rfl⟩
          go_enter Try.func27, Try.ntmps27
          cases gone with
          | false =>
            go_wp2_with (go_at_call 41; refine hc.mono ?_; rintro e w1 ⟨rfl, h1⟩)
            have hba := h1.alloc h1.size (.cells #[.int .i64 0, .int .i64 tx, .bool false, .string val] 45)
            refine (open_any A c (x :: m) tx _ (HR.below hba)).mono ?_; rintro e w2 ⟨rfl, rfl⟩
            rw [k3]
            go_wp2_with fail
            refine (clone_own A c (x :: m) _ (HR.below hba) hn (by omega)).mono ?_; rintro e w3 ⟨v, rfl, hown, h3⟩
            have hb3 := below_step' hba h3
            have p0 : w3.cell? ⟨w1.heap.size, 0, none⟩ = some (.int .i64 0) := (h3.cell (by simp)).trans (by go_simp)
            have p1 : w3.cell? ⟨w1.heap.size, 1, none⟩ = some (.int .i64 tx) := (h3.cell (by simp)).trans (by go_simp)
            have p2 : w3.cell? ⟨w1.heap.size, 2, none⟩ = some (.bool false) := (h3.cell (by simp)).trans (by go_simp)
            have p3 : w3.cell? ⟨w1.heap.size, 3, none⟩ = some (.string val) := (h3.cell (by simp)).trans (by go_simp)
            obtain ⟨g, cap, rfl⟩ : ∃ g cap, v = .slice (some ⟨g, 0, none⟩) (x :: m).length cap := by
              rcases hown.2 with ⟨_, h0⟩ | ⟨g, cap, cur, hv, _⟩
              · simp at h0
              · exact ⟨g, cap, hv⟩
            have c0 := hown.cellAt 0 (by rw [List.length_cons]; omega)
            have c1 := hown.cellAt 1 (by rw [List.length_cons]; omega)
            have c2 := hown.cellAt 2 (by rw [List.length_cons]; omega)
            have c3 := hown.cellAt 3 (by rw [List.length_cons]; omega)
            have f0 := hown.frozenAt 0
            have f1 := hown.frozenAt 1
            have f2 := hown.frozenAt 2
            have f3 := hown.frozenAt 3
            simp [encVer] at c0 c1 c2 c3
            have gl := (hown.lt g rfl)
            have gn : w1.heap.size ≠ g := by have := gl.1; simp at this; omega
            have hlp : (0 : Int) < ((x :: m).length : Int) := by simp
            go_wp2
            go_ret2
            rw [E.out]
            refine ⟨_, rfl, ?_, (((hb3.setCell (Nat.le_trans hba.size gl.1) _).setCell (Nat.le_trans hba.size gl.1) _).setCell (Nat.le_trans hba.size gl.1) _).setCell (Nat.le_trans hba.size gl.1) _⟩
            have st := ((((hown.stored 0 (.int .i64 0)).1.stored 1 (.int .i64 tx)).1.stored 2 (.bool false)).1.stored 3 (.string val)).1
            exact (SlV.of_own (l := ⟨0, tx, false, val⟩ :: m) st).mono hba.size
          | true =>
            have k2b : val.toList.isEmpty = true := by
              cases h : val.toList.isEmpty with
              | true => rfl
              | false => exact absurd (.inr ⟨rfl, h⟩) k2
            have k2c : (!val.toList.isEmpty) = false := by rw [k2b]; rfl
            go_wp2_with (go_at_call 41; refine hc.mono ?_; rintro e w1 ⟨rfl, h1⟩)
            have hba := h1.alloc h1.size (.cells #[.int .i64 0, .int .i64 tx, .bool true, .string val] 45)
            refine (open_any A c (x :: m) tx _ (HR.below hba)).mono ?_; rintro e w2 ⟨rfl, rfl⟩
            rw [k3]
            go_wp2_with fail
            refine (clone_own A c (x :: m) _ (HR.below hba) hn (by omega)).mono ?_; rintro e w3 ⟨v, rfl, hown, h3⟩
            have hb3 := below_step' hba h3
            have p0 : w3.cell? ⟨w1.heap.size, 0, none⟩ = some (.int .i64 0) := (h3.cell (by simp)).trans (by go_simp)
            have p1 : w3.cell? ⟨w1.heap.size, 1, none⟩ = some (.int .i64 tx) := (h3.cell (by simp)).trans (by go_simp)
            have p2 : w3.cell? ⟨w1.heap.size, 2, none⟩ = some (.bool true) := (h3.cell (by simp)).trans (by go_simp)
            have p3 : w3.cell? ⟨w1.heap.size, 3, none⟩ = some (.string val) := (h3.cell (by simp)).trans (by go_simp)
            obtain ⟨g, cap, rfl⟩ : ∃ g cap, v = .slice (some ⟨g, 0, none⟩) (x :: m).length cap := by
              rcases hown.2 with ⟨_, h0⟩ | ⟨g, cap, cur, hv, _⟩
              · simp at h0
              · exact ⟨g, cap, hv⟩
            have c0 := hown.cellAt 0 (by rw [List.length_cons]; omega)
            have c1 := hown.cellAt 1 (by rw [List.length_cons]; omega)
            have c2 := hown.cellAt 2 (by rw [List.length_cons]; omega)
            have c3 := hown.cellAt 3 (by rw [List.length_cons]; omega)
            have f0 := hown.frozenAt 0
            have f1 := hown.frozenAt 1
            have f2 := hown.frozenAt 2
            have f3 := hown.frozenAt 3
            simp [encVer] at c0 c1 c2 c3
            have gl := (hown.lt g rfl)
            have gn : w1.heap.size ≠ g := by have := gl.1; simp at this; omega
            have hlp : (0 : Int) < ((x :: m).length : Int) := by simp
            go_wp2
            go_ret2
            rw [E.out]
            refine ⟨_, rfl, ?_, (((hb3.setCell (Nat.le_trans hba.size gl.1) _).setCell (Nat.le_trans hba.size gl.1) _).setCell (Nat.le_trans hba.size gl.1) _).setCell (Nat.le_trans hba.size gl.1) _⟩
            have st := ((((hown.stored 0 (.int .i64 0)).1.stored 1 (.int .i64 tx)).1.stored 2 (.bool true)).1.stored 3 (.string val)).1
            exact (SlV.of_own (l := ⟨0, tx, true, val⟩ :: m) st).mono hba.size
        · have k3b : openB tx l = false := by simpa using k3
          by_cases k4 : clash snap l = true
          · have e : write snap tx gone val l = ([], 95) := by unfold write; rw [if_neg (by simp [k0]), if_neg k1, if_neg k2, if_neg k3, if_pos k4]
            have E := Lib.hid e
            rw [k0] at hc
            clear e k1
            obtain ⟨x, m, rfl⟩ : ∃ x m, l = x :: m := by
              cases l with
              | nil => simp [clash] at k4
              | cons x m => exact ⟨x, m, rfl⟩
            obtain ⟨st, tx', g, val'⟩ := x
            have k5 : st = 0 ∨ snap < st := by simpa [clash] using k4
            go_enter Try.func27, Try.ntmps27
            cases gone with
            | false =>
              go_wp2_with (go_at_call 41; refine hc.mono ?_; rintro e w1 ⟨rfl, h1⟩)
              have hba := h1.alloc h1.size (.cells #[.int .i64 0, .int .i64 tx, .bool false, .string val] 45)
              refine (open_any A c (⟨st, tx', g, val'⟩ :: m) tx _ (HR.below hba)).mono ?_; rintro e w2 ⟨rfl, rfl⟩
              rw [k3b]
              obtain ⟨b0, off, rfl, hb0, g0, g1, g2, g3⟩ := HR.four (j := 0) (x := ⟨st, tx', g, val'⟩) (B := 0) rfl hba
              simp only [Nat.zero_mul, Nat.add_zero] at g0 g1 g2 g3
              have hlp : (0 : Int) < (m.length : Int) + 1 := by omega
              by_cases k6 : st = 0
              · subst k6
                go_wp2
                go_ret2
                rw [E.out]
                exact ⟨_, rfl, NIL _, hba⟩
              · have k6b : (st == 0) = false := by simpa using k6
                have k7 : snap < st := by omega
                go_wp2
                go_ret2
                rw [E.out]
                exact ⟨_, rfl, NIL _, hba⟩
            | true =>
              have k2b : val.toList.isEmpty = true := by
                cases h : val.toList.isEmpty with
                | true => rfl
                | false => exact absurd (.inr ⟨rfl, h⟩) k2
              have k2c : (!val.toList.isEmpty) = false := by rw [k2b]; rfl
              go_wp2_with (go_at_call 41; refine hc.mono ?_; rintro e w1 ⟨rfl, h1⟩)
              have hba := h1.alloc h1.size (.cells #[.int .i64 0, .int .i64 tx, .bool true, .string val] 45)
              refine (open_any A c (⟨st, tx', g, val'⟩ :: m) tx _ (HR.below hba)).mono ?_; rintro e w2 ⟨rfl, rfl⟩
              rw [k3b]
              obtain ⟨b0, off, rfl, hb0, g0, g1, g2, g3⟩ := HR.four (j := 0) (x := ⟨st, tx', g, val'⟩) (B := 0) rfl hba
              simp only [Nat.zero_mul, Nat.add_zero] at g0 g1 g2 g3
              have hlp : (0 : Int) < (m.length : Int) + 1 := by omega
              by_cases k6 : st = 0
              · subst k6
                go_wp2
                go_ret2
                rw [E.out]
                exact ⟨_, rfl, NIL _, hba⟩
              · have k6b : (st == 0) = false := by simpa using k6
                have k7 : snap < st := by omega
                go_wp2
                go_ret2
                rw [E.out]
                exact ⟨_, rfl, NIL _, hba⟩
          · have k4b : clash snap l = false := by simpa using k4
            by_cases k5 : l.length = 64
            · exact write_full A c l snap tx gone val w HR k0 k1a k1b k2 k3b k4b k5
            · exact write_ins A c l snap tx gone val w HR hn k0 k1a k1b k2 k3b k4b k5
  · have e : write snap tx gone val l = ([], chk l) := by unfold write; rw [if_pos k0]
    rw [e]
    clear e
    generalize chk l = k at *
    go_enter Try.func27, Try.ntmps27
    go_wp2_with (go_at_call 41; refine hc.mono ?_; rintro e w1 ⟨rfl, h1⟩)
    go_ret2
    exact ⟨_, rfl, NIL _, h1⟩
end Go.Proofs.Ytpkacnoimdjckaa
