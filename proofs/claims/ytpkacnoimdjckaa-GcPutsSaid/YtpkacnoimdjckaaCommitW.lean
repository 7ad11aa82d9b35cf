/- Package version: Commit of one's own first version. -/
import Derived.Test.YtpkacnoimdjckaaUndoW
import Derived.Test.YtpkacnoimdjckaaWritePlain
namespace Go.Proofs.Ytpkacnoimdjckaa
open Go.RowKit
open Go.Shelf
set_option linter.unusedVariables false
set_option linter.unusedSimpArgs false
def least : List Ver → Int
  | [] => 1
  | v :: _ => v.st + 1
def commitR (tx s : Int) (gn : Bool) (val : ByteArray) (m : List Ver) : List Ver × Int := if s < least m ∨ 1099511627776 < s then ([], 4) else (⟨s, tx, gn, val⟩ :: m, 0)
set_option maxHeartbeats 4000000 in
set_option maxRecDepth 100000 in
theorem commit_any (A : Option Addr) (c : Nat) (m : List Ver) (tx s : Int) (gn : Bool) (val : ByteArray) (w : World) (HR : RowE encVer 4 w A (⟨0, tx, gn, val⟩ :: m)) (k0 : chk (⟨0, tx, gn, val⟩ :: m) = 0) :
    Calls Try.prog 59 #[.slice A (⟨0, tx, gn, val⟩ :: m : List Ver).length c, .int .i64 tx, .int .i64 s] w fun e w' => ∃ v, e = .returned (.tuple #[v, .int .i64 (commitR tx s gn val m).2]) ∧ SlV w.heap.size w' v (commitR tx s gn val m).1 ∧ Below w.heap.size w w' := by
  have hc := check_any A c _ w HR
  rw [k0] at hc
  have hlen := chk_len k0
  have hop := fun (W : World) (h : Below w.heap.size w W) => open_any A c (⟨0, tx, gn, val⟩ :: m) tx W (HR.below h)
  have ho : openB tx (⟨0, tx, gn, val⟩ :: m) = true := by simp [openB]
  rw [ho] at hop
  have HOP := Lib.hid hop
  have HV : Hid (∀ v k, m = v :: k → vmay v = true) := Lib.hid (by
    rintro v k rfl
    have := chk_from k0
    rw [chkFrom_cons] at this
    simp only [Bool.and_eq_true] at this
    have h2 := this.2
    rw [chkFrom_cons] at h2
    simp only [Bool.and_eq_true] at h2
    exact h2.1.1.1)
  clear hop ho k0
  obtain ⟨b0, off, rfl, hb0, _, _, _, _⟩ := HR.four (j := 0) (x := ⟨0, tx, gn, val⟩) (B := 0) rfl (Below.refl _ _)
  go_enter Try.func59, Try.ntmps59
  go_wp2_with (go_at_call 41; refine hc.mono ?_; rintro e w1 ⟨rfl, h1⟩)
  refine (HOP.out _ h1).mono ?_; rintro e w2 ⟨rfl, rfl⟩
  have HRC := HR.below h1
  have CL : Hid (∀ (W : World), W = w1 → Calls Try.prog 48 #[.slice (some ⟨b0, off, none⟩) (m.length + 1) c] W fun e w' => ∃ v, e = .returned v ∧ w'.ownsRow W.heap.size 45 4 v (m.length + 1) ((⟨0, tx, gn, val⟩ :: m : List Ver).flatMap encVer) ∧ Below W.heap.size W w') := Lib.hid (by
    intro W hW
    rw [hW]
    exact clone_own (some ⟨b0, off, none⟩) c (⟨0, tx, gn, val⟩ :: m) w1 HRC (fun h => by cases h) (by omega))
  have E : Hid (commitR tx s gn val m = if s < least m ∨ 1099511627776 < s then ([], 4) else (⟨s, tx, gn, val⟩ :: m, 0)) := Lib.hid rfl
  have NIL : ∀ w', SlV w.heap.size w' (.slice none 0 0) [] := fun w' => SlB.nil _
  have FIN : Hid (∀ (W w3 : World) (v : Value), Below w.heap.size w W → w3.ownsRow W.heap.size 45 4 v (m.length + 1) ((⟨0, tx, gn, val⟩ :: m : List Ver).flatMap encVer) → Below W.heap.size W w3 → ∃ g cap, v = .slice (some ⟨g, 0, none⟩) (m.length + 1) cap ∧ w3.cell? ⟨g, 0, none⟩ = some (.int .i64 0) ∧ w3.frozen? ⟨g, 0, none⟩ = false ∧ SlV w.heap.size (w3.setCell ⟨g, 0, none⟩ (.int .i64 s)) (.slice (some ⟨g, 0, none⟩) (m.length + 1) cap) (⟨s, tx, gn, val⟩ :: m) ∧ Below w.heap.size w (w3.setCell ⟨g, 0, none⟩ (.int .i64 s))) := Lib.hid (by
    intro W w3 v hW hown h3
    obtain ⟨g, cap, rfl⟩ : ∃ g cap, v = .slice (some ⟨g, 0, none⟩) (m.length + 1) cap := by
      rcases hown.2 with ⟨_, h0⟩ | ⟨g, cap, cur, hv, _⟩
      · omega
      · exact ⟨g, cap, hv⟩
    refine ⟨g, cap, rfl, ?_, hown.frozenAt 0, (SlV.of_own (l := ⟨s, tx, gn, val⟩ :: m) (hown.stored 0 (.int .i64 s)).1).mono hW.size, ?_⟩
    · have := hown.cellAt 0 (by omega)
      simpa [encVer] using this
    · exact (below_step' hW h3).setCell (Nat.le_trans hW.size (hown.lt g rfl).1) _)
  cases m with
  | nil =>
    by_cases q : s < 1 ∨ 1099511627776 < s
    · have EE : Hid (commitR tx s gn val [] = ([], 4)) := Lib.hid (by rw [E.out]; exact if_pos q)
      by_cases q1 : s < 1
      · go_wp2
        go_ret2
        rw [EE.out]
        exact ⟨_, rfl, NIL _, h1⟩
      · have q2 : (1099511627776 : Int) < s := by omega
        go_wp2
        go_ret2
        rw [EE.out]
        exact ⟨_, rfl, NIL _, h1⟩
    · have EE : Hid (commitR tx s gn val [] = (⟨s, tx, gn, val⟩ :: [], 0)) := Lib.hid (by rw [E.out]; exact if_neg q)
      have q1 : ¬ s < 1 := by omega
      have q2 : ¬ (1099511627776 : Int) < s := by omega
      go_wp2_with fail
      refine (CL.out _ rfl).mono ?_; rintro e w3 ⟨v, rfl, hown, h3⟩
      obtain ⟨g, cap, rfl, c0, f0, S, B⟩ := FIN.out _ _ _ h1 hown h3
      clear hown
      go_wp2
      go_ret2
      rw [EE.out]
      exact ⟨_, rfl, S, B⟩
  | cons x k =>
    obtain ⟨b1, off1, hA, _, g0, _, _, _⟩ := HRC.four (j := 1) (x := x) (B := 0) rfl (Below.refl _ _)
    obtain ⟨rfl, rfl⟩ : b0 = b1 ∧ off = off1 := by simpa using hA
    obtain ⟨st, tx', g, val'⟩ := x
    simp only [Nat.one_mul] at g0
    clear hA
    have hst : vmay ⟨st, tx', g, val'⟩ = true := HV.out _ _ rfl
    have st0 : 0 ≤ st := vmay_st (v := ⟨st, tx', g, val'⟩) hst
    have st1 : st ≤ 1099511627776 := by unfold vmay at hst; simp at hst; omega
    clear hst
    have hlp : (1 : Int) < (k.length : Int) + 1 + 1 := by omega
    by_cases q : s < st + 1 ∨ 1099511627776 < s
    · have EE : Hid (commitR tx s gn val (⟨st, tx', g, val'⟩ :: k) = ([], 4)) := Lib.hid (by rw [E.out]; exact if_pos q)
      by_cases q1 : s < st + 1
      · go_wp2
        go_ret2
        rw [EE.out]
        exact ⟨_, rfl, NIL _, h1⟩
      · have q2 : (1099511627776 : Int) < s := by omega
        go_wp2
        go_ret2
        rw [EE.out]
        exact ⟨_, rfl, NIL _, h1⟩
    · have EE : Hid (commitR tx s gn val (⟨st, tx', g, val'⟩ :: k) = (⟨s, tx, gn, val⟩ :: (⟨st, tx', g, val'⟩ :: k), 0)) := Lib.hid (by rw [E.out]; exact if_neg q)
      have q1 : ¬ s < st + 1 := by omega
      have q2 : ¬ (1099511627776 : Int) < s := by omega
      go_wp2_with fail
      refine (CL.out _ rfl).mono ?_; rintro e w3 ⟨v, rfl, hown, h3⟩
      obtain ⟨g', cap, rfl, c0, f0, S, B⟩ := FIN.out _ _ _ h1 hown h3
      clear hown
      go_wp2
      go_ret2
      rw [EE.out]
      exact ⟨_, rfl, S, B⟩
end Go.Proofs.Ytpkacnoimdjckaa
