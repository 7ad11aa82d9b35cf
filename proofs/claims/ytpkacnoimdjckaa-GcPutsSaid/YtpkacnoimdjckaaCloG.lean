/- Package gc: the closures of Sweep, Undo, Commit. -/
import Derived.Test.YtpkacnoimdjckaaChangeW
import Derived.Test.YtpkacnoimdjckaaCommitW
import Derived.Test.YtpkacnoimdjckaaWriteA
namespace Go.Proofs.Ytpkacnoimdjckaa
open Go.RowKit
open Go.Shelf
set_option linter.unusedVariables false
set_option linter.unusedSimpArgs false
set_option maxHeartbeats 4000000 in
set_option maxRecDepth 100000 in
theorem sweep1_any (g : Nat) (h : Int) (A : Option Addr) (c : Nat) (l : List Ver) (w : World) (HB : Box w g [.int .i64 h]) (HR : RowE encVer 4 w A l) (hn : A = none → c = 0) (hcap : l.length ≤ c) :
    Calls Try.prog 37 #[.slice A l.length c, .pointer (some ⟨g, 0, none⟩)] w fun e w' => ∃ v, e = .returned (.tuple #[v, .int .i64 (chk l)]) ∧ SlV w.heap.size w' v (pruneR h l) ∧ Below w.heap.size w w' := by
  have c0 := HB.c 0 _ rfl
  have hp := prune_any A c l h w HR hn hcap
  clear HB HR
  generalize chk l = k at *
  go_enter Try.func37, Try.ntmps37
  go_wp2_with fail
  refine hp.mono ?_; rintro e w1 ⟨v, rfl, hv, hb⟩
  go_wp2
  go_ret2
  exact ⟨v, rfl, hv, hb⟩
set_option maxHeartbeats 4000000 in
set_option maxRecDepth 100000 in
theorem undo1_any (g : Nat) (t : Int) (A : Option Addr) (c : Nat) (l : List Ver) (w : World) (HB : Box w g [.int .i64 t]) (HR : RowE encVer 4 w A l) (hn : A = none → c = 0) :
    Calls Try.prog 44 #[.slice A l.length c, .pointer (some ⟨g, 0, none⟩)] w fun e w' => ∃ v, e = .returned (.tuple #[v, .int .i64 (chk l)]) ∧ SlV w.heap.size w' v (undo t l) ∧ Below w.heap.size w w' := by
  have c0 := HB.c 0 _ rfl
  have hp := undo_any A c l t w HR hn
  clear HB HR
  generalize chk l = k at *
  go_enter Try.func44, Try.ntmps44
  go_wp2_with fail
  refine hp.mono ?_; rintro e w1 ⟨v, rfl, hv, hb⟩
  go_wp2
  go_ret2
  exact ⟨v, rfl, hv, hb⟩
def commitT (tx s : Int) : List Ver → List Ver × Int
  | [] => ([], 0)
  | x :: m => if x.st = 0 ∧ x.tx = tx then commitR tx s x.gone x.val m else (x :: m, 0)
set_option maxHeartbeats 4000000 in
set_option maxRecDepth 100000 in
theorem commit1_any (g1 g2 : Nat) (tx s : Int) (A : Option Addr) (c : Nat) (l : List Ver) (w : World) (HB1 : Box w g1 [.int .i64 tx]) (HB2 : Box w g2 [.int .i64 s]) (HR : RowE encVer 4 w A l) (hn : A = none → c = 0) (h0 : l ≠ []) (k0 : chk l = 0) :
    Calls Try.prog 58 #[.slice A l.length c, .pointer (some ⟨g1, 0, none⟩), .pointer (some ⟨g2, 0, none⟩)] w fun e w' => ∃ v, e = .returned (.tuple #[v, .int .i64 (commitT tx s l).2]) ∧ SlV w.heap.size w' v (commitT tx s l).1 ∧ Below w.heap.size w w' := by
  cases l with
  | nil => exact absurd rfl h0
  | cons x m =>
    have c1 := HB1.c 0 _ rfl
    have c2 := HB2.c 0 _ rfl
    have hlen := chk_len k0
    have hcl := fun n => clone_any A c (x :: m) (w.drewN n) HR hn (by omega)
    obtain ⟨b0, off, rfl, hb0, e0, e1, e2, e3⟩ := HR.four (j := 0) (x := x) (B := 0) rfl (Below.refl _ _)
    obtain ⟨st, tx', gn, val⟩ := x
    simp only [Nat.zero_mul, Nat.add_zero] at e0 e1 e2 e3
    have hp : (0 : Int) < ((m.length + 1 : Nat) : Int) := by omega
    have hp2 : (0 : Int) < (m.length : Int) + 1 := by omega
    clear hn
    by_cases q : st = 0 ∧ tx' = tx
    · obtain ⟨rfl, rfl⟩ := q
      have hco := fun n => commit_any (some ⟨b0, off, none⟩) c m tx' s gn val (w.drewN n) HR k0
      have E : Hid (commitT tx' s (⟨0, tx', gn, val⟩ :: m) = commitR tx' s gn val m) := Lib.hid (by simp [commitT])
      rw [E.out]
      generalize commitR tx' s gn val m = cr at *
      clear HR k0 HB1 HB2 hcl E
      simp only [List.length_cons] at *
      go_enter Try.func58, Try.ntmps58
      go_wp2_with fail
      go_quiet (fail)
      go_wp2_with fail
      refine (hco _).mono ?_; rintro e w1 ⟨v, rfl, hv, hb⟩
      go_wp2
      go_ret2
      exact ⟨v, rfl, hv, below_step' (below_drewN (Below.refl _ w) _) hb⟩
    · have E : Hid (commitT tx s (⟨st, tx', gn, val⟩ :: m) = (⟨st, tx', gn, val⟩ :: m, 0)) := Lib.hid (by show (if st = 0 ∧ tx' = tx then _ else _) = _; rw [if_neg q])
      rw [E.out]
      clear HR k0 HB1 HB2 E
      simp only [List.length_cons] at *
      by_cases q0 : st = 0
      · subst q0
        have q1 : (tx' == tx) = false := by simpa using q
        clear q
        go_enter Try.func58, Try.ntmps58
        go_wp2_with fail
        go_quiet (fail)
        go_wp2_with fail
        refine (hcl _).mono ?_; rintro e w1 ⟨v, rfl, hv, hb⟩
        go_wp2
        go_ret2
        exact ⟨v, rfl, hv, below_step' (below_drewN (Below.refl _ w) _) hb⟩
      · have q1 : (st == 0) = false := by simpa using q0
        have q2 : (st != 0) = true := by simpa using q0
        clear q q0
        go_enter Try.func58, Try.ntmps58
        go_wp2_with fail
        go_quiet (fail)
        go_wp2_with fail
        refine (hcl _).mono ?_; rintro e w1 ⟨v, rfl, hv, hb⟩
        go_wp2
        go_ret2
        exact ⟨v, rfl, hv, below_step' (below_drewN (Below.refl _ w) _) hb⟩
end Go.Proofs.Ytpkacnoimdjckaa
