/- Package version: Undo, Commit; the laws' Alike. -/
import Derived.Test.YtpkacnoimdjckaaWriteW
namespace Go.Proofs.Ytpkacnoimdjckaa
open Go.RowKit
open Go.Shelf
set_option linter.unusedVariables false
set_option linter.unusedSimpArgs false
def undo (tx : Int) (l : List Ver) : List Ver := if chk l = 0 then (if openB tx l = true then l.tail else l) else []
set_option maxHeartbeats 4000000 in
set_option maxRecDepth 100000 in
theorem undo_any (A : Option Addr) (c : Nat) (l : List Ver) (tx : Int) (w : World) (HR : RowE encVer 4 w A l) (hn : A = none → c = 0) :
    Calls Try.prog 45 #[.slice A l.length c, .int .i64 tx] w fun e w' => ∃ v, e = .returned (.tuple #[v, .int .i64 (chk l)]) ∧ SlV w.heap.size w' v (undo tx l) ∧ Below w.heap.size w w' := by
  have hc := check_any A c l w HR
  by_cases k0 : chk l = 0
  · have hlen := chk_len k0
    rw [k0] at hc
    have E : Hid (undo tx l = if openB tx l = true then l.tail else l) := Lib.hid (by unfold undo; rw [if_pos k0])
    rw [k0]
    clear k0
    go_enter Try.func45, Try.ntmps45
    go_wp2_with (go_at_call 41; refine hc.mono ?_; rintro e w1 ⟨rfl, h1⟩)
    refine (clone_own A c l _ (HR.below h1) hn (by omega)).mono ?_; rintro e w2 ⟨v, rfl, hown, h2⟩
    have hb2 := below_step' h1 h2
    have hz1 := h1.size
    clear hc h1 h2
    rcases hown.2 with ⟨rfl, h0⟩ | ⟨g, cap, cur, rfl, hbg, hg, hnc, hcm, hcs, htake⟩
    · obtain rfl : l = [] := List.eq_nil_of_length_eq_zero h0
      go_wp2_with (go_at_call 51; refine (open_any none 0 [] tx _ RowE.nil).mono ?_; rintro e w3 ⟨rfl, rfl⟩)
      go_ret2
      exact ⟨_, rfl, by rw [E.out]; exact SlB.nil _, hb2⟩
    · have HRw : RowE encVer 4 w2 (some ⟨g, 0, none⟩) l := RowE.owned encVer_len hown
      have ho := open_any (some ⟨g, 0, none⟩) cap l tx w2 HRw
      have HRH := Lib.hid HRw
      cases k3 : openB tx l with
      | false =>
        rw [k3] at ho
        clear hown hg htake HRw
        go_wp2_with (go_at_call 51; refine ho.mono ?_; rintro e w3 ⟨rfl, rfl⟩)
        go_ret2
        exact ⟨_, rfl, by rw [E.out, if_neg (by simp [k3])]; exact ⟨some ⟨g, 0, none⟩, cap, rfl, hnc, HRH.out, (fun h => by cases h), fun a ha => by cases ha; exact Nat.le_trans hz1 hbg⟩, hb2⟩
      | true =>
        rw [k3] at ho
        obtain ⟨x, m, rfl⟩ : ∃ x m, l = x :: m := by
          cases l with
          | nil => simp [openB] at k3
          | cons x m => exact ⟨x, m, rfl⟩
        have HT : RowE encVer 4 w2 (some ⟨g, 4, none⟩) m := fun i y hi => by
          obtain ⟨b, off, hA, hlt, hcl⟩ := HRw 0 x rfl
          obtain ⟨rfl, rfl⟩ : g = b ∧ 0 = off := by simpa using hA
          exact ⟨g, 4, rfl, hlt, fun i y hi j v hv => by
            have := hcl (i + 1) y (by simpa using hi) j v hv
            rw [show 4 + i * 4 + j = 0 + (i + 1) * 4 + j by omega]; exact this⟩
        have HTH := Lib.hid HT
        clear hown hg htake HRw HT
        have z1 : (1 : Int) ≤ ((x :: m).length : Int) := by simp; omega
        have z1' : (1 : Int) ≤ (m.length : Int) + 1 := by omega
        have hw1 : IntKind.i64.wrap 1 = 1 := by decide
        by_cases hc1 : cap = 1
        · have hm0 : m = [] := by
            have : m.length = 0 := by simp at hnc; omega
            exact List.eq_nil_of_length_eq_zero this
          subst hm0 hc1
          go_wp2_with (go_at_call 51; refine ho.mono ?_; rintro e w3 ⟨rfl, rfl⟩)
          go_ret2
          exact ⟨_, rfl, by rw [E.out, if_pos k3]; exact ⟨some ⟨g, 0, none⟩, 0, rfl, Nat.le_refl _, RowE.nil, (fun h => by cases h), fun a ha => by cases ha; exact Nat.le_trans hz1 hbg⟩, hb2⟩
        · have hmc : m.length ≤ cap - 1 := by simp at hnc; omega
          go_wp2_with (go_at_call 51; refine ho.mono ?_; rintro e w3 ⟨rfl, rfl⟩)
          go_ret2
          refine ⟨_, rfl, ?_, hb2⟩
          rw [E.out, if_pos k3]
          exact ⟨some ⟨g, 4, none⟩, cap - 1, rfl, hmc, HTH.out, (fun h => by cases h), fun a ha => by cases ha; exact Nat.le_trans hz1 hbg⟩
  · have E : undo tx l = [] := by unfold undo; rw [if_neg k0]
    rw [E]
    clear E
    generalize chk l = k at *
    go_enter Try.func45, Try.ntmps45
    go_wp2_with (go_at_call 41; refine hc.mono ?_; rintro e w1 ⟨rfl, h1⟩)
    go_ret2
    exact ⟨_, rfl, SlB.nil _, h1⟩
end Go.Proofs.Ytpkacnoimdjckaa
