/- The law's reads. -/
import Derived.Test.YtdiclnkkddnncaaRdW
namespace Go.Proofs.Ytdiclnkkddnncaa
open Go.RowKit
open Go.Shelf
set_option linter.unusedVariables false
set_option linter.unusedSimpArgs false
theorem readers_cov {l : List Lk} (h : chkL l = 0) (key : ByteArray) (t : Int) : t ∈ (readersR l key).1 ↔ covT l t key = true := by
  unfold readersR
  rw [if_neg (by simp [h])]
  dsimp only
  rw [comp_mem _ _ _ (by simp), covT_iff, List.mem_map]
  constructor
  · rintro ⟨x, hx, rfl⟩
    obtain ⟨h1, h2⟩ := List.mem_filter.1 hx
    exact ⟨x, h1, rfl, h2⟩
  · rintro ⟨x, hx, rfl, h2⟩
    exact ⟨x, List.mem_filter.2 ⟨hx, h2⟩, rfl⟩
theorem readers_len {l : List Lk} (h : chkL l = 0) (key : ByteArray) : (readersR l key).1.length ≤ 512 ∧ (readersR l key).2 = 0 := by
  unfold readersR
  rw [if_neg (by simp [h])]
  refine ⟨?_, rfl⟩
  dsimp only
  refine Nat.le_trans (comp_len _ _) ?_
  rw [List.length_map]
  exact Nat.le_trans (List.length_filter_le _ _) ((chkL_iff l).1 h).1
set_option maxHeartbeats 4000000 in
set_option maxRecDepth 100000 in
theorem reads_any (A : Option Addr) (c : Nat) (l : List Lk) (t : Int) (key : ByteArray) (w : World) (HR : RowE encL 3 w A l) (hck : chkL l = 0) (hk : key.size ≤ 140737488351232) :
    Calls Try.prog 14 #[.agg #[.slice A l.length c], .int .i64 t, .string key] w fun e w' => e = .returned (.bool (covT l t key)) ∧ Below w.heap.size w w' := by
  have ba : Below w.heap.size w (w.alloc (.cells #[.slice A l.length c] 30)) := (by (repeat (first | (with_reducible exact Below.refl _ _) | apply below_alloc _ (Nat.le_refl _) | refine below_set ?_ (by first | exact Nat.le_refl _ | omega) | apply below_drewN | refine below_step ?_ HB)))
  have hlen := ((chkL_iff l).1 hck).1
  have hrd := readers_any A c l key _ (HR.below ba) (by omega) hk
  have HM := Lib.hid (readers_cov hck key t)
  obtain ⟨hl5, he0⟩ := readers_len hck key
  rw [he0] at hrd
  generalize hb : covT l t key = b at *
  generalize (readersR l key).1 = R at *
  clear HR hb hck he0
  go_enter Try.func14, Try.ntmps14
  go_wp2_with fail
  refine hrd.mono ?_; rintro e w1 ⟨u, rfl, ⟨Au, cu, rfl, _, hru, _, _⟩, h1⟩
  have HF := Lib.hid (ba.trans (h1.mono (by simp)))
  have HRU := Lib.hid hru
  clear hrd hru h1 ba
  go_wp2_with fail
  go_loopw [9] (fun i wr => ∃ j : Nat, j ≤ R.length ∧ i = .int .i64 j ∧ wr = w1 ∧ Hid (∀ (k : Nat) (z : Int), k < j → R[k]? = some z → z ≠ t)) (fun i _ => R.length - (Lib.intOf i).toNat)
  case atStart => exact ⟨0, Nat.zero_le _, rfl, rfl, Lib.hid (fun k z h => absurd h (Nat.not_lt_zero _))⟩
  case round =>
    obtain ⟨j, hj, rfl, rfl, HN⟩ := hrel
    by_cases hlt : j < R.length
    · obtain ⟨z, hz⟩ : ∃ z, R[j]? = some z := ⟨_, List.getElem?_eq_getElem hlt⟩
      obtain ⟨b0, off, rfl, _, hc⟩ := HRU.out j z hz
      have g0 : wr.cell? ⟨b0, off + j, none⟩ = some (.int .i64 z) := by simpa using hc j z hz 0 _ rfl
      have HZ := Lib.hid hz
      clear hz hc
      by_cases q : z = t
      · subst q
        have HB : Hid (b = true) := Lib.hid (HM.out.1 (List.mem_of_getElem? HZ.out))
        go_wp2_with (refine (num_any _ _).mono ?_; rintro e wn ⟨rfl, rfl⟩)
        go_ret
        exact ⟨ret_bool (by rw [HB.out]), HF.out⟩
      · have q' : (z == t) = false := by simpa using q
        go_wp2_with fail
        go_roundw
        case rel =>
          refine ⟨j + 1, by omega, by go_num, by trivial, Lib.hid (fun k y hk hy => ?_)⟩
          by_cases e : k = j
          · subst e; rw [HZ.out] at hy; cases hy; exact q
          · exact HN.out k y (by omega) hy
        case measure => simp [Lib.intOf]; omega
    · obtain rfl : j = R.length := by omega
      have HB : Hid (b = false) := Lib.hid (by
        cases hb : b with
        | false => rfl
        | true =>
          obtain ⟨k, hk'⟩ := List.mem_iff_getElem?.1 (HM.out.2 hb)
          exact absurd rfl (HN.out k t (lt_of_get hk') hk'))
      go_wp2
      go_ret
      exact ⟨ret_bool (by rw [HB.out]), HF.out⟩
end Go.Proofs.Ytdiclnkkddnncaa
