/- slices.Compact of a row of numbers of the call's own. -/
import Derived.Test.YtdiclnkkddnncaaLkA
namespace Go.Proofs.Ytdiclnkkddnncaa
open Go.RowKit
open Go.Shelf
set_option linter.unusedVariables false
set_option linter.unusedSimpArgs false
/-- Each number once in a run. -/
def compR : Option Int → List Int → List Int
  | _, [] => []
  | p, a :: l => if p = some a then compR p l else a :: compR (some a) l
theorem compR_cons (p : Option Int) (a : Int) (l : List Int) : compR p (a :: l) = if p = some a then compR p l else a :: compR (some a) l := by conv => lhs; unfold compR
theorem comp_snoc : ∀ (l : List Int) (p : Option Int) (a b : Int), compR p (l ++ [b, a]) = if b = a then compR p (l ++ [b]) else compR p (l ++ [b]) ++ [a]
  | [], p, a, b => by
    rw [List.nil_append, List.nil_append, compR_cons, compR_cons, compR_cons, compR_cons]
    by_cases q : b = a
    · subst q
      by_cases r : p = some b
      · simp [r, compR]
      · simp [r, compR]
    · by_cases r : p = some b
      · subst r
        have : ¬ (some b = some a) := fun h => q (Option.some.inj h)
        simp [q, compR]
      · have : ¬ (some b = some a) := fun h => q (Option.some.inj h)
        simp [q, r, compR]
  | c :: l, p, a, b => by
    rw [List.cons_append, List.cons_append, compR_cons, compR_cons]
    by_cases r : p = some c
    · rw [if_pos r, if_pos r]; exact comp_snoc l p a b
    · rw [if_neg r, if_neg r, comp_snoc l (some c) a b]
      split <;> rfl
theorem comp_take {l : List Int} {j : Nat} {a b : Int} (hj : 0 < j) (hb : l[j - 1]? = some b) (ha : l[j]? = some a) : compR none (l.take (j + 1)) = if b = a then compR none (l.take j) else compR none (l.take j) ++ [a] := by
  have e1 : l.take j = l.take (j - 1) ++ [b] := by
    have : j = j - 1 + 1 := by omega
    conv => lhs; rw [this]
    rw [List.take_add_one, hb]; rfl
  have e2 : l.take (j + 1) = l.take (j - 1) ++ [b, a] := by
    rw [List.take_add_one, ha, e1]; simp
  rw [e2, e1]; exact comp_snoc _ _ _ _
theorem comp_mem : ∀ (l : List Int) (p : Option Int) (n : Int), p ≠ some n → (n ∈ compR p l ↔ n ∈ l)
  | [], p, n, h => by simp [compR]
  | a :: l, p, n, h => by
    rw [compR_cons]
    by_cases r : p = some a
    · rw [if_pos r, comp_mem l p n h]
      have : n ≠ a := fun e => by subst e; exact h r
      simp [this]
    · rw [if_neg r, List.mem_cons, List.mem_cons]
      by_cases q : n = a
      · simp [q]
      · rw [comp_mem l (some a) n (fun e => q (Option.some.inj e).symm)]
theorem comp_len : ∀ (l : List Int) (p : Option Int), (compR p l).length ≤ l.length
  | [], p => by simp [compR]
  | a :: l, p => by
    rw [compR_cons]
    split
    · have := comp_len l p; simp; omega
    · have := comp_len l (some a); simp; omega
theorem zeroI : ∀ w : World, (zeroValue 3).run Try.prog w = .ok (.int .i64 0) w := by
  intro w
  kernel_rfl
set_option maxHeartbeats 4000000 in
set_option maxRecDepth 100000 in
theorem compact_own (base g cap : Nat) (l : List Int) (w : World) (HO : w.ownsRow base 3 1 (.slice (some ⟨g, 0, none⟩) l.length cap) l.length (l.map (Value.int .i64))) (hl : l.length ≤ 1000) :
    Calls Try.prog 44 #[.slice (some ⟨g, 0, none⟩) l.length cap] w fun e w' => e = .returned (.slice (some ⟨g, 0, none⟩) (compR none l).length cap) ∧ w'.ownsRow base 3 1 (.slice (some ⟨g, 0, none⟩) (compR none l).length cap) (compR none l).length ((compR none l).map (Value.int .i64)) ∧ Below base w w' := by
  have hgb := (HO.lt g rfl)
  have hcap : l.length ≤ cap := by
    obtain ⟨A', c', hv, hc', _⟩ := own_slice HO
    cases hv; exact hc'
  have HO' := Lib.hid HO
  clear HO
  by_cases h2 : l.length < 2
  · have e : compR none l = l := by
      cases l with
      | nil => rfl
      | cons a l =>
        cases l with
        | nil => simp [compR]
        | cons b l => simp at h2; omega
    rw [e]
    clear e
    go_enter Try.func44, Try.ntmps44
    go_wp2
    go_ret
    exact ⟨rfl, HO'.out, Below.refl _ _⟩
  · generalize hR : compR none l = R at *
    have HR := Lib.hid hR
    clear hR
    go_enter Try.func44, Try.ntmps44
    go_wp2_with fail
    go_loopw [3] (fun i wr => ∃ j : Nat, 0 < j ∧ j ≤ l.length ∧ i = .int .i64 j ∧ Hid (compR none (l.take j) = l.take j) ∧ ∃ nn, wr = w.drewN nn) (fun i _ => l.length - (Lib.intOf i).toNat)
    case atStart =>
      refine ⟨1, by omega, by omega, rfl, Lib.hid ?_, 0, rfl⟩
      cases l with
      | nil => simp at h2
      | cons a l => simp [compR]
    case round =>
      obtain ⟨j, hj0, hj, rfl, HE, nn, rfl⟩ := hrel
      by_cases hlt : j < l.length
      · obtain ⟨a, ha⟩ : ∃ a, l[j]? = some a := ⟨_, List.getElem?_eq_getElem hlt⟩
        obtain ⟨b, hb⟩ : ∃ b, l[j - 1]? = some b := ⟨_, List.getElem?_eq_getElem (by omega)⟩
        have ca : w.cell? ⟨g, j, none⟩ = some (.int .i64 a) := (HO'.out.cellAt j (by omega)).trans (by rw [List.getElem?_map, ha]; rfl)
        have cb : w.cell? ⟨g, j - 1, none⟩ = some (.int .i64 b) := (HO'.out.cellAt (j - 1) (by omega)).trans (by rw [List.getElem?_map, hb]; rfl)
        have HT := Lib.hid (comp_take hj0 hb ha)
        have HA := Lib.hid ha
        have jj : ((j : Int) - 1) = ((j - 1 : Nat) : Int) := by omega
        clear ha hb
        by_cases q : a = b
        · subst q
          go_wp2_with fail
          go_quiet (fail)
          have HT2 : Hid (compR none (l.take (j + 1)) = l.take j) := Lib.hid (by rw [HT.out]; simp only [if_true]; exact HE.out)
          clear HT HE ca cb jj
          go_wp2_with fail
          go_loopw [3, 5] (fun s3 s5 wr => ∃ i k : Nat, s3 = .int .i64 i ∧ s5 = .int .i64 k ∧ 1 ≤ k ∧ j + k ≤ l.length ∧ i + 1 ≤ j + k ∧ Hid (Below base w wr) ∧ Hid (∃ m : List Int, m.length = l.length ∧ m.take i = compR none (l.take (j + k)) ∧ m.drop (j + k - 1) = l.drop (j + k - 1) ∧ wr.ownsRow base 3 1 (.slice (some ⟨g, 0, none⟩) l.length cap) l.length (m.map (Value.int .i64)))) (fun _ s5 _ => l.length - (Lib.intOf s5).toNat)
          case atStart => exact ⟨j, 1, rfl, rfl, by omega, by omega, by omega, Lib.hid (below_drewN (Below.refl _ _) _), Lib.hid ⟨l, rfl, HT2.out.symm, rfl, HO'.out⟩⟩
          case round =>
            clear HT2 HA
            obtain ⟨i, k, rfl, rfl, hk1, hk, hik, HB, HM⟩ := hrel
            by_cases hkl : j + k < l.length
            · obtain ⟨x, hx⟩ : ∃ x, l[j + k]? = some x := ⟨_, List.getElem?_eq_getElem hkl⟩
              obtain ⟨y, hy⟩ : ∃ y, l[j + k - 1]? = some y := ⟨_, List.getElem?_eq_getElem (by omega)⟩
              obtain ⟨m, m1, m2, m3, m4⟩ := HM.out
              clear HM
              have hmx : m[j + k]? = some x := by
                have h1 : (m.drop (j + k - 1))[1]? = (l.drop (j + k - 1))[1]? := by rw [m3]
                rw [List.getElem?_drop, List.getElem?_drop, show j + k - 1 + 1 = j + k by omega, hx] at h1
                exact h1
              have hmy : m[j + k - 1]? = some y := by
                have h1 : (m.drop (j + k - 1))[0]? = (l.drop (j + k - 1))[0]? := by rw [m3]
                rw [List.getElem?_drop, List.getElem?_drop, Nat.add_zero, hy] at h1
                exact h1
              have cx : wr.cell? ⟨g, j + k, none⟩ = some (.int .i64 x) := (m4.cellAt (j + k) (by omega)).trans (by rw [List.getElem?_map, hmx]; rfl)
              have cy : wr.cell? ⟨g, j + (k - 1), none⟩ = some (.int .i64 y) := by
                have := (m4.cellAt (j + k - 1) (by omega)).trans (show (m.map (Value.int .i64))[j + k - 1]? = some (.int .i64 y) by rw [List.getElem?_map, hmy]; rfl)
                rwa [show j + k - 1 = j + (k - 1) by omega] at this
              have HT := Lib.hid (comp_take (j := j + k) (by omega) hy hx)
              have kk : ((k : Int) - 1) = ((k - 1 : Nat) : Int) := by omega
              have ci : ∃ u, wr.cell? ⟨g, i, none⟩ = some u := ⟨_, (m4.cellAt i (by omega)).trans (List.getElem?_eq_getElem (by simp; omega))⟩
              obtain ⟨u, ci⟩ := ci
              have fi := m4.frozenAt i
              have M1 := Lib.hid m1
              have M2 := Lib.hid m2
              have M3 : Hid (m.drop (j + k) = l.drop (j + k)) := Lib.hid (by
                have := congrArg (List.drop 1) m3
                rw [List.drop_drop, List.drop_drop, show j + k - 1 + 1 = j + k by omega] at this
                exact this)
              have M4 := Lib.hid m4
              have M5 := Lib.hid (m4.stored i (.int .i64 x)).1
              have hgl : g < wr.heap.size := (m4.lt g rfl).2
              clear hx hy m1 m2 m3 m4 hmx hmy
              by_cases q2 : x = y
              · subst q2
                go_wp2_with fail
                go_quiet (fail)
                go_wp2
                go_roundw
                case rel => exact ⟨i, k + 1, rfl, by go_num, by omega, by omega, by omega, Lib.hid (below_drewN HB.out _), Lib.hid ⟨m, M1.out, by rw [M2.out, show j + (k + 1) = j + k + 1 by omega, HT.out]; simp only [if_true], by rw [show j + (k + 1) - 1 = j + k by omega]; exact M3.out, M4.out⟩⟩
                case measure => simp [Lib.intOf]; omega
              · have q3 : (x == y) = false := by simpa using q2
                have q4 : (x != y) = true := by simpa using q2
                go_wp2_with fail
                go_quiet (fail)
                go_wp2
                go_roundw
                case rel =>
                  refine ⟨i + 1, k + 1, by go_num, by go_num, by omega, by omega, by omega, Lib.hid (Below.setCell (below_drewN HB.out _) hgb.1 _), Lib.hid ⟨m.set i x, by rw [List.length_set, M1.out], ?_, ?_, ?_⟩⟩
                  · rw [take_snoc _ (by rw [M1.out]; omega), M2.out, show j + (k + 1) = j + k + 1 by omega, HT.out, if_neg (fun e => q2 e.symm)]
                  · rw [show j + (k + 1) - 1 = j + k by omega, List.drop_set_of_lt (by omega), M3.out]
                  · rw [List.map_set]; exact M5.out
                case measure => simp [Lib.intOf]; omega
            · have hjk : j + k = l.length := by omega
              obtain ⟨m, m1, m2, m3, m4⟩ := HM.out
              clear HM
              rw [hjk, List.take_length, HR.out] at m2
              have hi : R.length = i := by rw [← m2, List.length_take]; omega
              subst hi
              obtain ⟨w3, hrun, hown3, hgrow⟩ := run_clear_own (P := Try.prog) (k := 1) 50 0 _ R.length Try.underlying50 zeroI rfl (by decide) (by decide) (by omega) m4
              rw [Nat.mul_one] at hrun hown3
              have HO3 : Hid (w3.ownsRow base 3 1 (.slice (some ⟨g, 0, none⟩) R.length cap) R.length (R.map (Value.int .i64))) := Lib.hid (by
                rw [← List.map_take, m2] at hown3; exact hown3)
              have hbz : base ≤ wr.heap.size := by have := (m4.lt g rfl).2; omega
              have HB3 := Lib.hid (HB.out.trans (⟨hgrow.os, hgrow.tape, hgrow.output, hgrow.size, fun q hq => hgrow.block q (by omega) (fun e => by have := Option.some.inj e; omega)⟩ : Below base wr w3))
              have hkl2 : ¬ ((k : Int) < ((l.length - j : Nat) : Int)) := by omega
              clear m1 m2 m3 m4 hown3 hgrow HB
              go_wp2
              go_ret
              exact ⟨rfl, HO3.out, HB3.out⟩
        · have q' : (a == b) = false := by simpa using q
          have HN : Hid (compR none (l.take (j + 1)) = l.take (j + 1)) := Lib.hid (by rw [HT.out, if_neg (fun e => q e.symm), HE.out, List.take_add_one, HA.out]; rfl)
          go_wp2_with fail
          go_quiet (fail)
          go_wp2
          go_roundw
          case rel => exact ⟨j + 1, by omega, by omega, by go_num, HN, _, rfl⟩
          case measure => simp [Lib.intOf]; omega
      · obtain rfl : j = l.length := by omega
        have e : Hid (R = l) := Lib.hid (by rw [← HR.out]; have := HE.out; rwa [List.take_length] at this)
        go_wp2
        go_ret
        rw [e.out]
        exact ⟨rfl, HO'.out, below_drewN (Below.refl _ _) _⟩
end Go.Proofs.Ytdiclnkkddnncaa
