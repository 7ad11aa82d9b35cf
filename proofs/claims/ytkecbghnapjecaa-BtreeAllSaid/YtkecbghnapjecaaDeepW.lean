/- The law BtreeDeep: its walk. -/
import Derived.Test.YtkecbghnapjecaaDeepP
import Derived.Test.YtkecbghnapjecaaKindB
import Derived.Test.YtkecbghnapjecaaAliveC
namespace Go.Proofs.Ytkecbghnapjecaa
open Go.RowKit
set_option linter.unusedVariables false
set_option linter.unusedSimpArgs false
theorem readS_none {s : List Nd} {root d p : Int} (h : readS s root = some (none, d, p)) : d = 0 := by
  unfold readS at h
  split at h
  · split at h
    · simp at h; exact h.1.symm
    · cases h
  · split at h
    · cases h
    · split at h <;> simp at h
/-- What Depth and Range tell of a state. -/
theorem deep_facts (s : List Nd) (root : Int) :
    (rdE (readS s root) = (rangeS s root ⟨#[]⟩ ⟨#[]⟩).2) ∧ ((rdE (readS s root) = 9 ∨ rdE (readS s root) = 0) ∧ rdD (readS s root) = 0 ∧ (rangeS s root ⟨#[]⟩ ⟨#[]⟩).1 = [] ∨
     rdE (readS s root) = 0 ∧ ∃ k : Nat, k ≤ 6 ∧ rdD (readS s root) = k + 1 ∧ leastN 1 (k + 1) ≤ (rangeS s root ⟨#[]⟩ ⟨#[]⟩).1.length ∧ (rangeS s root ⟨#[]⟩ ⟨#[]⟩).1.length ≤ 2048) := by
  rcases hR : readS s root with _ | ⟨o, d, p⟩
  · have hX : rangeS s root ⟨#[]⟩ ⟨#[]⟩ = ([], 9) := by unfold rangeS; rw [hR]
    rw [hX]
    exact ⟨rfl, .inl ⟨.inl rfl, rfl, rfl⟩⟩
  · cases o with
    | none =>
      have hX : rangeS s root ⟨#[]⟩ ⟨#[]⟩ = ([], 0) := by unfold rangeS; rw [hR]
      rw [hX]
      obtain rfl := readS_none hR
      exact ⟨rfl, .inl ⟨.inr rfl, rfl, rfl⟩⟩
    | some t =>
      rw [range_all hR]
      obtain ⟨h1, h2, _⟩ := readS_deep hR
      obtain ⟨_, h4, h5, _⟩ := readS_ok hR
      refine ⟨rfl, .inr ⟨rfl, (d - 1).toNat, ?_, ?_, ?_, ?_⟩⟩
      · unfold leastN at h2
        rw [if_pos rfl] at h2
        by_cases h7 : (d - 1).toNat ≤ 6
        · exact h7
        · exfalso
          rw [if_neg (by omega)] at h2
          have : 3 ^ 6 ≤ 3 ^ (d - 2).toNat := Nat.pow_le_pow_right (by decide) (by omega)
          simp only [Nat.reducePow] at this
          omega
      · show d = _
        omega
      · have e : (((d - 1).toNat : Nat) : Int) + 1 = d := by omega
        rw [e]; exact h2
      · show (pairsT t).length ≤ 2048
        omega
def lsN (k : Nat) : Int := match k with | 0 => 1 | k + 1 => 4 * 3 ^ k
theorem lsN_le {k n : Nat} (hk : k ≤ 6) (h : leastN 1 (k + 1) ≤ n) : lsN k ≤ n ∧ n ≠ 0 := by
  unfold leastN at h
  obtain rfl | rfl | rfl | rfl | rfl | rfl | rfl : k = 0 ∨ k = 1 ∨ k = 2 ∨ k = 3 ∨ k = 4 ∨ k = 5 ∨ k = 6 := by omega
  all_goals simp [lsN] at *; omega
theorem own_sl {W : World} {base k n : Nat} {e : TypeId} {v : Value} {xs : List Value} (h : W.ownsRow base e k v n xs) : ∃ A c, v = .slice A n c := by
  rcases h.2 with ⟨rfl, rfl⟩ | ⟨g, cap, cur, rfl, _⟩
  · exact ⟨none, 0, rfl⟩
  · exact ⟨_, _, rfl⟩
theorem StOk.ok {w : World} {A : Option Addr} {c : Nat} {s : List Nd} (h : StOk s) (hN : NodesAt w A s) : NodesOk w A c s := ⟨hN, h.hk, by have := h.len; omega⟩
set_option maxHeartbeats 4000000 in
set_option maxRecDepth 100000 in
theorem deep_any (NA : Option Addr) (nc : Nat) (root : Int) (s : List Nd) (w : World) (hN : NodesAt w NA s) (hok : StOk s) (hroot : InR root) :
    Calls Try.prog 4 #[.agg #[.slice NA s.length nc, .int .i64 root]] w fun e w' => e = .returned (.bool true) ∧ Below w.heap.size w w' := by
  have HB := Lib.hid (Box.new w #[.slice NA s.length nc, .int .i64 root] 24)
  have hb0 : Below w.heap.size w (w.alloc (.cells #[.slice NA s.length nc, .int .i64 root] 24)) := (Below.refl _ _).alloc (Nat.le_refl _) _
  have HS := Lib.hid (hN.below hb0)
  have HF := Lib.hid hb0
  have HOK := Lib.hid hok
  clear hN hb0 hok
  obtain ⟨hf1, hf2⟩ := deep_facts s root
  have hdep := fun A c w hN => depth_any A c root s w (HOK.out.ok (c := c) hN) hroot
  have hran := fun A c w hN => range_any A c root s ⟨#[]⟩ ⟨#[]⟩ w (HOK.out.ok (c := c) hN) hroot
  generalize rdD (readS s root) = d at *
  generalize rdE (readS s root) = er at *
  generalize rangeS s root ⟨#[]⟩ ⟨#[]⟩ = X at *
  obtain ⟨l, e2⟩ := X
  dsimp only at hf1 hf2 hran
  obtain rfl := hf1
  have HDP := Lib.hid hdep
  have HRN := Lib.hid hran
  have HFX := Lib.hid hf2
  clear hdep hran hf2
  go_enter Try.func4, Try.ntmps4
  go_wp2_with fail
  generalize w.alloc (.cells #[.slice NA s.length nc, .int .i64 root] 24) = w1 at *
  refine (alive_any _).mono ?_
  rintro e w2 ⟨rfl, hb⟩
  replace HB := Lib.hid (HB.out.step hb)
  replace HS := Lib.hid (HS.out.below hb)
  replace HF := Lib.hid (below_step' HF.out hb)
  clear hb
  have cHB0 := HB.out.c 0 _ rfl; have fHB0 := HB.out.f 0 (by simp); have cHB1 := HB.out.c 1 _ rfl; have fHB1 := HB.out.f 1 (by simp); have lHB := HB.out.lt
  go_wp2_with fail
  clear cHB0 fHB0 cHB1 fHB1 lHB
  refine (of_any NA nc root s w2 HS.out HOK.out).mono ?_
  rintro e w3 ⟨A, c, rfl, _, _, hn, _, hb⟩
  replace HB := Lib.hid (HB.out.step hb)
  replace HS := Lib.hid (HS.out.below hb)
  replace HF := Lib.hid (below_step' HF.out hb)
  clear hb
  have hd := HDP.out A c w3 hn
  have HD := Lib.hid hd
  clear hd hn
  go_wp2_with fail
  refine HD.out.mono ?_
  rintro e w4 ⟨rfl, hb⟩
  replace HB := Lib.hid (HB.out.step hb)
  replace HS := Lib.hid (HS.out.below hb)
  replace HF := Lib.hid (below_step' HF.out hb)
  clear hb HD
  have cHB0 := HB.out.c 0 _ rfl; have fHB0 := HB.out.f 0 (by simp); have cHB1 := HB.out.c 1 _ rfl; have fHB1 := HB.out.f 1 (by simp); have lHB := HB.out.lt
  go_wp2_with fail
  clear cHB0 fHB0 cHB1 fHB1 lHB
  refine (of_any NA nc root s w4 HS.out HOK.out).mono ?_
  rintro e w5 ⟨A2, c2, rfl, _, _, hn, _, hb⟩
  replace HF := Lib.hid (below_step' HF.out hb)
  clear hb HB HS
  have hr := HRN.out A2 c2 w5 hn
  have HR := Lib.hid hr
  clear hr hn HDP HRN
  go_wp2_with fail
  refine HR.out.mono ?_
  rintro e w6 ⟨v, rfl, hown, hb⟩
  obtain ⟨A3, c3, rfl⟩ := own_sl hown
  replace HF := Lib.hid (below_step' HF.out hb)
  clear hb HR hown
  rcases HFX.out with ⟨he, rfl, rfl⟩ | ⟨rfl, k, hk, rfl, hl, hl2⟩
  · clear HFX
    rcases he with rfl | rfl
    · go_wp2_with (go_at_call 13; (with_reducible refine (num_any _ _).mono ?_); rintro e w' ⟨rfl, rfl⟩)
      go_ret
      exact ⟨rfl, HF.out⟩
    · go_wp2_with (go_at_call 13; (with_reducible refine (num_any _ _).mono ?_); rintro e w' ⟨rfl, rfl⟩)
      go_loopw [7, 8] (fun a i wr => a = .int .i64 0 ∧ i = .int .i64 2 ∧ w6 = wr) (fun _ _ _ => 0)
      case atStart => exact ⟨rfl, rfl, rfl⟩
      case round =>
        obtain ⟨rfl, rfl, rfl⟩ := hrel
        go_wp2_with fail
        go_ret
        exact ⟨rfl, HF.out⟩
  · obtain ⟨hl3, hl4⟩ := lsN_le hk hl
    clear HFX hl
    go_wp2_with (go_at_call 13; (with_reducible refine (num_any _ _).mono ?_); rintro e w' ⟨rfl, rfl⟩)
    rw [show decide ((1 : Int) ≤ (k : Int) + 1) = true from decide_eq_true (by omega)]
    go_loopw [7, 8] (fun a i wr => ∃ j : Nat, j ≤ k ∧ a = .int .i64 (lsN j) ∧ i = .int .i64 ((j : Int) + 2) ∧ w6 = wr) (fun _ i _ => k + 2 - (Lib.intOf i).toNat)
    case atStart => exact ⟨0, Nat.zero_le _, rfl, rfl, rfl⟩
    case round =>
      obtain ⟨j, hj, rfl, rfl, rfl⟩ := hrel
      by_cases hlt : j < k
      · obtain rfl | rfl | rfl | rfl | rfl | rfl : j = 0 ∨ j = 1 ∨ j = 2 ∨ j = 3 ∨ j = 4 ∨ j = 5 := by omega
        · rw [show lsN 0 = 1 from rfl, show ((0 : Nat) : Int) + 2 = 2 from rfl]
          go_wp2_with fail
          go_roundw
          case rel => exact ⟨1, by omega, rfl, rfl, trivial⟩
          case measure => simp [Lib.intOf]; omega
        · rw [show lsN 1 = 4 from rfl, show ((1 : Nat) : Int) + 2 = 3 from rfl]
          go_wp2_with fail
          go_roundw
          case rel => exact ⟨2, by omega, rfl, rfl, trivial⟩
          case measure => simp [Lib.intOf]; omega
        · rw [show lsN 2 = 12 from rfl, show ((2 : Nat) : Int) + 2 = 4 from rfl]
          go_wp2_with fail
          go_roundw
          case rel => exact ⟨3, by omega, rfl, rfl, trivial⟩
          case measure => simp [Lib.intOf]; omega
        · rw [show lsN 3 = 36 from rfl, show ((3 : Nat) : Int) + 2 = 5 from rfl]
          go_wp2_with fail
          go_roundw
          case rel => exact ⟨4, by omega, rfl, rfl, trivial⟩
          case measure => simp [Lib.intOf]; omega
        · rw [show lsN 4 = 108 from rfl, show ((4 : Nat) : Int) + 2 = 6 from rfl]
          go_wp2_with fail
          go_roundw
          case rel => exact ⟨5, by omega, rfl, rfl, trivial⟩
          case measure => simp [Lib.intOf]; omega
        · rw [show lsN 5 = 324 from rfl, show ((5 : Nat) : Int) + 2 = 7 from rfl]
          go_wp2_with fail
          go_roundw
          case rel => exact ⟨6, by omega, rfl, rfl, trivial⟩
          case measure => simp [Lib.intOf]; omega
      · obtain rfl : j = k := by omega
        have hl5 : ¬ (l.length : Int) < lsN j := by omega
        have hx1 : ((j : Int) + 1 == 0) = false := by rw [beq_eq_false_iff_ne]; omega
        have hx2 : ((l.length : Int) == 0) = false := by rw [beq_eq_false_iff_ne]; omega
        go_wp2_with fail
        go_ret
        exact ⟨rfl, HF.out⟩
end Go.Proofs.Ytkecbghnapjecaa
