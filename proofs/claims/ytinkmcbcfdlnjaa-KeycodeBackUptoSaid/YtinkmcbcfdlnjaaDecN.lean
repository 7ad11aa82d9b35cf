/- Package keycode: a number is read. -/
import Derived.Test.YtinkmcbcfdlnjaaDecW
import Derived.Laws.BitsLemmas
namespace Go.Proofs.Ytinkmcbcfdlnjaa
open Go.RowKit
set_option linter.unusedVariables false
set_option linter.unusedSimpArgs false
theorem xor_id (c : UInt8) : bits .xor .u8 (c.toNat : Int) 0 = ((id c).toNat : Int) := xor_0 ⟨c.toNat, c.toNat_lt⟩
theorem xor_fl (c : UInt8) : bits .xor .u8 (c.toNat : Int) 255 = ((fl c).toNat : Int) := by
  have h := xor_255 ⟨c.toNat, c.toNat_lt⟩
  simp only at h
  have := c.toNat_lt
  rw [h, fl, UInt8.toNat_sub_of_le _ _ (by rw [UInt8.le_iff_toNat_le]; simp; omega)]
  simp; omega
theorem or_oct (m : Nat) (c : UInt8) (hm : m < 72057594037927936) : bits .or .u64 ((m : Int) * 256) (c.toNat : Int) = ((m * 256 + c.toNat : Nat) : Int) := by
  have hc := c.toNat_lt
  have h := bits_join .u64 64 (by decide) (fun n h0 h1 => by rw [IntKind.wrap_u64]; omega) 8 ((m : Int) * 256) (c.toNat : Int) (by omega) (by omega) (by omega) (by omega) (by omega) (by omega)
  rw [h]; omega
theorem numL_lt (f : UInt8 → UInt8) : ∀ (k : Nat) (first : Bool) (m : Nat) (s : List UInt8) (n : Nat) (r : List UInt8), numL f k first m s = .ok (n, r) → n < (m + 1) * 256 ^ k
  | k, first, m, s, n, r, h => by
    obtain ⟨xs, rfl, h2, rfl, _⟩ := numL_of f k first m s n r h
    rw [fold_at, List.length_map, h2]
    have := fold_lt (xs.map f)
    rw [List.length_map, h2] at this
    rw [Nat.add_mul]; omega
/-- What a read number leaves: a panic, or the number, and the rest of the key. -/
def After (b : Nat) (w w' : World) (r : Ending) (q : Except Int (Value × List UInt8)) : Prop :=
  Kept w.heap.size (fun k => k = b) w w' ∧ match q with
    | .error e => r = .panicked (pan e)
    | .ok (v, s) => r = .returned v ∧ Box w' b [.string (tx s)]
def numV (f : UInt8 → UInt8) (t : Int) (k : Nat) (s : List UInt8) : Except Int (Value × List UInt8) :=
  match numD f k s with
  | .error e => .error e
  | .ok (m, r) => .ok (.int .i64 (if t = 0 then (m : Int) else -(m : Int) - 1), r)
def numE (t : Int) : Except Int (Nat × List UInt8) → Except Int (Value × List UInt8)
    | .error e => .error e
    | .ok (m, r) => if 9223372036854775808 ≤ m then .error 1 else .ok (.int .i64 (if t = 0 then (m : Int) else -(m : Int) - 1), r)
theorem numV_of {f : UInt8 → UInt8} (t : Int) {k : Nat} {s : List UInt8} (hs : ¬ s.length < k) {D : Except Int (Nat × List UInt8)} (hD : numL f k true 0 s = D) : numV f t k s = numE t D := by
  unfold numV numD numE
  rw [if_neg hs, hD]
  cases D with
  | error e => rfl
  | ok q =>
    obtain ⟨m, r⟩ := q
    dsimp only
    by_cases h : 9223372036854775808 ≤ m
    · rw [if_pos h, if_pos h]
    · rw [if_neg h, if_neg h]
set_option maxHeartbeats 2000000 in
set_option maxRecDepth 100000 in
theorem readNum_any (b : Nat) (f : UInt8 → UInt8) (t : Int) (k : Nat) (s : List UInt8) (w : World) (HB : Box w b [.string (tx s)]) (hx : Hid (∀ c : UInt8, bits .xor .u8 (c.toNat : Int) t = ((f c).toNat : Int))) (hk : k ≤ 8) :
    Calls Try.prog 32 #[.pointer (some ⟨b, 0, none⟩), .int .i64 k, .int .u8 t] w fun r w' => After b w w' r (numV f t k s) := by
  by_cases hs : s.length < k
  · have e : numV f t k s = .error 8 := by unfold numV numD; rw [if_pos hs]
    rw [e]
    have hs' : ¬ ((k : Int) ≤ (s.length : Int)) := by omega
    have hsz := tx_size s
    have c0 := HB.c 0 _ rfl
    go_enter Try.func32, Try.ntmps32
    go_wp2_with (go_at_call 24; (with_reducible refine (need_false _ _).mono ?_); rintro e w' ⟨rfl, rfl⟩)
    exact ⟨rfl, Kept.refl _ _ _, rfl⟩
  · have hs' : ((k : Int) ≤ (s.length : Int)) := by omega
    have hsz := tx_size s
    have c0 := HB.c 0 _ rfl
    go_enter Try.func32, Try.ntmps32
    go_wp2_with (go_at_call 24; (with_reducible refine (need_true _ _).mono ?_); rintro e w' ⟨rfl, rfl⟩)
    generalize hD : numL f k true 0 s = D at *
    have HD := Lib.hid (numV_of t hs hD)
    have HL : Hid (∀ (n : Nat) (r : List UInt8), D = .ok (n, r) → n < 256 ^ k) := Lib.hid (fun n r h => by
      have := numL_lt f k true 0 s n r (by rw [hD, h]); simpa using this)
    have HW := Kept.refl w.heap.size (fun k => k = b) w
    go_loopw [7, 8, 9, 19] (fun m i c j wr => ∃ (n : Nat) (M : Nat) (r : List UInt8), n ≤ k ∧ j = .int .i64 n ∧ m = .int .u64 M ∧ k - n ≤ r.length ∧ M < 256 ^ n ∧ Hid (numL f (k - n) (n == 0) M r = D) ∧ Box wr b [.string (tx r)] ∧ Kept w.heap.size (fun k => k = b) w wr) (fun m i c j _ => k - (Lib.intOf j).toNat)
    case atStart => exact ⟨0, 0, s, Nat.zero_le _, rfl, rfl, by omega, by simp, Lib.hid (by simpa using hD), HB, Kept.refl _ _ _⟩
    case round =>
      obtain ⟨n, M, r, hn, rfl, rfl, hr, hM, HN, HR, HK⟩ := hrel
      by_cases hnk : n < k
      · obtain ⟨q, hq⟩ : ∃ q, k - n = q + 1 := ⟨k - n - 1, by omega⟩
        cases r with
        | nil => exfalso; simp at hr; omega
        | cons c r =>
          have c0 := HR.c 0 _ rfl
          have f0 := HR.f 0 (by simp)
          have hxc := hx.out c
          have hfc := (f c).toNat_lt
          have hE : numL f (k - n) (n == 0) M (c :: r) = if (n == 0) = true ∧ f c = 0 then .error 1 else numL f q false (M * 256 + (f c).toNat) r := by rw [hq]; rfl
          rw [HN.out] at hE
          have HN2 := Lib.hid hE
          clear HN hE
          generalize f c = d at *
          by_cases hn0 : n = 0
          · subst hn0
            obtain rfl : M = 0 := by simp at hM; exact hM
            by_cases hd : d = 0
            · subst hd
              go_wp2_with (first | (go_at_call 29; (with_reducible refine (octet_cons _ _ _ _ c0 f0).mono ?_); rintro e w' ⟨rfl, rfl⟩) | (go_at_call 24; (with_reducible refine (need_false _ _).mono ?_); rintro e w' ⟨rfl, rfl⟩))
              refine ⟨rfl, HK.set _ _ (.inr rfl), ?_⟩
              have e := HN2.out
              rw [if_pos (by simp)] at e
              rw [HD.out, e]
              exact rfl
            · have hd' : 0 < d.toNat := by
                rcases Nat.eq_zero_or_pos d.toNat with h | h
                · exact absurd (UInt8.toNat_inj.1 (by simpa using h)) hd
                · exact h
              have HN3 : Hid (numL f (k - (0 + 1)) ((0 + 1) == 0) (0 * 256 + d.toNat) r = D) := by
                have e := HN2.out
                rw [if_neg (by simp [hd])] at e
                refine Lib.hid ?_
                rw [e, show k - (0 + 1) = q by omega]
                simp
              have hM2 : 0 * 256 + d.toNat < 256 ^ (0 + 1) := by rw [Nat.pow_succ]; omega
              have hM3 : 0 < 72057594037927936 := Nat.lt_of_lt_of_le hM (by
                have := Nat.pow_le_pow_right (n := 256) (by omega) (show 0 ≤ 7 by omega)
                exact Nat.le_trans this (by decide))
              have hor := or_oct 0 d hM3
              have hsh : (((0 : Nat) : Int) * 256) % 18446744073709551616 = ((0 : Nat) : Int) * 256 := by omega
              have HS := HR.set 0 (.string (tx r)) (by simp)
              have HK2 := HK.set ⟨b, 0, none⟩ (.string (tx r)) (.inr rfl)
              simp only [List.set_cons_zero] at HS
              clear HN2 hM HR HK
              go_wp2_with (first | (go_at_call 29; (with_reducible refine (octet_cons _ _ _ _ c0 f0).mono ?_); rintro e w' ⟨rfl, rfl⟩) | (go_at_call 24; (with_reducible refine (need_true _ _).mono ?_); rintro e w' ⟨rfl, rfl⟩))
              go_roundw
              case rel =>
                exact ⟨0 + 1, 0 * 256 + d.toNat, r, by omega, by go_num, congrArg (Value.int IntKind.u64) hor, by simp at hr; omega, hM2, HN3, HS, HK2⟩
              case measure => simp [Lib.intOf]; omega

          · have hnp : 0 < n := by omega
            have HN3 : Hid (numL f (k - (n + 1)) ((n + 1) == 0) (M * 256 + d.toNat) r = D) := by
              have e := HN2.out
              rw [if_neg (by simp [hn0])] at e
              refine Lib.hid ?_
              rw [e, show k - (n + 1) = q by omega]
              simp
            have hM2 : M * 256 + d.toNat < 256 ^ (n + 1) := by rw [Nat.pow_succ]; omega
            have hM3 : M < 72057594037927936 := Nat.lt_of_lt_of_le hM (by
              have := Nat.pow_le_pow_right (n := 256) (by omega) (show n ≤ 7 by omega)
              exact Nat.le_trans this (by decide))
            have hor := or_oct M d hM3
            have hsh : ((M : Int) * 256) % 18446744073709551616 = (M : Int) * 256 := by omega
            have HS := HR.set 0 (.string (tx r)) (by simp)
            have HK2 := HK.set ⟨b, 0, none⟩ (.string (tx r)) (.inr rfl)
            simp only [List.set_cons_zero] at HS
            clear HN2 hM HR HK
            go_wp2_with (first | (go_at_call 29; (with_reducible refine (octet_cons _ _ _ _ c0 f0).mono ?_); rintro e w' ⟨rfl, rfl⟩) | (go_at_call 24; (with_reducible refine (need_true _ _).mono ?_); rintro e w' ⟨rfl, rfl⟩))
            go_roundw
            case rel =>
              exact ⟨n + 1, M * 256 + d.toNat, r, by omega, by go_num, rfl, by simp at hr; omega, hM2, HN3, HS, HK2⟩
            case measure => simp [Lib.intOf]; omega

      · obtain rfl : n = k := by omega
        have e := HN.out
        rw [Nat.sub_self] at e
        obtain rfl : D = .ok (M, r) := by rw [← e]; rfl
        have hv := HD.out
        have hM8 : M < 18446744073709551616 := Nat.lt_of_lt_of_le hM (by
          have := Nat.pow_le_pow_right (n := 256) (by omega) hk
          exact Nat.le_trans this (by decide))
        have hM9 : ((M : Int)) < 18446744073709551616 := by omega
        clear HN e hD HL hx HD hM
        by_cases hb : 9223372036854775808 ≤ M
        · have hb' : ((M : Int) / 9223372036854775808 == 0) = false := by rw [beq_eq_false_iff_ne]; omega
          have hv2 : numV f t n s = .error 1 := hv.trans (if_pos hb)
          go_wp2_with (go_at_call 24; (with_reducible refine (need_false _ _).mono ?_); rintro e w' ⟨rfl, rfl⟩)
          refine ⟨rfl, HK, ?_⟩
          rw [hv2]
        · have hb' : (M : Int) / 9223372036854775808 = 0 := by omega
          have HM := Lib.hid (show wrap64 (bits .xor .u64 IntKind.u64.max (M : Int)) = -(M : Int) - 1 by rw [not_u64 (M : Int) (by omega) hM9]; unfold wrap64; omega)
          have hw2 : wrap64 (M : Int) = M := by unfold wrap64; omega
          by_cases ht : t = 0
          · have hv2 : numV f t n s = .ok (.int .i64 M, r) := by
              have e := hv.trans (if_neg hb)
              rw [if_pos ht] at e; exact e
            have HV := Lib.hid hv2
            clear hv hv2
            go_wp2_with (go_at_call 24; (with_reducible refine (need_true _ _).mono ?_); rintro e w' ⟨rfl, rfl⟩)
            all_goals (go_ret; refine ⟨HK, ?_⟩; rw [HV.out]; exact ⟨rfl, HR⟩)
          · have hv2 : numV f t n s = .ok (.int .i64 (-(M : Int) - 1), r) := by
              have e := hv.trans (if_neg hb)
              rw [if_neg ht] at e; exact e
            have HV := Lib.hid hv2
            have hne : (t != 0) = true := by simpa using ht
            go_wp2_with fail
            refine (need_true _ _).mono ?_
            rintro e w' ⟨rfl, rfl⟩
            clear hv hv2 hM8 hM9 hb hb' hw2
            go_wp2
            all_goals (go_ret; refine ⟨HK, ?_⟩; rw [HV.out]; exact ⟨congrArg (fun z => Ending.returned (Value.int IntKind.i64 z)) HM.out, HR⟩)
end Go.Proofs.Ytinkmcbcfdlnjaa
