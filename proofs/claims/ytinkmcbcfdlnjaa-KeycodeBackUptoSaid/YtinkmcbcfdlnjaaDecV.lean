/- Package keycode: a value is read. -/
import Derived.Test.YtinkmcbcfdlnjaaDecT
namespace Go.Proofs.Ytinkmcbcfdlnjaa
open Go.RowKit
set_option linter.unusedVariables false
set_option linter.unusedSimpArgs false
theorem Kept.mono' {M : Nat} {B : Nat → Prop} {w w' w2 : World} (h : Kept w2.heap.size B w w') (hs : w2.heap.size = M + 1) : Kept M B w w' := ⟨h.os, h.tape, h.output, h.size, fun k hk hb => h.block k (by omega) hb⟩
def aggV (v : V) : Value := .agg #[.int .i64 v.k, .int .i64 v.n, .string v.s]
set_option maxHeartbeats 2000000 in
set_option maxRecDepth 100000 in
theorem bool_false (w : World) : Calls Try.prog 30 #[.bool false] w fun e w' => e = .returned (.agg #[.int .i64 2, .int .i64 0, .string nos]) ∧ Below w.heap.size w w' := by
  go_enter Try.func30, Try.ntmps30
  go_wp2
  refine bodyPost_ret (by simp [results, Try.results30, go_sem]; rfl) rfl ?_
  exact ⟨rfl, (by (repeat (first | (with_reducible exact Below.refl _ _) | apply below_alloc _ (Nat.le_refl _) | refine below_set ?_ (by first | exact Nat.le_refl _ | omega) | apply below_drewN | refine below_step ?_ HB)))⟩
set_option maxHeartbeats 2000000 in
set_option maxRecDepth 100000 in
theorem bool_true (w : World) : Calls Try.prog 30 #[.bool true] w fun e w' => e = .returned (.agg #[.int .i64 2, .int .i64 1, .string nos]) ∧ Below w.heap.size w w' := by
  go_enter Try.func30, Try.ntmps30
  go_wp2
  refine bodyPost_ret (by simp [results, Try.results30, go_sem]; rfl) rfl ?_
  exact ⟨rfl, (by (repeat (first | (with_reducible exact Below.refl _ _) | apply below_alloc _ (Nat.le_refl _) | refine below_set ?_ (by first | exact Nat.le_refl _ | omega) | apply below_drewN | refine below_step ?_ HB)))⟩
def valE : Except Int (V × List UInt8) → Except Int (Value × List UInt8)
  | .error e => .error e
  | .ok (v, r) => .ok (aggV v, r)
def valV (s : List UInt8) : Except Int (Value × List UInt8) := valE (valD s)
section
variable {c : UInt8} {s : List UInt8}
theorem valV_4 (h : c.toNat = 4) : valV (c :: s) = .ok (aggV ⟨0, 0, nos⟩, s) := by
  unfold valV valD; dsimp only
  rw [if_pos h]; rfl
theorem valV_80 (h : c.toNat = 80) : valV (c :: s) = .ok (aggV ⟨2, 0, nos⟩, s) := by
  unfold valV valD; dsimp only
  rw [if_neg (by omega), if_pos (.inl h), h]; rfl
theorem valV_81 (h : c.toNat = 81) : valV (c :: s) = .ok (aggV ⟨2, 1, nos⟩, s) := by
  unfold valV valD; dsimp only
  rw [if_neg (by omega), if_pos (.inr h), h]; rfl
theorem valV_96e (h : c.toNat = 96) {e : Int} (hD : textD s [] = .error e) : valV (c :: s) = .error e ∧ textV s = .error e := by
  unfold valV valD textV; dsimp only
  rw [if_neg (by omega), if_neg (by omega), if_pos h, hD]; exact ⟨rfl, rfl⟩
theorem valV_96o (h : c.toNat = 96) {t r : List UInt8} (hD : textD s [] = .ok (t, r)) : valV (c :: s) = .ok (aggV ⟨3, 0, tx t⟩, r) ∧ textV s = .ok (.string (tx t), r) := by
  unfold valV valD textV; dsimp only
  rw [if_neg (by omega), if_neg (by omega), if_pos h, hD]; exact ⟨rfl, rfl⟩
theorem valV_64e (h : 64 ≤ c.toNat ∧ c.toNat ≤ 72) {e : Int} (hD : numD id (c.toNat - 64) s = .error e) : valV (c :: s) = .error e ∧ numV id 0 (c.toNat - 64) s = .error e := by
  unfold valV valD numV; dsimp only
  rw [if_neg (by omega), if_neg (by omega), if_neg (by omega), if_pos h, hD]; exact ⟨rfl, rfl⟩
theorem valV_64o (h : 64 ≤ c.toNat ∧ c.toNat ≤ 72) {m : Nat} {r : List UInt8} (hD : numD id (c.toNat - 64) s = .ok (m, r)) : valV (c :: s) = .ok (aggV ⟨1, m, nos⟩, r) ∧ numV id 0 (c.toNat - 64) s = .ok (.int .i64 m, r) := by
  unfold valV valD numV; dsimp only
  rw [if_neg (by omega), if_neg (by omega), if_neg (by omega), if_pos h, hD]; exact ⟨rfl, rfl⟩
theorem valV_55e (h : c.toNat < 64 ∧ 55 ≤ c.toNat) {e : Int} (hD : numD fl (63 - c.toNat) s = .error e) : valV (c :: s) = .error e ∧ numV fl 255 (63 - c.toNat) s = .error e := by
  unfold valV valD numV; dsimp only
  rw [if_neg (by omega), if_neg (by omega), if_neg (by omega), if_neg (by omega), if_pos h, hD]; exact ⟨rfl, rfl⟩
theorem valV_55o (h : c.toNat < 64 ∧ 55 ≤ c.toNat) {m : Nat} {r : List UInt8} (hD : numD fl (63 - c.toNat) s = .ok (m, r)) : valV (c :: s) = .ok (aggV ⟨1, -(m : Int) - 1, nos⟩, r) ∧ numV fl 255 (63 - c.toNat) s = .ok (.int .i64 (-(m : Int) - 1), r) := by
  unfold valV valD numV; dsimp only
  rw [if_neg (by omega), if_neg (by omega), if_neg (by omega), if_neg (by omega), if_pos h, hD]; exact ⟨rfl, rfl⟩
theorem valV_22 (h1 : c.toNat ≠ 4) (h2 : ¬ (c.toNat = 80 ∨ c.toNat = 81)) (h3 : c.toNat ≠ 96) (h4 : ¬ (64 ≤ c.toNat ∧ c.toNat ≤ 72)) (h5 : ¬ (c.toNat < 64 ∧ 55 ≤ c.toNat)) : valV (c :: s) = .error 22 := by
  unfold valV valD; dsimp only
  rw [if_neg h1, if_neg h2, if_neg h3, if_neg h4, if_neg h5]; rfl
end
set_option maxHeartbeats 4000000 in
set_option maxRecDepth 100000 in
theorem readVal_any (b : Nat) (s : List UInt8) (w : World) (HB : Box w b [.string (tx s)]) (hlen : s.length ≤ 70368744177664) :
    Calls Try.prog 23 #[.pointer (some ⟨b, 0, none⟩)] w fun r w' => After b w w' r (valV s) := by
  have hbl := HB.lt
  have hbn : ¬ w.heap.size = b := by omega
  cases s with
  | nil =>
    have HB1 := HB.alloc (.cells #[.int .i64 0, .int .i64 0, .string ⟨#[]⟩] 31)
    go_enter Try.func23, Try.ntmps23
    go_wp2_with (go_at_call 29; (with_reducible refine (octet_nil _ _ (HB1.c 0 _ rfl)).mono ?_); rintro e w' ⟨rfl, rfl⟩)
    exact ⟨rfl, (Kept.refl _ _ _).alloc (Nat.le_refl _) _, rfl⟩
  | cons c s =>
    have HB1 := HB.alloc (.cells #[.int .i64 0, .int .i64 0, .string ⟨#[]⟩] 31)
    have HO1 := Box.new w #[.int .i64 0, .int .i64 0, .string ⟨#[]⟩] 31
    have hs1 : (w.alloc (.cells #[.int .i64 0, .int .i64 0, .string ⟨#[]⟩] 31)).heap.size = w.heap.size + 1 := by simp
    have HK1 := (Kept.refl w.heap.size (fun k => k = b) w).alloc (Nat.le_refl _) (.cells #[.int .i64 0, .int .i64 0, .string ⟨#[]⟩] 31)
    generalize hW : w.alloc (.cells #[.int .i64 0, .int .i64 0, .string ⟨#[]⟩] 31) = w1 at *
    have c0 := HB1.c 0 _ rfl
    have f0 := HB1.f 0 (by simp)
    have HB2 := HB1.set 0 (.string (tx s)) (by simp)
    simp only [List.set_cons_zero] at HB2
    have HO2 := HO1.other ⟨b, 0, none⟩ (.string (tx s)) (Ne.symm hbn)
    have HK2 := HK1.set ⟨b, 0, none⟩ (.string (tx s)) (.inr rfl)
    have hs2 : (w1.setCell ⟨b, 0, none⟩ (.string (tx s))).heap.size = w.heap.size + 1 := by simpa using hs1
    have HE : Hid (w.alloc (.cells #[.int .i64 0, .int .i64 0, .string ⟨#[]⟩] 31) = w1) := Lib.hid hW
    have hcn := c.toNat_lt
    have hl2 : s.length ≤ 70368744177664 := by simp at hlen; omega
    clear HB1 HO1 HK1 hW HB
    go_enter Try.func23, Try.ntmps23
    go_wp2_with fail
    rw [HE.out]
    refine (octet_cons _ _ _ _ c0 f0).mono ?_
    rintro e w' ⟨rfl, rfl⟩
    generalize w1.setCell ⟨b, 0, none⟩ (.string (tx s)) = w2 at *
    clear c0 f0 HE
    by_cases q4 : c.toNat = 4
    · have HV := Lib.hid (valV_4 (s := s) q4)
      have k4 : (c.toNat : Int) = 4 := by omega
      have cB0 := HO2.c 0 _ rfl
      have cB1 := HO2.c 1 _ rfl
      have cB2 := HO2.c 2 _ rfl
      have fB0 := HO2.f 0 (by simp)
      have fB1 := HO2.f 1 (by simp)
      have fB2 := HO2.f 2 (by simp)
      go_wp2
      refine bodyPost_ret (by simp [results, Try.results23, cB0, cB1, cB2, hbn, go_sem]; rfl) rfl ?_
      exact ⟨((HK2.set _ _ (.inl (Nat.le_refl _))).set _ _ (.inl (Nat.le_refl _))).set _ _ (.inl (Nat.le_refl _)), by rw [HV.out]; exact ⟨rfl, ((HB2.other _ _ hbn).other _ _ hbn).other _ _ hbn⟩⟩
    have k4 : ¬ (c.toNat : Int) = 4 := by omega
    by_cases q80 : c.toNat = 80
    · have HV := Lib.hid (valV_80 (s := s) q80)
      have k80 : (c.toNat : Int) = 80 := by omega
      go_wp2_with (go_at_call 30; (with_reducible refine (bool_false _).mono ?_); rintro e w3 ⟨rfl, h3⟩; have HO3 := HO2.step h3; have HB3 := HB2.step h3; have HK3 := HK2.trans (Kept.of_below h3 (by rw [hs2]; omega)); have cB0 := HO3.c 0 _ rfl; have cB1 := HO3.c 1 _ rfl; have cB2 := HO3.c 2 _ rfl; have fB0 := HO3.f 0 (by simp); have fB1 := HO3.f 1 (by simp); have fB2 := HO3.f 2 (by simp))
      refine bodyPost_ret (by simp [results, Try.results23, cB0, cB1, cB2, hbn, go_sem]; rfl) rfl ?_
      exact ⟨((HK3.set _ _ (.inl (Nat.le_refl _))).set _ _ (.inl (Nat.le_refl _))).set _ _ (.inl (Nat.le_refl _)), by rw [HV.out]; exact ⟨rfl, ((HB3.other _ _ hbn).other _ _ hbn).other _ _ hbn⟩⟩
    have k80 : ((c.toNat : Int) == 80) = false := by rw [beq_eq_false_iff_ne]; omega
    by_cases q81 : c.toNat = 81
    · have HV := Lib.hid (valV_81 (s := s) q81)
      have k81 : (c.toNat : Int) = 81 := by omega
      go_wp2_with (go_at_call 30; (with_reducible refine (bool_true _).mono ?_); rintro e w3 ⟨rfl, h3⟩; have HO3 := HO2.step h3; have HB3 := HB2.step h3; have HK3 := HK2.trans (Kept.of_below h3 (by rw [hs2]; omega)); have cB0 := HO3.c 0 _ rfl; have cB1 := HO3.c 1 _ rfl; have cB2 := HO3.c 2 _ rfl; have fB0 := HO3.f 0 (by simp); have fB1 := HO3.f 1 (by simp); have fB2 := HO3.f 2 (by simp))
      refine bodyPost_ret (by simp [results, Try.results23, cB0, cB1, cB2, hbn, go_sem]; rfl) rfl ?_
      exact ⟨((HK3.set _ _ (.inl (Nat.le_refl _))).set _ _ (.inl (Nat.le_refl _))).set _ _ (.inl (Nat.le_refl _)), by rw [HV.out]; exact ⟨rfl, ((HB3.other _ _ hbn).other _ _ hbn).other _ _ hbn⟩⟩
    have k81 : ((c.toNat : Int) == 81) = false := by rw [beq_eq_false_iff_ne]; omega
    by_cases q96 : c.toNat = 96
    · have k96 : (c.toNat : Int) = 96 := by omega
      have hc := readText_any b s w2 HB2 hl2
      cases hD : textD s [] with
      | error e =>
        obtain ⟨v1, v2⟩ := valV_96e (s := s) q96 hD
        have HV := Lib.hid v1
        rw [v2] at hc
        clear v1 v2 hD
        go_wp2_with fail
        refine hc.mono ?_
        rintro e w3 ⟨hk3, hm3⟩
        subst hm3
        go_wp2
        exact ⟨rfl, HK2.trans (hk3.mono' hs2), HV.out ▸ rfl⟩
      | ok q =>
        obtain ⟨t, r⟩ := q
        obtain ⟨v1, v2⟩ := valV_96o (s := s) q96 hD
        have HV := Lib.hid v1
        rw [v2] at hc
        clear v1 v2 hD
        go_wp2_with fail
        refine hc.mono ?_
        rintro e w3 ⟨hk3, hm3⟩
        obtain ⟨rfl, HB3⟩ := hm3
        have HO3 := HO2.kept hk3 (by rw [hs2]; omega) hbn
        have HK3 := HK2.trans (hk3.mono' hs2)
        have cB0 := HO3.c 0 _ rfl
        have cB1 := HO3.c 1 _ rfl
        have cB2 := HO3.c 2 _ rfl
        have fB0 := HO3.f 0 (by simp)
        have fB1 := HO3.f 1 (by simp)
        have fB2 := HO3.f 2 (by simp)
        go_wp2
        refine bodyPost_ret (by simp [results, Try.results23, cB0, cB1, cB2, hbn, go_sem]; rfl) rfl ?_
        exact ⟨((HK3.set _ _ (.inl (Nat.le_refl _))).set _ _ (.inl (Nat.le_refl _))).set _ _ (.inl (Nat.le_refl _)), by rw [HV.out]; exact ⟨rfl, ((HB3.other _ _ hbn).other _ _ hbn).other _ _ hbn⟩⟩
    have k96 : ¬ (c.toNat : Int) = 96 := by omega
    by_cases q64 : 64 ≤ c.toNat ∧ c.toNat ≤ 72
    · have k64 : (64 : Int) ≤ (c.toNat : Int) := by omega
      have k72 : (c.toNat : Int) ≤ 72 := by omega
      have hk8 : c.toNat - 64 ≤ 8 := by omega
      have hc := readNum_any b id 0 (c.toNat - 64) s w2 HB2 (Lib.hid xor_id) hk8
      cases hD : numD id (c.toNat - 64) s with
      | error e =>
        obtain ⟨v1, v2⟩ := valV_64e (s := s) q64 hD
        have HV := Lib.hid v1
        rw [v2] at hc
        have ek : ((c.toNat - 64 : Nat) : Int) = (c.toNat : Int) - 64 := by omega
        rw [ek] at hc
        clear v1 v2 hD ek
        go_wp2_with fail
        refine hc.mono ?_
        rintro e w3 ⟨hk3, hm3⟩
        subst hm3
        go_wp2
        exact ⟨rfl, HK2.trans (hk3.mono' hs2), HV.out ▸ rfl⟩
      | ok q =>
        obtain ⟨m, r⟩ := q
        obtain ⟨v1, v2⟩ := valV_64o (s := s) q64 hD
        have HV := Lib.hid v1
        rw [v2] at hc
        have ek : ((c.toNat - 64 : Nat) : Int) = (c.toNat : Int) - 64 := by omega
        rw [ek] at hc
        clear v1 v2 hD ek
        go_wp2_with fail
        refine hc.mono ?_
        rintro e w3 ⟨hk3, hm3⟩
        obtain ⟨rfl, HB3⟩ := hm3
        have HO3 := HO2.kept hk3 (by rw [hs2]; omega) hbn
        have HK3 := HK2.trans (hk3.mono' hs2)
        have cB0 := HO3.c 0 _ rfl
        have cB1 := HO3.c 1 _ rfl
        have cB2 := HO3.c 2 _ rfl
        have fB0 := HO3.f 0 (by simp)
        have fB1 := HO3.f 1 (by simp)
        have fB2 := HO3.f 2 (by simp)
        go_wp2
        refine bodyPost_ret (by simp [results, Try.results23, cB0, cB1, cB2, hbn, go_sem]; rfl) rfl ?_
        exact ⟨((HK3.set _ _ (.inl (Nat.le_refl _))).set _ _ (.inl (Nat.le_refl _))).set _ _ (.inl (Nat.le_refl _)), by rw [HV.out]; exact ⟨rfl, ((HB3.other _ _ hbn).other _ _ hbn).other _ _ hbn⟩⟩
    by_cases q55 : c.toNat < 64 ∧ 55 ≤ c.toNat
    · have k64 : (c.toNat : Int) < 64 := by omega
      have k55 : (55 : Int) ≤ (c.toNat : Int) := by omega
      have hk8 : 63 - c.toNat ≤ 8 := by omega
      have hc := readNum_any b fl 255 (63 - c.toNat) s w2 HB2 (Lib.hid xor_fl) hk8
      cases hD : numD fl (63 - c.toNat) s with
      | error e =>
        obtain ⟨v1, v2⟩ := valV_55e (s := s) q55 hD
        have HV := Lib.hid v1
        rw [v2] at hc
        have ek : ((63 - c.toNat : Nat) : Int) = 63 - (c.toNat : Int) := by omega
        rw [ek] at hc
        clear v1 v2 hD ek
        go_wp2_with fail
        refine hc.mono ?_
        rintro e w3 ⟨hk3, hm3⟩
        subst hm3
        go_wp2
        exact ⟨rfl, HK2.trans (hk3.mono' hs2), HV.out ▸ rfl⟩
      | ok q =>
        obtain ⟨m, r⟩ := q
        obtain ⟨v1, v2⟩ := valV_55o (s := s) q55 hD
        have HV := Lib.hid v1
        rw [v2] at hc
        have ek : ((63 - c.toNat : Nat) : Int) = 63 - (c.toNat : Int) := by omega
        rw [ek] at hc
        clear v1 v2 hD ek
        go_wp2_with fail
        refine hc.mono ?_
        rintro e w3 ⟨hk3, hm3⟩
        obtain ⟨rfl, HB3⟩ := hm3
        have HO3 := HO2.kept hk3 (by rw [hs2]; omega) hbn
        have HK3 := HK2.trans (hk3.mono' hs2)
        have cB0 := HO3.c 0 _ rfl
        have cB1 := HO3.c 1 _ rfl
        have cB2 := HO3.c 2 _ rfl
        have fB0 := HO3.f 0 (by simp)
        have fB1 := HO3.f 1 (by simp)
        have fB2 := HO3.f 2 (by simp)
        go_wp2
        refine bodyPost_ret (by simp [results, Try.results23, cB0, cB1, cB2, hbn, go_sem]; rfl) rfl ?_
        exact ⟨((HK3.set _ _ (.inl (Nat.le_refl _))).set _ _ (.inl (Nat.le_refl _))).set _ _ (.inl (Nat.le_refl _)), by rw [HV.out]; exact ⟨rfl, ((HB3.other _ _ hbn).other _ _ hbn).other _ _ hbn⟩⟩
    have HV := Lib.hid (valV_22 (s := s) q4 (by omega) q96 q64 q55)
    have HK := HK2
    rcases Nat.lt_or_ge c.toNat 55 with g | g
    · have g1 : ¬ (64 : Int) ≤ (c.toNat : Int) := by omega
      have g2 : (c.toNat : Int) < 64 := by omega
      have g3 : ¬ (55 : Int) ≤ (c.toNat : Int) := by omega
      go_wp2
      exact ⟨rfl, HK2, HV.out ▸ rfl⟩
    · have g1 : (64 : Int) ≤ (c.toNat : Int) := by omega
      have g2 : ¬ (c.toNat : Int) < 64 := by omega
      have g3 : ¬ (c.toNat : Int) ≤ 72 := by omega
      go_wp2
      exact ⟨rfl, HK2, HV.out ▸ rfl⟩
end Go.Proofs.Ytinkmcbcfdlnjaa
