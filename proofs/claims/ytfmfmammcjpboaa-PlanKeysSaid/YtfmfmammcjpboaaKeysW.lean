/- plan: Keys. -/
import Derived.Test.YtfmfmammcjpboaaEndW
namespace Go.Proofs.Ytfmfmammcjpboaa
open Go.RowKit
set_option linter.unusedVariables false
set_option linter.unusedSimpArgs false
set_option maxHeartbeats 4000000 in
set_option maxRecDepth 100000 in
theorem keys_any (p : Pl) (w : World) (hl : InR p.lo.v.n) (hh : InR p.hi.v.n) : Calls Try.prog 20 #[.agg #[.int .i64 p.ix, .bool p.lo.op, .int .i64 p.lo.v.k, .int .i64 p.lo.v.n, .string p.lo.v.s, .bool p.lo.inn, .bool p.hi.op, .int .i64 p.hi.v.k, .int .i64 p.hi.v.n, .string p.hi.v.s, .bool p.hi.inn, .bool p.emp]] w fun e w' => e = .returned (.tuple #[.string (tx (keysP p).1), .string (tx (keysP p).2.1), .int .i64 (keysP p).2.2]) ∧ Below w.heap.size w w' := by
  have t5 : (⟨#[5]⟩ : ByteArray).toList = [5] := by rw [ByteArray.toList_eq]
  have t0 : (⟨#[]⟩ : ByteArray).toList = [] := by rw [ByteArray.toList_eq]
  obtain ⟨ix, lo, hi, em⟩ := p
  dsimp only at hl hh ⊢
  have hlo := fun W => end_any lo ⟨#[5]⟩ (!lo.inn) W hl
  have hhi := fun W => end_any hi ⟨#[]⟩ hi.inn W hh
  rw [t5] at hlo
  rw [t0] at hhi
  clear t5 t0
  have ht0 : tx [] = ⟨#[]⟩ := rfl
  cases em
  · have hv : keysP ⟨ix, lo, hi, false⟩ = if (endS lo [5] (!lo.inn)).2 ≠ 0 then ([], [], (endS lo [5] (!lo.inn)).2) else if (endS hi [] hi.inn).2 ≠ 0 then ([], [], (endS hi [] hi.inn).2) else ((endS lo [5] (!lo.inn)).1, (endS hi [] hi.inn).1, 0) := rfl
    rw [hv]
    clear hv
    generalize endS lo [5] (!lo.inn) = k1 at *
    generalize endS hi [] hi.inn = k2 at *
    obtain ⟨s1, e1⟩ := k1
    obtain ⟨s2, e2⟩ := k2
    dsimp only at hlo hhi ⊢
    have HP := Lib.hid (Box.new w #[.int .i64 ix, .bool lo.op, .int .i64 lo.v.k, .int .i64 lo.v.n, .string lo.v.s, .bool lo.inn, .bool hi.op, .int .i64 hi.v.k, .int .i64 hi.v.n, .string hi.v.s, .bool hi.inn, .bool false] 32)
    have HF : Hid (Below w.heap.size w (w.alloc (.cells #[.int .i64 ix, .bool lo.op, .int .i64 lo.v.k, .int .i64 lo.v.n, .string lo.v.s, .bool lo.inn, .bool hi.op, .int .i64 hi.v.k, .int .i64 hi.v.n, .string hi.v.s, .bool hi.inn, .bool false] 32))) := Lib.hid (by (repeat (first | (with_reducible exact Below.refl _ _) | apply below_alloc _ (Nat.le_refl _) | refine below_set ?_ (by first | exact Nat.le_refl _ | omega) | apply below_drewN | refine below_step ?_ HB)))
    by_cases q1 : e1 = 0
    · subst q1
      rw [if_neg (by simp)]
      by_cases q2 : e2 = 0
      · subst q2
        rw [if_neg (by simp)]
        dsimp only
        generalize tx s2 = t2 at *
        generalize tx s1 = t1 at *
        go_enter Try.func20, Try.ntmps20
        have cHP0 := HP.out.c 0 _ rfl; have fHP0 := HP.out.f 0 (by simp); have cHP1 := HP.out.c 1 _ rfl; have fHP1 := HP.out.f 1 (by simp); have cHP2 := HP.out.c 2 _ rfl; have fHP2 := HP.out.f 2 (by simp); have cHP3 := HP.out.c 3 _ rfl; have fHP3 := HP.out.f 3 (by simp); have cHP4 := HP.out.c 4 _ rfl; have fHP4 := HP.out.f 4 (by simp); have cHP5 := HP.out.c 5 _ rfl; have fHP5 := HP.out.f 5 (by simp); have cHP6 := HP.out.c 6 _ rfl; have fHP6 := HP.out.f 6 (by simp); have cHP7 := HP.out.c 7 _ rfl; have fHP7 := HP.out.f 7 (by simp); have cHP8 := HP.out.c 8 _ rfl; have fHP8 := HP.out.f 8 (by simp); have cHP9 := HP.out.c 9 _ rfl; have fHP9 := HP.out.f 9 (by simp); have cHP10 := HP.out.c 10 _ rfl; have fHP10 := HP.out.f 10 (by simp); have cHP11 := HP.out.c 11 _ rfl; have fHP11 := HP.out.f 11 (by simp); have lHP := HP.out.lt
        go_wp2_with fail
        clear cHP0 fHP0 cHP1 fHP1 cHP2 fHP2 cHP3 fHP3 cHP4 fHP4 cHP5 fHP5 cHP6 fHP6 cHP7 fHP7 cHP8 fHP8 cHP9 fHP9 cHP10 fHP10 cHP11 fHP11 lHP
        generalize (w.alloc (.cells #[.int .i64 ix, .bool lo.op, .int .i64 lo.v.k, .int .i64 lo.v.n, .string lo.v.s, .bool lo.inn, .bool hi.op, .int .i64 hi.v.k, .int .i64 hi.v.n, .string hi.v.s, .bool hi.inn, .bool false] 32)) = w1 at *
        refine (hlo w1).mono ?_; rintro e w2 ⟨rfl, h⟩
        replace HP := Lib.hid (HP.out.below h HP.out.lt); replace HF := Lib.hid (below_step' HF.out h)
        clear h hlo
        have cHP0 := HP.out.c 0 _ rfl; have fHP0 := HP.out.f 0 (by simp); have cHP1 := HP.out.c 1 _ rfl; have fHP1 := HP.out.f 1 (by simp); have cHP2 := HP.out.c 2 _ rfl; have fHP2 := HP.out.f 2 (by simp); have cHP3 := HP.out.c 3 _ rfl; have fHP3 := HP.out.f 3 (by simp); have cHP4 := HP.out.c 4 _ rfl; have fHP4 := HP.out.f 4 (by simp); have cHP5 := HP.out.c 5 _ rfl; have fHP5 := HP.out.f 5 (by simp); have cHP6 := HP.out.c 6 _ rfl; have fHP6 := HP.out.f 6 (by simp); have cHP7 := HP.out.c 7 _ rfl; have fHP7 := HP.out.f 7 (by simp); have cHP8 := HP.out.c 8 _ rfl; have fHP8 := HP.out.f 8 (by simp); have cHP9 := HP.out.c 9 _ rfl; have fHP9 := HP.out.f 9 (by simp); have cHP10 := HP.out.c 10 _ rfl; have fHP10 := HP.out.f 10 (by simp); have cHP11 := HP.out.c 11 _ rfl; have fHP11 := HP.out.f 11 (by simp); have lHP := HP.out.lt
        go_wp2_with fail
        clear cHP0 fHP0 cHP1 fHP1 cHP2 fHP2 cHP3 fHP3 cHP4 fHP4 cHP5 fHP5 cHP6 fHP6 cHP7 fHP7 cHP8 fHP8 cHP9 fHP9 cHP10 fHP10 cHP11 fHP11 lHP
        refine (hhi w2).mono ?_; rintro e w3 ⟨rfl, h⟩
        replace HP := Lib.hid (HP.out.below h HP.out.lt); replace HF := Lib.hid (below_step' HF.out h)
        clear h hhi
        go_wp2
        go_ret3
        exact ⟨rfl, HF.out⟩
      · rw [if_pos q2]
        dsimp only
        rw [ht0]
        generalize tx s2 = t2 at *
        generalize tx s1 = t1 at *
        go_enter Try.func20, Try.ntmps20
        have cHP0 := HP.out.c 0 _ rfl; have fHP0 := HP.out.f 0 (by simp); have cHP1 := HP.out.c 1 _ rfl; have fHP1 := HP.out.f 1 (by simp); have cHP2 := HP.out.c 2 _ rfl; have fHP2 := HP.out.f 2 (by simp); have cHP3 := HP.out.c 3 _ rfl; have fHP3 := HP.out.f 3 (by simp); have cHP4 := HP.out.c 4 _ rfl; have fHP4 := HP.out.f 4 (by simp); have cHP5 := HP.out.c 5 _ rfl; have fHP5 := HP.out.f 5 (by simp); have cHP6 := HP.out.c 6 _ rfl; have fHP6 := HP.out.f 6 (by simp); have cHP7 := HP.out.c 7 _ rfl; have fHP7 := HP.out.f 7 (by simp); have cHP8 := HP.out.c 8 _ rfl; have fHP8 := HP.out.f 8 (by simp); have cHP9 := HP.out.c 9 _ rfl; have fHP9 := HP.out.f 9 (by simp); have cHP10 := HP.out.c 10 _ rfl; have fHP10 := HP.out.f 10 (by simp); have cHP11 := HP.out.c 11 _ rfl; have fHP11 := HP.out.f 11 (by simp); have lHP := HP.out.lt
        go_wp2_with fail
        clear cHP0 fHP0 cHP1 fHP1 cHP2 fHP2 cHP3 fHP3 cHP4 fHP4 cHP5 fHP5 cHP6 fHP6 cHP7 fHP7 cHP8 fHP8 cHP9 fHP9 cHP10 fHP10 cHP11 fHP11 lHP
        generalize (w.alloc (.cells #[.int .i64 ix, .bool lo.op, .int .i64 lo.v.k, .int .i64 lo.v.n, .string lo.v.s, .bool lo.inn, .bool hi.op, .int .i64 hi.v.k, .int .i64 hi.v.n, .string hi.v.s, .bool hi.inn, .bool false] 32)) = w1 at *
        refine (hlo w1).mono ?_; rintro e w2 ⟨rfl, h⟩
        replace HP := Lib.hid (HP.out.below h HP.out.lt); replace HF := Lib.hid (below_step' HF.out h)
        clear h hlo
        have cHP0 := HP.out.c 0 _ rfl; have fHP0 := HP.out.f 0 (by simp); have cHP1 := HP.out.c 1 _ rfl; have fHP1 := HP.out.f 1 (by simp); have cHP2 := HP.out.c 2 _ rfl; have fHP2 := HP.out.f 2 (by simp); have cHP3 := HP.out.c 3 _ rfl; have fHP3 := HP.out.f 3 (by simp); have cHP4 := HP.out.c 4 _ rfl; have fHP4 := HP.out.f 4 (by simp); have cHP5 := HP.out.c 5 _ rfl; have fHP5 := HP.out.f 5 (by simp); have cHP6 := HP.out.c 6 _ rfl; have fHP6 := HP.out.f 6 (by simp); have cHP7 := HP.out.c 7 _ rfl; have fHP7 := HP.out.f 7 (by simp); have cHP8 := HP.out.c 8 _ rfl; have fHP8 := HP.out.f 8 (by simp); have cHP9 := HP.out.c 9 _ rfl; have fHP9 := HP.out.f 9 (by simp); have cHP10 := HP.out.c 10 _ rfl; have fHP10 := HP.out.f 10 (by simp); have cHP11 := HP.out.c 11 _ rfl; have fHP11 := HP.out.f 11 (by simp); have lHP := HP.out.lt
        go_wp2_with fail
        clear cHP0 fHP0 cHP1 fHP1 cHP2 fHP2 cHP3 fHP3 cHP4 fHP4 cHP5 fHP5 cHP6 fHP6 cHP7 fHP7 cHP8 fHP8 cHP9 fHP9 cHP10 fHP10 cHP11 fHP11 lHP
        refine (hhi w2).mono ?_; rintro e w3 ⟨rfl, h⟩
        replace HP := Lib.hid (HP.out.below h HP.out.lt); replace HF := Lib.hid (below_step' HF.out h)
        clear h hhi
        go_wp2
        go_ret3
        exact ⟨rfl, HF.out⟩
    · rw [if_pos q1]
      dsimp only
      rw [ht0]
      generalize tx s1 = t1 at *
      go_enter Try.func20, Try.ntmps20
      have cHP0 := HP.out.c 0 _ rfl; have fHP0 := HP.out.f 0 (by simp); have cHP1 := HP.out.c 1 _ rfl; have fHP1 := HP.out.f 1 (by simp); have cHP2 := HP.out.c 2 _ rfl; have fHP2 := HP.out.f 2 (by simp); have cHP3 := HP.out.c 3 _ rfl; have fHP3 := HP.out.f 3 (by simp); have cHP4 := HP.out.c 4 _ rfl; have fHP4 := HP.out.f 4 (by simp); have cHP5 := HP.out.c 5 _ rfl; have fHP5 := HP.out.f 5 (by simp); have cHP6 := HP.out.c 6 _ rfl; have fHP6 := HP.out.f 6 (by simp); have cHP7 := HP.out.c 7 _ rfl; have fHP7 := HP.out.f 7 (by simp); have cHP8 := HP.out.c 8 _ rfl; have fHP8 := HP.out.f 8 (by simp); have cHP9 := HP.out.c 9 _ rfl; have fHP9 := HP.out.f 9 (by simp); have cHP10 := HP.out.c 10 _ rfl; have fHP10 := HP.out.f 10 (by simp); have cHP11 := HP.out.c 11 _ rfl; have fHP11 := HP.out.f 11 (by simp); have lHP := HP.out.lt
      go_wp2_with fail
      clear cHP0 fHP0 cHP1 fHP1 cHP2 fHP2 cHP3 fHP3 cHP4 fHP4 cHP5 fHP5 cHP6 fHP6 cHP7 fHP7 cHP8 fHP8 cHP9 fHP9 cHP10 fHP10 cHP11 fHP11 lHP
      generalize (w.alloc (.cells #[.int .i64 ix, .bool lo.op, .int .i64 lo.v.k, .int .i64 lo.v.n, .string lo.v.s, .bool lo.inn, .bool hi.op, .int .i64 hi.v.k, .int .i64 hi.v.n, .string hi.v.s, .bool hi.inn, .bool false] 32)) = w1 at *
      refine (hlo w1).mono ?_; rintro e w2 ⟨rfl, h⟩
      replace HP := Lib.hid (HP.out.below h HP.out.lt); replace HF := Lib.hid (below_step' HF.out h)
      clear h hlo
      have cHP0 := HP.out.c 0 _ rfl; have fHP0 := HP.out.f 0 (by simp); have cHP1 := HP.out.c 1 _ rfl; have fHP1 := HP.out.f 1 (by simp); have cHP2 := HP.out.c 2 _ rfl; have fHP2 := HP.out.f 2 (by simp); have cHP3 := HP.out.c 3 _ rfl; have fHP3 := HP.out.f 3 (by simp); have cHP4 := HP.out.c 4 _ rfl; have fHP4 := HP.out.f 4 (by simp); have cHP5 := HP.out.c 5 _ rfl; have fHP5 := HP.out.f 5 (by simp); have cHP6 := HP.out.c 6 _ rfl; have fHP6 := HP.out.f 6 (by simp); have cHP7 := HP.out.c 7 _ rfl; have fHP7 := HP.out.f 7 (by simp); have cHP8 := HP.out.c 8 _ rfl; have fHP8 := HP.out.f 8 (by simp); have cHP9 := HP.out.c 9 _ rfl; have fHP9 := HP.out.f 9 (by simp); have cHP10 := HP.out.c 10 _ rfl; have fHP10 := HP.out.f 10 (by simp); have cHP11 := HP.out.c 11 _ rfl; have fHP11 := HP.out.f 11 (by simp); have lHP := HP.out.lt
      go_wp2_with fail
      clear cHP0 fHP0 cHP1 fHP1 cHP2 fHP2 cHP3 fHP3 cHP4 fHP4 cHP5 fHP5 cHP6 fHP6 cHP7 fHP7 cHP8 fHP8 cHP9 fHP9 cHP10 fHP10 cHP11 fHP11 lHP
      go_wp2
      go_ret3
      exact ⟨rfl, HF.out⟩
  · have hv : keysP ⟨ix, lo, hi, true⟩ = ([], [0], 0) := rfl
    rw [hv]
    have ht1 : tx [0] = ⟨#[0]⟩ := rfl
    dsimp only
    rw [ht0, ht1]
    clear hv ht0 ht1 hlo hhi
    have HP := Lib.hid (Box.new w #[.int .i64 ix, .bool lo.op, .int .i64 lo.v.k, .int .i64 lo.v.n, .string lo.v.s, .bool lo.inn, .bool hi.op, .int .i64 hi.v.k, .int .i64 hi.v.n, .string hi.v.s, .bool hi.inn, .bool true] 32)
    have HF : Hid (Below w.heap.size w (w.alloc (.cells #[.int .i64 ix, .bool lo.op, .int .i64 lo.v.k, .int .i64 lo.v.n, .string lo.v.s, .bool lo.inn, .bool hi.op, .int .i64 hi.v.k, .int .i64 hi.v.n, .string hi.v.s, .bool hi.inn, .bool true] 32))) := Lib.hid (by (repeat (first | (with_reducible exact Below.refl _ _) | apply below_alloc _ (Nat.le_refl _) | refine below_set ?_ (by first | exact Nat.le_refl _ | omega) | apply below_drewN | refine below_step ?_ HB)))
    go_enter Try.func20, Try.ntmps20
    have c11 := HP.out.c 11 _ rfl
    have HFo := HF.out
    clear HP HF
    go_wp2
    go_ret3
    exact ⟨rfl, HFo⟩
end Go.Proofs.Ytfmfmammcjpboaa
