/- plan: lets, Has, all; the law's Of. -/
import Derived.Test.YtfmfmammcjpboaaMeetW
namespace Go.Proofs.Ytfmfmammcjpboaa
open Go.RowKit
set_option linter.unusedVariables false
set_option linter.unusedSimpArgs false
def letsB (b : Bd) (v : V) (side : Int) : Bool := b.op || (decide (0 < side * vorder v b.v) || (decide (side * vorder v b.v = 0) && b.inn))
def hasP (p : Pl) (v : V) : Bool := !p.emp && (v.k != 0 && (letsB p.lo v 1 && letsB p.hi v (-1)))
set_option maxHeartbeats 4000000 in
set_option maxRecDepth 100000 in
theorem lets_any (bo : Bool) (bk bn : Int) (bs : ByteArray) (bi : Bool) (vk vn : Int) (vs : ByteArray) (side : Int) (hs : side = 1 ∨ side = -1) (w : World) :
    Calls Try.prog 42 #[.agg #[.bool bo, .int .i64 bk, .int .i64 bn, .string bs, .bool bi], .agg #[.int .i64 vk, .int .i64 vn, .string vs], .int .i64 side] w fun e w' => e = .returned (.bool (letsB ⟨bo, ⟨bk, bn, bs⟩, bi⟩ ⟨vk, vn, vs⟩ side)) ∧ Below w.heap.size w w' := by
  have HB := Lib.hid ((Box.new w #[.bool bo, .int .i64 bk, .int .i64 bn, .string bs, .bool bi] 30).alloc (.cells #[.int .i64 vk, .int .i64 vn, .string vs] 28))
  have HF : Hid (Below w.heap.size w ((w.alloc (.cells #[.bool bo, .int .i64 bk, .int .i64 bn, .string bs, .bool bi] 30)).alloc (.cells #[.int .i64 vk, .int .i64 vn, .string vs] 28))) := Lib.hid (by (repeat (first | (with_reducible exact Below.refl _ _) | apply below_alloc _ (Nat.le_refl _) | refine below_set ?_ (by first | exact Nat.le_refl _ | omega) | apply below_drewN | refine below_step ?_ HB)))
  have hv : letsB ⟨bo, ⟨bk, bn, bs⟩, bi⟩ ⟨vk, vn, vs⟩ side = (bo || (decide (0 < side * vorder ⟨vk, vn, vs⟩ ⟨bk, bn, bs⟩) || (decide (side * vorder ⟨vk, vn, vs⟩ ⟨bk, bn, bs⟩ = 0) && bi))) := rfl
  have hc := fun W => order_any vk vn vs bk bn bs W
  have h3 := vorder_three ⟨vk, vn, vs⟩ ⟨bk, bn, bs⟩
  rw [hv]
  clear hv
  generalize vorder ⟨vk, vn, vs⟩ ⟨bk, bn, bs⟩ = c at *
  rcases hs with rfl | rfl <;> rcases h3 with rfl | rfl | rfl
  all_goals
    go_enter Try.func42, Try.ntmps42
    go_wp2_with fail
    generalize ((w.alloc (.cells #[.bool bo, .int .i64 bk, .int .i64 bn, .string bs, .bool bi] 30)).alloc (.cells #[.int .i64 vk, .int .i64 vn, .string vs] 28)) = w2 at *
    refine (hc w2).mono ?_; rintro e w4 ⟨rfl, h⟩
    replace HB := Lib.hid (HB.out.below h HB.out.lt); replace HF := Lib.hid (below_step' HF.out h)
    have c0 := HB.out.c 0 _ rfl
    have c4 := HB.out.c 4 _ rfl
    have HFo := HF.out
    clear h hc HB
    cases bo <;> cases bi
    all_goals (go_wp2; go_ret; exact ⟨ret_bool (by simp), HFo⟩)
set_option maxHeartbeats 4000000 in
set_option maxRecDepth 100000 in
theorem all_any (ix : Int) (w : World) : Calls Try.prog 23 #[.int .i64 ix] w fun e w' => e = .returned (aggP ⟨ix, ⟨true, ⟨0, 0, nos⟩, false⟩, ⟨true, ⟨0, 0, nos⟩, false⟩, false⟩) ∧ Below w.heap.size w w' := by
  go_enter Try.func23, Try.ntmps23
  go_wp2
  refine bodyPost_ret (by simp [results, Try.results23, go_sem]; rfl) rfl ?_
  exact ⟨rfl, (by (repeat (first | (with_reducible exact Below.refl _ _) | apply below_alloc _ (Nat.le_refl _) | refine below_set ?_ (by first | exact Nat.le_refl _ | omega) | apply below_drewN | refine below_step ?_ HB)))⟩
set_option maxHeartbeats 4000000 in
set_option maxRecDepth 100000 in
theorem has_any (ax : Int) (alo : Bool) (alk aln : Int) (als : ByteArray) (ali aho : Bool) (ahk ahn : Int) (ahs : ByteArray) (ahi ae : Bool) (vk vn : Int) (vs : ByteArray) (w : World) :
    Calls Try.prog 17 #[.agg #[.int .i64 ax, .bool alo, .int .i64 alk, .int .i64 aln, .string als, .bool ali, .bool aho, .int .i64 ahk, .int .i64 ahn, .string ahs, .bool ahi, .bool ae], .agg #[.int .i64 vk, .int .i64 vn, .string vs]] w fun e w' => e = .returned (.bool (hasP ⟨ax, ⟨alo, ⟨alk, aln, als⟩, ali⟩, ⟨aho, ⟨ahk, ahn, ahs⟩, ahi⟩, ae⟩ ⟨vk, vn, vs⟩)) ∧ Below w.heap.size w w' := by
  have HP := Lib.hid ((Box.new w #[.int .i64 ax, .bool alo, .int .i64 alk, .int .i64 aln, .string als, .bool ali, .bool aho, .int .i64 ahk, .int .i64 ahn, .string ahs, .bool ahi, .bool ae] 32).alloc (.cells #[.int .i64 vk, .int .i64 vn, .string vs] 28))
  have HV := Lib.hid (Box.new (w.alloc (.cells #[.int .i64 ax, .bool alo, .int .i64 alk, .int .i64 aln, .string als, .bool ali, .bool aho, .int .i64 ahk, .int .i64 ahn, .string ahs, .bool ahi, .bool ae] 32)) #[.int .i64 vk, .int .i64 vn, .string vs] 28)
  have HF : Hid (Below w.heap.size w ((w.alloc (.cells #[.int .i64 ax, .bool alo, .int .i64 alk, .int .i64 aln, .string als, .bool ali, .bool aho, .int .i64 ahk, .int .i64 ahn, .string ahs, .bool ahi, .bool ae] 32)).alloc (.cells #[.int .i64 vk, .int .i64 vn, .string vs] 28))) := Lib.hid (by (repeat (first | (with_reducible exact Below.refl _ _) | apply below_alloc _ (Nat.le_refl _) | refine below_set ?_ (by first | exact Nat.le_refl _ | omega) | apply below_drewN | refine below_step ?_ HB)))
  simp only [World.size_alloc] at HV
  have hv : hasP ⟨ax, ⟨alo, ⟨alk, aln, als⟩, ali⟩, ⟨aho, ⟨ahk, ahn, ahs⟩, ahi⟩, ae⟩ ⟨vk, vn, vs⟩ = (!ae && (vk != 0 && (letsB ⟨alo, ⟨alk, aln, als⟩, ali⟩ ⟨vk, vn, vs⟩ 1 && letsB ⟨aho, ⟨ahk, ahn, ahs⟩, ahi⟩ ⟨vk, vn, vs⟩ (-1)))) := rfl
  have hlo := fun W => lets_any alo alk aln als ali vk vn vs 1 (.inl rfl) W
  have hhi := fun W => lets_any aho ahk ahn ahs ahi vk vn vs (-1) (.inr rfl) W
  rw [hv]
  clear hv
  generalize letsB ⟨alo, ⟨alk, aln, als⟩, ali⟩ ⟨vk, vn, vs⟩ 1 = x at *
  generalize letsB ⟨aho, ⟨ahk, ahn, ahs⟩, ahi⟩ ⟨vk, vn, vs⟩ (-1) = y at *
  cases ae
  · by_cases hk : vk = 0
    · subst hk
      go_enter Try.func17, Try.ntmps17
      go_wp2
      go_ret
      exact ⟨ret_bool (by simp), HF.out⟩
    · have hkb : (vk != 0) = true := by simpa using hk
      go_enter Try.func17, Try.ntmps17
      go_wp2_with fail
      generalize ((w.alloc (.cells #[.int .i64 ax, .bool alo, .int .i64 alk, .int .i64 aln, .string als, .bool ali, .bool aho, .int .i64 ahk, .int .i64 ahn, .string ahs, .bool ahi, .bool false] 32)).alloc (.cells #[.int .i64 vk, .int .i64 vn, .string vs] 28)) = w2 at *
      refine (hlo w2).mono ?_; rintro e w4 ⟨rfl, h⟩
      replace HP := Lib.hid (HP.out.below h HP.out.lt); replace HV := Lib.hid (HV.out.below h HV.out.lt); replace HF := Lib.hid (below_step' HF.out h)
      clear h hlo
      cases x
      · have HFo := HF.out
        go_wp2
        go_ret
        exact ⟨ret_bool (by simp), HFo⟩
      · have cHP0 := HP.out.c 0 _ rfl; have fHP0 := HP.out.f 0 (by simp); have cHP1 := HP.out.c 1 _ rfl; have fHP1 := HP.out.f 1 (by simp); have cHP2 := HP.out.c 2 _ rfl; have fHP2 := HP.out.f 2 (by simp); have cHP3 := HP.out.c 3 _ rfl; have fHP3 := HP.out.f 3 (by simp); have cHP4 := HP.out.c 4 _ rfl; have fHP4 := HP.out.f 4 (by simp); have cHP5 := HP.out.c 5 _ rfl; have fHP5 := HP.out.f 5 (by simp); have cHP6 := HP.out.c 6 _ rfl; have fHP6 := HP.out.f 6 (by simp); have cHP7 := HP.out.c 7 _ rfl; have fHP7 := HP.out.f 7 (by simp); have cHP8 := HP.out.c 8 _ rfl; have fHP8 := HP.out.f 8 (by simp); have cHP9 := HP.out.c 9 _ rfl; have fHP9 := HP.out.f 9 (by simp); have cHP10 := HP.out.c 10 _ rfl; have fHP10 := HP.out.f 10 (by simp); have cHP11 := HP.out.c 11 _ rfl; have fHP11 := HP.out.f 11 (by simp); have lHP := HP.out.lt; have cHV0 := HV.out.c 0 _ rfl; have fHV0 := HV.out.f 0 (by simp); have cHV1 := HV.out.c 1 _ rfl; have fHV1 := HV.out.f 1 (by simp); have cHV2 := HV.out.c 2 _ rfl; have fHV2 := HV.out.f 2 (by simp); have lHV := HV.out.lt
        go_wp2_with fail
        refine (hhi w4).mono ?_; rintro e w5 ⟨rfl, h⟩
        have HFo := below_step' HF.out h
        clear h hhi HF
        go_wp2
        go_ret
        exact ⟨ret_bool (by simp [hkb]), HFo⟩
  · go_enter Try.func17, Try.ntmps17
    go_wp2
    go_ret
    exact ⟨ret_bool (by simp), HF.out⟩
set_option maxHeartbeats 4000000 in
set_option maxRecDepth 100000 in
theorem of_any (ax : Int) (alo : Bool) (alk aln : Int) (als : ByteArray) (ali aho : Bool) (ahk ahn : Int) (ahs : ByteArray) (ahi ae : Bool) (w : World) :
    Calls Try.prog 16 #[.agg #[.int .i64 ax, .bool alo, .int .i64 alk, .int .i64 aln, .string als, .bool ali, .bool aho, .int .i64 ahk, .int .i64 ahn, .string ahs, .bool ahi, .bool ae]] w fun e w' => e = .returned (.agg #[.int .i64 ax, .bool alo, .int .i64 alk, .int .i64 aln, .string als, .bool ali, .bool aho, .int .i64 ahk, .int .i64 ahn, .string ahs, .bool ahi, .bool ae]) ∧ Below w.heap.size w w' := by
  go_enter Try.func16, Try.ntmps16
  go_wp2
  refine bodyPost_ret (by simp [results, Try.results16, go_sem]; rfl) rfl ?_
  exact ⟨rfl, (by (repeat (first | (with_reducible exact Below.refl _ _) | apply below_alloc _ (Nat.le_refl _) | refine below_set ?_ (by first | exact Nat.le_refl _ | omega) | apply below_drewN | refine below_step ?_ HB)))⟩
end Go.Proofs.Ytfmfmammcjpboaa
