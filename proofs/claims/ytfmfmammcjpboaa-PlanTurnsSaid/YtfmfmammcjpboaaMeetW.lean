/- plan: inner, Meet, lets, Has, all. -/
import Derived.Test.YtfmfmammcjpboaaBox
import Derived.Test.YtfmfmammcjpboaaChkOrd
import Derived.Test.YtfmfmammcjpboaaLater
namespace Go.Proofs.Ytfmfmammcjpboaa
open Go.RowKit
set_option linter.unusedVariables false
set_option linter.unusedSimpArgs false
structure Bd where
  op : Bool
  v : V
  inn : Bool
structure Pl where
  ix : Int
  lo : Bd
  hi : Bd
  emp : Bool
def encB (b : Bd) : List Value := [.bool b.op, .int .i64 b.v.k, .int .i64 b.v.n, .string b.v.s, .bool b.inn]
def aggB (b : Bd) : Value := .agg #[.bool b.op, .int .i64 b.v.k, .int .i64 b.v.n, .string b.v.s, .bool b.inn]
def aggP (p : Pl) : Value := .agg #[.int .i64 p.ix, .bool p.lo.op, .int .i64 p.lo.v.k, .int .i64 p.lo.v.n, .string p.lo.v.s, .bool p.lo.inn, .bool p.hi.op, .int .i64 p.hi.v.k, .int .i64 p.hi.v.n, .string p.hi.v.s, .bool p.hi.inn, .bool p.emp]
def innB (a b : Bd) (side : Int) : Bd := if b.op then a else if a.op || (decide (0 < side * vorder b.v a.v) || (decide (side * vorder b.v a.v = 0) && (a.inn && !b.inn))) then b else a
set_option maxHeartbeats 4000000 in
set_option maxRecDepth 100000 in
theorem inner_any (ao : Bool) (ak an : Int) (at1 : ByteArray) (ai : Bool) (bo : Bool) (bk bn : Int) (bs : ByteArray) (bi : Bool) (side : Int) (hs : side = 1 ∨ side = -1) (w : World) :
    Calls Try.prog 41 #[aggB ⟨ao, ⟨ak, an, at1⟩, ai⟩, aggB ⟨bo, ⟨bk, bn, bs⟩, bi⟩, .int .i64 side] w fun e w' => e = .returned (aggB (innB ⟨ao, ⟨ak, an, at1⟩, ai⟩ ⟨bo, ⟨bk, bn, bs⟩, bi⟩ side)) ∧ Below w.heap.size w w' := by
  unfold aggB
  dsimp only
  cases bo
  · have BA := Lib.hid (((Box.new w #[.bool ao, .int .i64 ak, .int .i64 an, .string at1, .bool ai] 30).alloc (.cells #[.bool false, .int .i64 bk, .int .i64 bn, .string bs, .bool bi] 30)).alloc (.cells #[.bool false, .int .i64 0, .int .i64 0, .string ⟨#[]⟩, .bool false] 30))
    have BB := Lib.hid ((Box.new (w.alloc (.cells #[.bool ao, .int .i64 ak, .int .i64 an, .string at1, .bool ai] 30)) #[.bool false, .int .i64 bk, .int .i64 bn, .string bs, .bool bi] 30).alloc (.cells #[.bool false, .int .i64 0, .int .i64 0, .string ⟨#[]⟩, .bool false] 30))
    have BR := Lib.hid (Box.new ((w.alloc (.cells #[.bool ao, .int .i64 ak, .int .i64 an, .string at1, .bool ai] 30)).alloc (.cells #[.bool false, .int .i64 bk, .int .i64 bn, .string bs, .bool bi] 30)) #[.bool false, .int .i64 0, .int .i64 0, .string ⟨#[]⟩, .bool false] 30)
    have HF : Hid (Below w.heap.size w (((w.alloc (.cells #[.bool ao, .int .i64 ak, .int .i64 an, .string at1, .bool ai] 30)).alloc (.cells #[.bool false, .int .i64 bk, .int .i64 bn, .string bs, .bool bi] 30)).alloc (.cells #[.bool false, .int .i64 0, .int .i64 0, .string ⟨#[]⟩, .bool false] 30))) := Lib.hid (by (repeat (first | (with_reducible exact Below.refl _ _) | apply below_alloc _ (Nat.le_refl _) | refine below_set ?_ (by first | exact Nat.le_refl _ | omega) | apply below_drewN | refine below_step ?_ HB)))
    simp only [World.size_alloc] at BB BR
    have hv : innB ⟨ao, ⟨ak, an, at1⟩, ai⟩ ⟨false, ⟨bk, bn, bs⟩, bi⟩ side = if ao || (decide (0 < side * vorder ⟨bk, bn, bs⟩ ⟨ak, an, at1⟩) || (decide (side * vorder ⟨bk, bn, bs⟩ ⟨ak, an, at1⟩ = 0) && (ai && !bi))) then ⟨false, ⟨bk, bn, bs⟩, bi⟩ else ⟨ao, ⟨ak, an, at1⟩, ai⟩ := rfl
    have hc := fun W => order_any bk bn bs ak an at1 W
    have h3 := vorder_three ⟨bk, bn, bs⟩ ⟨ak, an, at1⟩
    rw [hv]
    clear hv
    generalize vorder ⟨bk, bn, bs⟩ ⟨ak, an, at1⟩ = c at *
    go_enter Try.func41, Try.ntmps41
    go_wp2_with fail
    generalize ((w.alloc (.cells #[.bool ao, .int .i64 ak, .int .i64 an, .string at1, .bool ai] 30)).alloc (.cells #[.bool false, .int .i64 bk, .int .i64 bn, .string bs, .bool bi] 30)).alloc (.cells #[.bool false, .int .i64 0, .int .i64 0, .string ⟨#[]⟩, .bool false] 30) = w3 at *
    refine (hc w3).mono ?_; rintro e w4 ⟨rfl, h⟩
    replace BA := Lib.hid (BA.out.below h BA.out.lt); replace BB := Lib.hid (BB.out.below h BB.out.lt); replace BR := Lib.hid (BR.out.below h BR.out.lt); replace HF := Lib.hid (below_step' HF.out h)
    clear h hc
    have cBA0 := BA.out.c 0 _ rfl; have fBA0 := BA.out.f 0 (by simp); have cBA1 := BA.out.c 1 _ rfl; have fBA1 := BA.out.f 1 (by simp); have cBA2 := BA.out.c 2 _ rfl; have fBA2 := BA.out.f 2 (by simp); have cBA3 := BA.out.c 3 _ rfl; have fBA3 := BA.out.f 3 (by simp); have cBA4 := BA.out.c 4 _ rfl; have fBA4 := BA.out.f 4 (by simp); have lBA := BA.out.lt; have cBB0 := BB.out.c 0 _ rfl; have fBB0 := BB.out.f 0 (by simp); have cBB1 := BB.out.c 1 _ rfl; have fBB1 := BB.out.f 1 (by simp); have cBB2 := BB.out.c 2 _ rfl; have fBB2 := BB.out.f 2 (by simp); have cBB3 := BB.out.c 3 _ rfl; have fBB3 := BB.out.f 3 (by simp); have cBB4 := BB.out.c 4 _ rfl; have fBB4 := BB.out.f 4 (by simp); have lBB := BB.out.lt; have cBR0 := BR.out.c 0 _ rfl; have fBR0 := BR.out.f 0 (by simp); have cBR1 := BR.out.c 1 _ rfl; have fBR1 := BR.out.f 1 (by simp); have cBR2 := BR.out.c 2 _ rfl; have fBR2 := BR.out.f 2 (by simp); have cBR3 := BR.out.c 3 _ rfl; have fBR3 := BR.out.f 3 (by simp); have cBR4 := BR.out.c 4 _ rfl; have fBR4 := BR.out.f 4 (by simp); have lBR := BR.out.lt
    have HFo := HF.out
    have fin3 : ∀ (v0 v1 v2 v3 v4 : Value), Below w.heap.size w (((((w4.setCell ⟨w.heap.size + 1 + 1, 0, none⟩ v0).setCell ⟨w.heap.size + 1 + 1, 1, none⟩ v1).setCell ⟨w.heap.size + 1 + 1, 2, none⟩ v2).setCell ⟨w.heap.size + 1 + 1, 3, none⟩ v3).setCell ⟨w.heap.size + 1 + 1, 4, none⟩ v4) := fun _ _ _ _ _ =>
      ((((HFo.setCell (p := ⟨w.heap.size + 1 + 1, 0, none⟩) (by simp; omega) _).setCell (p := ⟨w.heap.size + 1 + 1, 1, none⟩) (by simp; omega) _).setCell (p := ⟨w.heap.size + 1 + 1, 2, none⟩) (by simp; omega) _).setCell (p := ⟨w.heap.size + 1 + 1, 3, none⟩) (by simp; omega) _).setCell (p := ⟨w.heap.size + 1 + 1, 4, none⟩) (by simp; omega) _
    cases ao
    · rcases hs with rfl | rfl <;> rcases h3 with rfl | rfl | rfl <;> cases ai <;> cases bi
      all_goals
        go_wp2
        refine bodyPost_ret (by simp [results, Try.results41, go_sem, cBR0, cBR1, cBR2, cBR3, cBR4]; rfl) rfl ?_
        exact ⟨rfl, fin3 _ _ _ _ _⟩
    · go_wp2
      refine bodyPost_ret (by simp [results, Try.results41, go_sem, cBR0, cBR1, cBR2, cBR3, cBR4]; rfl) rfl ?_
      exact ⟨rfl, fin3 _ _ _ _ _⟩
  · go_enter Try.func41, Try.ntmps41
    go_wp2
    refine bodyPost_ret (by simp [results, Try.results41, go_sem]; rfl) rfl ?_
    exact ⟨rfl, (by (repeat (first | (with_reducible exact Below.refl _ _) | apply below_alloc _ (Nat.le_refl _) | refine below_set ?_ (by first | exact Nat.le_refl _ | omega) | apply below_drewN | refine below_step ?_ HB)))⟩
end Go.Proofs.Ytfmfmammcjpboaa
