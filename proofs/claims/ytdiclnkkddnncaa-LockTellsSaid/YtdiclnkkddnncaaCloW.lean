/- Package lock: the closures; DeleteFunc of a row of the call's own; Clone. -/
import Derived.Test.YtdiclnkkddnncaaDelW
import Derived.Test.YtdiclnkkddnncaaPut3
namespace Go.Proofs.Ytdiclnkkddnncaa
open Go.RowKit
open Go.Shelf
set_option linter.unusedVariables false
set_option linter.unusedSimpArgs false
def at3 (b : Nat) (x : Lk) : List (Nat × Nat × Value) := [(b, 0, .int .i64 x.tx), (b, 1, .string x.lo), (b, 2, .string x.hi)]
theorem clo_within (x : Lk) (base : Nat) : Clo 29 #[.agg #[.int .i64 x.tx, .string x.lo, .string x.hi]] #[] (fun _ => False) base (within x) (fun _ => []) (fun a _ => a) := by
  intro acc y W hJ
  refine (within_any x y W).mono ?_
  rintro e w' ⟨rfl, h⟩
  exact ⟨rfl, Kept.of_below h hJ.1, ⟨Nat.le_trans hJ.1 h.size, fun q hq => by cases hq⟩, fun _ => h⟩
set_option maxHeartbeats 2000000 in
set_option maxRecDepth 100000 in
theorem drop1_any (t : Int) (B1 : Nat) (y : Lk) (w : World) (h : w.cell? ⟨B1, 0, none⟩ = some (.int .i64 t)) :
    Calls Try.prog 36 #[.agg #[.int .i64 y.tx, .string y.lo, .string y.hi], .pointer (some ⟨B1, 0, none⟩)] w fun e w' => e = .returned (.bool (y.tx == t)) ∧ Below w.heap.size w w' := by
  have hl := World.block_lt_of_cell? _ _ h
  have hne : B1 ≠ w.heap.size := by simp only at hl; omega
  obtain ⟨tx, lo, hi⟩ := y
  dsimp only
  go_enter Try.func36, Try.ntmps36
  go_wp2
  go_ret
  exact ⟨rfl, (by (repeat (first | (with_reducible exact Below.refl _ _) | apply below_alloc _ (Nat.le_refl _) | refine below_set ?_ (by first | exact Nat.le_refl _ | omega) | apply below_drewN | refine below_step ?_ HB)))⟩
theorem clo_drop (t : Int) (B1 base : Nat) : Clo 36 #[] #[.pointer (some ⟨B1, 0, none⟩)] (fun _ => False) base (fun y => y.tx == t) (fun _ => [(B1, 0, .int .i64 t)]) (fun a _ => a) := by
  intro acc y W hJ
  have h0 := hJ.2 (B1, 0, .int .i64 t) (by simp)
  refine (drop1_any t B1 y W h0.2.1).mono ?_
  rintro e w' ⟨rfl, h⟩
  refine ⟨rfl, Kept.of_below h hJ.1, ⟨Nat.le_trans hJ.1 h.size, fun q hq => ?_⟩, fun _ => h⟩
  obtain ⟨a1, a2, a3⟩ := hJ.2 q (by simpa using hq)
  have hl : q.1 < W.heap.size := Nat.lt_of_lt_of_le a1 hJ.1
  exact ⟨a1, (h.cell (p := ⟨q.1, q.2.1, none⟩) hl).trans a2, (h.frozen (p := ⟨q.1, q.2.1, none⟩) hl).trans a3⟩
theorem J.of3 {base b : Nat} {w : World} {x : Lk} (hb : b < base) (hB : base ≤ w.heap.size) (h : Box3 w b (.int .i64 x.tx) (.string x.lo) (.string x.hi)) : J base w (at3 b x) := ⟨hB, fun q hq => by
  simp [at3] at hq
  rcases hq with rfl | rfl | rfl
  · exact ⟨hb, h.c0, h.f0⟩
  · exact ⟨hb, h.c1, h.f1⟩
  · exact ⟨hb, h.c2, h.f2⟩⟩
theorem J.to3 {base b : Nat} {w : World} {x : Lk} (h : J base w (at3 b x)) : Box3 w b (.int .i64 x.tx) (.string x.lo) (.string x.hi) := by
  obtain ⟨h1, h2, h3⟩ := h.2 (b, 0, .int .i64 x.tx) (by simp [at3])
  obtain ⟨g1, g2, g3⟩ := h.2 (b, 1, .string x.lo) (by simp [at3])
  obtain ⟨k1, k2, k3⟩ := h.2 (b, 2, .string x.hi) (by simp [at3])
  exact ⟨h2, g2, k2, h3, g3, k3, Nat.lt_of_lt_of_le h1 h.1⟩
theorem J.app {base : Nat} {w : World} {L M : List (Nat × Nat × Value)} : J base w (L ++ M) ↔ J base w L ∧ J base w M := by
  constructor
  · intro h
    exact ⟨⟨h.1, fun q hq => h.2 q (List.mem_append.2 (.inl hq))⟩, ⟨h.1, fun q hq => h.2 q (List.mem_append.2 (.inr hq))⟩⟩
  · rintro ⟨h, k⟩
    exact ⟨h.1, fun q hq => by rcases List.mem_append.1 hq with hq | hq; exact h.2 q hq; exact k.2 q hq⟩
set_option maxHeartbeats 4000000 in
set_option maxRecDepth 100000 in
theorem add1_any (x acc y : Lk) (B1 B2 base : Nat) (w : World) (h1 : B1 < base) (h2 : B2 < base) (h12 : B1 ≠ B2) (hb : base ≤ w.heap.size) (HX : Box3 w B1 (.int .i64 x.tx) (.string x.lo) (.string x.hi)) (HA : Box3 w B2 (.int .i64 acc.tx) (.string acc.lo) (.string acc.hi)) :
    Calls Try.prog 31 #[.agg #[.int .i64 y.tx, .string y.lo, .string y.hi], .pointer (some ⟨B1, 0, none⟩), .pointer (some ⟨B2, 0, none⟩)] w fun e w' => e = .returned (.bool (touches x y)) ∧ (touches x y = false → Below w.heap.size w w') ∧ (touches x y = true → Kept base (· = B2) w w' ∧ Box3 w' B2 (.int .i64 (joinL acc y).tx) (.string (joinL acc y).lo) (.string (joinL acc y).hi)) := by
  have ba : Below w.heap.size w (w.alloc (.cells #[.int .i64 y.tx, .string y.lo, .string y.hi] 35)) := (Below.refl _ w).alloc (Nat.le_refl _) _
  have HX1 := HX.alloc (.cells #[.int .i64 y.tx, .string y.lo, .string y.hi] 35)
  have HA1 := Lib.hid (HA.alloc (.cells #[.int .i64 y.tx, .string y.lo, .string y.hi] 35))
  have HY1 := Lib.hid (Box3.new w (.int .i64 y.tx) (.string y.lo) (.string y.hi) 35)
  have ht := touches_any x y (w.alloc (.cells #[.int .i64 y.tx, .string y.lo, .string y.hi] 35))
  have hj := fun W => join_any acc y W
  clear HX HA
  cases hh : touches x y with
  | false =>
    rw [hh] at ht
    obtain ⟨tx, lo, hi⟩ := x
    obtain ⟨tx', lo', hi'⟩ := y
    dsimp only at *
    obtain ⟨c00, c01, c02, f00, f01, f02, l0⟩ := HX1
    go_enter Try.func31, Try.ntmps31
    go_wp2_with fail
    refine ht.mono ?_; rintro e w1 ⟨rfl, h⟩
    go_wp2
    go_ret
    exact ⟨rfl, by simpa using ba.trans (h.mono (by simp))⟩
  | true =>
    rw [hh] at ht
    generalize joinL acc y = z at *
    obtain ⟨tx, lo, hi⟩ := x
    obtain ⟨tx', lo', hi'⟩ := y
    obtain ⟨ax, al, ah⟩ := acc
    obtain ⟨zx, zl, zh⟩ := z
    dsimp only at *
    obtain ⟨c00, c01, c02, f00, f01, f02, l0⟩ := HX1
    go_enter Try.func31, Try.ntmps31
    go_wp2_with fail
    refine ht.mono ?_; rintro e w1 ⟨rfl, h⟩
    have HA2 := HA1.out.below h HA1.out.lt
    have HY2 := HY1.out.below h HY1.out.lt
    have hF := ba.trans (h.mono (by simp))
    have HA2' := Lib.hid HA2
    clear c00 c01 c02 f00 f01 f02 l0 ht
    obtain ⟨c00, c01, c02, f00, f01, f02, l0⟩ := HA2
    obtain ⟨d00, d01, d02, e00, e01, e02, m0⟩ := HY2
    have hz := (HA1.out.lt)
    go_wp2_with fail
    refine (hj _).mono ?_; rintro e w2 ⟨rfl, h'⟩
    have HA3 := HA2'.out.below h' HA2'.out.lt
    have hF2 := hF.trans (h'.mono hF.size)
    have HA4 := Lib.hid (put3_box (x' := .int .i64 zx) (y' := .string zl) (z' := .string zh) HA3)
    clear c00 c01 c02 f00 f01 f02 l0 d00 d01 d02 e00 e01 e02 m0 hj
    obtain ⟨c00, c01, c02, f00, f01, f02, l0⟩ := HA3
    go_wp2
    go_ret
    refine ⟨rfl, fun h => (by cases h), fun _ => ⟨?_, HA4.out⟩⟩
    exact (((Kept.of_below (B := fun k => k = B2) hF2 hb).set ⟨B2, 0, none⟩ _ (.inr rfl)).set ⟨B2, 1, none⟩ _ (.inr rfl)).set ⟨B2, 2, none⟩ _ (.inr rfl)
theorem clo_add (x : Lk) (B1 B2 base : Nat) (h12 : B1 ≠ B2) : Clo 31 #[] #[.pointer (some ⟨B1, 0, none⟩), .pointer (some ⟨B2, 0, none⟩)] (fun k => k = B2) base (touches x) (fun acc => at3 B1 x ++ at3 B2 acc) joinL := by
  intro acc y W hJ
  obtain ⟨hX, hA⟩ := J.app.1 hJ
  have b1 := (hX.2 (B1, 0, .int .i64 x.tx) (by simp [at3])).1
  have b2 := (hA.2 (B2, 0, .int .i64 acc.tx) (by simp [at3])).1
  refine (add1_any x acc y B1 B2 base W b1 b2 h12 hJ.1 hX.to3 hA.to3).mono ?_
  rintro e w' ⟨rfl, h0, h1⟩
  cases ht : touches x y with
  | false =>
    have h := h0 ht
    refine ⟨rfl, Kept.of_below h hJ.1, ?_, fun _ => h⟩
    simp only [Bool.false_eq_true, if_false]
    exact J.app.2 ⟨J.of3 b1 (Nat.le_trans hJ.1 h.size) (hX.to3.below h hX.to3.lt), J.of3 b2 (Nat.le_trans hJ.1 h.size) (hA.to3.below h hA.to3.lt)⟩
  | true =>
    obtain ⟨hk, hb⟩ := h1 ht
    refine ⟨rfl, hk, ?_, fun h => by cases h⟩
    simp only [if_true]
    exact J.app.2 ⟨J.of3 b1 (Nat.le_trans hJ.1 hk.size) (hk.box hX.to3 b1 h12), J.of3 b2 (Nat.le_trans hJ.1 hk.size) hb⟩
end Go.Proofs.Ytdiclnkkddnncaa
