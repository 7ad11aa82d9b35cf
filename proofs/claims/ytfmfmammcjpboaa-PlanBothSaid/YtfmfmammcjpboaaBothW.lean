/- PlanBoth: the walk. -/
import Derived.Test.YtfmfmammcjpboaaBothP
import Derived.Test.YtfmfmammcjpboaaAliveW
import Derived.Test.YtfmfmammcjpboaaSpanW
import Derived.Test.YtfmfmammcjpboaaPuts
import Derived.Test.YtfmfmammcjpboaaInv
import Derived.Test.YtfmfmammcjpboaaLater
namespace Go.Proofs.Ytfmfmammcjpboaa
open Go.RowKit
set_option linter.unusedVariables false
set_option linter.unusedSimpArgs false
def bothV (w0 : World) (a b : Pl) (v : V) (l : Nat → Bool) (ts : Nat → Value) (w : World) : Prop :=
  Below w0.heap.size w0 w ∧ Box w w0.heap.size [.int .i64 a.ix, .bool a.lo.op, .int .i64 a.lo.v.k, .int .i64 a.lo.v.n, .string a.lo.v.s, .bool a.lo.inn, .bool a.hi.op, .int .i64 a.hi.v.k, .int .i64 a.hi.v.n, .string a.hi.v.s, .bool a.hi.inn, .bool a.emp] ∧ Box w (w0.heap.size + 1) [.int .i64 b.ix, .bool b.lo.op, .int .i64 b.lo.v.k, .int .i64 b.lo.v.n, .string b.lo.v.s, .bool b.lo.inn, .bool b.hi.op, .int .i64 b.hi.v.k, .int .i64 b.hi.v.n, .string b.hi.v.s, .bool b.hi.inn, .bool b.emp] ∧ Box w (w0.heap.size + 2) [.int .i64 v.k, .int .i64 v.n, .string v.s] ∧
    (l 10 = true → ∃ g, ts 10 = .pointer (some ⟨g, 0, none⟩) ∧ w0.heap.size + 3 ≤ g ∧ Box w g [.int .i64 0, .bool false, .int .i64 0, .int .i64 0, .string ⟨#[]⟩, .bool false, .bool false, .int .i64 0, .int .i64 0, .string ⟨#[]⟩, .bool false, .bool false]) ∧ (l 11 = true → ∃ g, ts 11 = .pointer (some ⟨g, 0, none⟩) ∧ w0.heap.size + 3 ≤ g ∧ Box w g [.int .i64 0, .bool false, .int .i64 0, .int .i64 0, .string ⟨#[]⟩, .bool false, .bool false, .int .i64 0, .int .i64 0, .string ⟨#[]⟩, .bool false, .bool false]) ∧ (l 10 = true → l 11 = true → ts 10 ≠ ts 11)
section
variable {w0 w w' : World} {a b : Pl} {v : V} {l : Nat → Bool} {ts : Nat → Value}
theorem bothV.move {i : Nat} {x : Value} (h : bothV w0 a b v l ts w) (h10 : i ≠ 10) (h11 : i ≠ 11) (hb : Below w.heap.size w w') : bothV w0 a b v (upd l i true) (upd ts i x) w' := by
  obtain ⟨h0, hA, hB, hV, h7, h8, hne⟩ := h
  refine ⟨below_step' h0 hb, hA.below hb hA.lt, hB.below hb hB.lt, hV.below hb hV.lt, fun hl => ?_, fun hl => ?_, fun hl hm => ?_⟩
  · rw [upd_other (Ne.symm h10)] at hl ⊢
    obtain ⟨g, e, hg, hx⟩ := h7 hl
    exact ⟨g, e, hg, hx.below hb hx.lt⟩
  · rw [upd_other (Ne.symm h11)] at hl ⊢
    obtain ⟨g, e, hg, hx⟩ := h8 hl
    exact ⟨g, e, hg, hx.below hb hx.lt⟩
  · rw [upd_other (Ne.symm h10)] at hl
    rw [upd_other (Ne.symm h11)] at hm
    rw [upd_other (Ne.symm h10), upd_other (Ne.symm h11)]
    exact hne hl hm
theorem bothV.lay10 (h : bothV w0 a b v l ts w) (hl0 : l 10 = false) : bothV w0 a b v (upd l 10 true) (upd ts 10 (.pointer (some ⟨w.heap.size, 0, none⟩))) (w.alloc (.cells #[.int .i64 0, .bool false, .int .i64 0, .int .i64 0, .string ⟨#[]⟩, .bool false, .bool false, .int .i64 0, .int .i64 0, .string ⟨#[]⟩, .bool false, .bool false] 32)) := by
  obtain ⟨h0, hA, hB, hV, h7, h8, hne⟩ := h
  have hb : Below w.heap.size w (w.alloc (.cells #[.int .i64 0, .bool false, .int .i64 0, .int .i64 0, .string ⟨#[]⟩, .bool false, .bool false, .int .i64 0, .int .i64 0, .string ⟨#[]⟩, .bool false, .bool false] 32)) := (Below.refl _ _).alloc (Nat.le_refl _) _
  refine ⟨below_step' h0 hb, hA.below hb hA.lt, hB.below hb hB.lt, hV.below hb hV.lt, fun _ => ⟨w.heap.size, upd_same _ _ _, hV.lt, Box.new w _ _⟩, fun hl => ?_, fun hl hm => ?_⟩
  · rw [upd_other (by decide)] at hl ⊢
    obtain ⟨g, e, hg, hx⟩ := h8 hl
    exact ⟨g, e, hg, hx.below hb hx.lt⟩
  · rw [upd_other (by decide)] at hm
    obtain ⟨g, e, hg, hx⟩ := h8 hm
    rw [upd_same, upd_other (by decide), e]
    intro h
    have := hx.lt
    simp at h
    try omega
theorem bothV.lay11 (h : bothV w0 a b v l ts w) (hl0 : l 11 = false) : bothV w0 a b v (upd l 11 true) (upd ts 11 (.pointer (some ⟨w.heap.size, 0, none⟩))) (w.alloc (.cells #[.int .i64 0, .bool false, .int .i64 0, .int .i64 0, .string ⟨#[]⟩, .bool false, .bool false, .int .i64 0, .int .i64 0, .string ⟨#[]⟩, .bool false, .bool false] 32)) := by
  obtain ⟨h0, hA, hB, hV, h7, h8, hne⟩ := h
  have hb : Below w.heap.size w (w.alloc (.cells #[.int .i64 0, .bool false, .int .i64 0, .int .i64 0, .string ⟨#[]⟩, .bool false, .bool false, .int .i64 0, .int .i64 0, .string ⟨#[]⟩, .bool false, .bool false] 32)) := (Below.refl _ _).alloc (Nat.le_refl _) _
  refine ⟨below_step' h0 hb, hA.below hb hA.lt, hB.below hb hB.lt, hV.below hb hV.lt, fun hl => ?_, fun _ => ⟨w.heap.size, upd_same _ _ _, hV.lt, Box.new w _ _⟩, fun hl hm => ?_⟩
  · rw [upd_other (by decide)] at hl ⊢
    obtain ⟨g, e, hg, hx⟩ := h7 hl
    exact ⟨g, e, hg, hx.below hb hx.lt⟩
  · rw [upd_other (by decide)] at hl
    obtain ⟨g, e, hg, hx⟩ := h7 hl
    rw [upd_same, upd_other (by decide), e]
    intro h
    have := hx.lt
    simp at h
    try omega
end
theorem of_P (p : Pl) (w : World) : Calls Try.prog 16 #[.agg #[.int .i64 p.ix, .bool p.lo.op, .int .i64 p.lo.v.k, .int .i64 p.lo.v.n, .string p.lo.v.s, .bool p.lo.inn, .bool p.hi.op, .int .i64 p.hi.v.k, .int .i64 p.hi.v.n, .string p.hi.v.s, .bool p.hi.inn, .bool p.emp]] w fun e w' => e = .returned (.agg #[.int .i64 p.ix, .bool p.lo.op, .int .i64 p.lo.v.k, .int .i64 p.lo.v.n, .string p.lo.v.s, .bool p.lo.inn, .bool p.hi.op, .int .i64 p.hi.v.k, .int .i64 p.hi.v.n, .string p.hi.v.s, .bool p.hi.inn, .bool p.emp]) ∧ Below w.heap.size w w' := of_any _ _ _ _ _ _ _ _ _ _ _ _ w
theorem has_P (p : Pl) (v : V) (w : World) : Calls Try.prog 17 #[.agg #[.int .i64 p.ix, .bool p.lo.op, .int .i64 p.lo.v.k, .int .i64 p.lo.v.n, .string p.lo.v.s, .bool p.lo.inn, .bool p.hi.op, .int .i64 p.hi.v.k, .int .i64 p.hi.v.n, .string p.hi.v.s, .bool p.hi.inn, .bool p.emp], .agg #[.int .i64 v.k, .int .i64 v.n, .string v.s]] w fun e w' => e = .returned (.bool (hasP p v)) ∧ Below w.heap.size w w' := has_any _ _ _ _ _ _ _ _ _ _ _ _ _ _ _ w
theorem meet_PP (p q : Pl) (w : World) : Calls Try.prog 15 #[.agg #[.int .i64 p.ix, .bool p.lo.op, .int .i64 p.lo.v.k, .int .i64 p.lo.v.n, .string p.lo.v.s, .bool p.lo.inn, .bool p.hi.op, .int .i64 p.hi.v.k, .int .i64 p.hi.v.n, .string p.hi.v.s, .bool p.hi.inn, .bool p.emp], .agg #[.int .i64 q.ix, .bool q.lo.op, .int .i64 q.lo.v.k, .int .i64 q.lo.v.n, .string q.lo.v.s, .bool q.lo.inn, .bool q.hi.op, .int .i64 q.hi.v.k, .int .i64 q.hi.v.n, .string q.hi.v.s, .bool q.hi.inn, .bool q.emp]] w fun e w' => e = .returned (.agg #[.int .i64 (meetP p q).ix, .bool (meetP p q).lo.op, .int .i64 (meetP p q).lo.v.k, .int .i64 (meetP p q).lo.v.n, .string (meetP p q).lo.v.s, .bool (meetP p q).lo.inn, .bool (meetP p q).hi.op, .int .i64 (meetP p q).hi.v.k, .int .i64 (meetP p q).hi.v.n, .string (meetP p q).hi.v.s, .bool (meetP p q).hi.inn, .bool (meetP p q).emp]) ∧ Below w.heap.size w w' := meet_P p q w
set_option maxHeartbeats 8000000 in
set_option maxRecDepth 100000 in
theorem both_any (a b : Pl) (v : V) (w : World) (hm : MaxL w) : Calls Try.prog 5 #[.agg #[.int .i64 a.ix, .bool a.lo.op, .int .i64 a.lo.v.k, .int .i64 a.lo.v.n, .string a.lo.v.s, .bool a.lo.inn, .bool a.hi.op, .int .i64 a.hi.v.k, .int .i64 a.hi.v.n, .string a.hi.v.s, .bool a.hi.inn, .bool a.emp], .agg #[.int .i64 b.ix, .bool b.lo.op, .int .i64 b.lo.v.k, .int .i64 b.lo.v.n, .string b.lo.v.s, .bool b.lo.inn, .bool b.hi.op, .int .i64 b.hi.v.k, .int .i64 b.hi.v.n, .string b.hi.v.s, .bool b.hi.inn, .bool b.emp], .agg #[.int .i64 v.k, .int .i64 v.n, .string v.s]] w fun e w' => e = .returned (.bool true) ∧ Below w.heap.size w w' := by
  have HA := Lib.hid (((Box.new w #[.int .i64 a.ix, .bool a.lo.op, .int .i64 a.lo.v.k, .int .i64 a.lo.v.n, .string a.lo.v.s, .bool a.lo.inn, .bool a.hi.op, .int .i64 a.hi.v.k, .int .i64 a.hi.v.n, .string a.hi.v.s, .bool a.hi.inn, .bool a.emp] 42).alloc (.cells #[.int .i64 b.ix, .bool b.lo.op, .int .i64 b.lo.v.k, .int .i64 b.lo.v.n, .string b.lo.v.s, .bool b.lo.inn, .bool b.hi.op, .int .i64 b.hi.v.k, .int .i64 b.hi.v.n, .string b.hi.v.s, .bool b.hi.inn, .bool b.emp] 42)).alloc (.cells #[.int .i64 v.k, .int .i64 v.n, .string v.s] 28))
  have HB := Lib.hid ((Box.new (w.alloc (.cells #[.int .i64 a.ix, .bool a.lo.op, .int .i64 a.lo.v.k, .int .i64 a.lo.v.n, .string a.lo.v.s, .bool a.lo.inn, .bool a.hi.op, .int .i64 a.hi.v.k, .int .i64 a.hi.v.n, .string a.hi.v.s, .bool a.hi.inn, .bool a.emp] 42)) #[.int .i64 b.ix, .bool b.lo.op, .int .i64 b.lo.v.k, .int .i64 b.lo.v.n, .string b.lo.v.s, .bool b.lo.inn, .bool b.hi.op, .int .i64 b.hi.v.k, .int .i64 b.hi.v.n, .string b.hi.v.s, .bool b.hi.inn, .bool b.emp] 42).alloc (.cells #[.int .i64 v.k, .int .i64 v.n, .string v.s] 28))
  have HV := Lib.hid (Box.new ((w.alloc (.cells #[.int .i64 a.ix, .bool a.lo.op, .int .i64 a.lo.v.k, .int .i64 a.lo.v.n, .string a.lo.v.s, .bool a.lo.inn, .bool a.hi.op, .int .i64 a.hi.v.k, .int .i64 a.hi.v.n, .string a.hi.v.s, .bool a.hi.inn, .bool a.emp] 42)).alloc (.cells #[.int .i64 b.ix, .bool b.lo.op, .int .i64 b.lo.v.k, .int .i64 b.lo.v.n, .string b.lo.v.s, .bool b.lo.inn, .bool b.hi.op, .int .i64 b.hi.v.k, .int .i64 b.hi.v.n, .string b.hi.v.s, .bool b.hi.inn, .bool b.emp] 42)) #[.int .i64 v.k, .int .i64 v.n, .string v.s] 28)
  have HF : Hid (Below w.heap.size w (((w.alloc (.cells #[.int .i64 a.ix, .bool a.lo.op, .int .i64 a.lo.v.k, .int .i64 a.lo.v.n, .string a.lo.v.s, .bool a.lo.inn, .bool a.hi.op, .int .i64 a.hi.v.k, .int .i64 a.hi.v.n, .string a.hi.v.s, .bool a.hi.inn, .bool a.emp] 42)).alloc (.cells #[.int .i64 b.ix, .bool b.lo.op, .int .i64 b.lo.v.k, .int .i64 b.lo.v.n, .string b.lo.v.s, .bool b.lo.inn, .bool b.hi.op, .int .i64 b.hi.v.k, .int .i64 b.hi.v.n, .string b.hi.v.s, .bool b.hi.inn, .bool b.emp] 42)).alloc (.cells #[.int .i64 v.k, .int .i64 v.n, .string v.s] 28))) := Lib.hid (by (repeat (first | (with_reducible exact Below.refl _ _) | apply below_alloc _ (Nat.le_refl _) | refine below_set ?_ (by first | exact Nat.le_refl _ | omega) | apply below_drewN | refine below_step ?_ HB)))
  have HM := Lib.hid (hm.below HF.out)
  simp only [World.size_alloc] at HB HV
  have HEQ := Lib.hid (meet_has a b v)
  have HEQ2 := Lib.hid (meet_has b a v)
  have HEM := Lib.hid (meet_emp a b)
  have hmt1 := fun W => meet_PP a b W
  have hmt2 := fun W => meet_PP b a W
  generalize meetP a b = m1 at *
  generalize meetP b a = m2 at *
  have hofa := fun W => of_P a W
  have hofb := fun W => of_P b W
  go_enter Try.func5, Try.ntmps5
  go_wp2_with fail
  generalize ((w.alloc (.cells #[.int .i64 a.ix, .bool a.lo.op, .int .i64 a.lo.v.k, .int .i64 a.lo.v.n, .string a.lo.v.s, .bool a.lo.inn, .bool a.hi.op, .int .i64 a.hi.v.k, .int .i64 a.hi.v.n, .string a.hi.v.s, .bool a.hi.inn, .bool a.emp] 42)).alloc (.cells #[.int .i64 b.ix, .bool b.lo.op, .int .i64 b.lo.v.k, .int .i64 b.lo.v.n, .string b.lo.v.s, .bool b.lo.inn, .bool b.hi.op, .int .i64 b.hi.v.k, .int .i64 b.hi.v.n, .string b.hi.v.s, .bool b.hi.inn, .bool b.emp] 42)).alloc (.cells #[.int .i64 v.k, .int .i64 v.n, .string v.s] 28) = w3 at *
  refine (alive_any w3 HM.out).mono ?_; rintro e w4 ⟨rfl, h⟩
  clear hm HM
  replace HA := Lib.hid (HA.out.below h HA.out.lt); replace HB := Lib.hid (HB.out.below h HB.out.lt); replace HV := Lib.hid (HV.out.below h HV.out.lt); replace HF := Lib.hid (below_step' HF.out h)
  clear h
  go_upto_region 3 with (fail)
  go_cut [7, 8] (fun p q wx => ∃ g7 g8, p = .pointer (some ⟨g7, 0, none⟩) ∧ q = .pointer (some ⟨g8, 0, none⟩) ∧ Hid (Box wx g7 [.int .i64 m1.ix, .bool m1.lo.op, .int .i64 m1.lo.v.k, .int .i64 m1.lo.v.n, .string m1.lo.v.s, .bool m1.lo.inn, .bool m1.hi.op, .int .i64 m1.hi.v.k, .int .i64 m1.hi.v.n, .string m1.hi.v.s, .bool m1.hi.inn, .bool m1.emp]) ∧ Hid (Box wx g8 [.int .i64 m2.ix, .bool m2.lo.op, .int .i64 m2.lo.v.k, .int .i64 m2.lo.v.n, .string m2.lo.v.s, .bool m2.lo.inn, .bool m2.hi.op, .int .i64 m2.hi.v.k, .int .i64 m2.hi.v.n, .string m2.hi.v.s, .bool m2.hi.inn, .bool m2.emp]) ∧ Hid (Box wx w.heap.size [.int .i64 a.ix, .bool a.lo.op, .int .i64 a.lo.v.k, .int .i64 a.lo.v.n, .string a.lo.v.s, .bool a.lo.inn, .bool a.hi.op, .int .i64 a.hi.v.k, .int .i64 a.hi.v.n, .string a.hi.v.s, .bool a.hi.inn, .bool a.emp]) ∧ Hid (Box wx (w.heap.size + 1) [.int .i64 b.ix, .bool b.lo.op, .int .i64 b.lo.v.k, .int .i64 b.lo.v.n, .string b.lo.v.s, .bool b.lo.inn, .bool b.hi.op, .int .i64 b.hi.v.k, .int .i64 b.hi.v.n, .string b.hi.v.s, .bool b.hi.inn, .bool b.emp]) ∧ Hid (Box wx (w.heap.size + 2) [.int .i64 v.k, .int .i64 v.n, .string v.s]) ∧ Hid (Below w.heap.size w wx))
  case first =>
    refine inv_begin (k := 12) (m := 2) 6 [some 12, some 13, some 14, some 15, some 16, some 17, some 18, some 19, some 20, some 21, some 7, some 8] [some (.agg #[.int .i64 a.ix, .bool a.lo.op, .int .i64 a.lo.v.k, .int .i64 a.lo.v.n, .string a.lo.v.s, .bool a.lo.inn, .bool a.hi.op, .int .i64 a.hi.v.k, .int .i64 a.hi.v.n, .string a.hi.v.s, .bool a.hi.inn, .bool a.emp]), some (.agg #[.int .i64 a.ix, .bool a.lo.op, .int .i64 a.lo.v.k, .int .i64 a.lo.v.n, .string a.lo.v.s, .bool a.lo.inn, .bool a.hi.op, .int .i64 a.hi.v.k, .int .i64 a.hi.v.n, .string a.hi.v.s, .bool a.hi.inn, .bool a.emp]), some (.agg #[.int .i64 b.ix, .bool b.lo.op, .int .i64 b.lo.v.k, .int .i64 b.lo.v.n, .string b.lo.v.s, .bool b.lo.inn, .bool b.hi.op, .int .i64 b.hi.v.k, .int .i64 b.hi.v.n, .string b.hi.v.s, .bool b.hi.inn, .bool b.emp]), some (.agg #[.int .i64 b.ix, .bool b.lo.op, .int .i64 b.lo.v.k, .int .i64 b.lo.v.n, .string b.lo.v.s, .bool b.lo.inn, .bool b.hi.op, .int .i64 b.hi.v.k, .int .i64 b.hi.v.n, .string b.hi.v.s, .bool b.hi.inn, .bool b.emp]), some (.agg #[.int .i64 m1.ix, .bool m1.lo.op, .int .i64 m1.lo.v.k, .int .i64 m1.lo.v.n, .string m1.lo.v.s, .bool m1.lo.inn, .bool m1.hi.op, .int .i64 m1.hi.v.k, .int .i64 m1.hi.v.n, .string m1.hi.v.s, .bool m1.hi.inn, .bool m1.emp]), some (.agg #[.int .i64 b.ix, .bool b.lo.op, .int .i64 b.lo.v.k, .int .i64 b.lo.v.n, .string b.lo.v.s, .bool b.lo.inn, .bool b.hi.op, .int .i64 b.hi.v.k, .int .i64 b.hi.v.n, .string b.hi.v.s, .bool b.hi.inn, .bool b.emp]), some (.agg #[.int .i64 b.ix, .bool b.lo.op, .int .i64 b.lo.v.k, .int .i64 b.lo.v.n, .string b.lo.v.s, .bool b.lo.inn, .bool b.hi.op, .int .i64 b.hi.v.k, .int .i64 b.hi.v.n, .string b.hi.v.s, .bool b.hi.inn, .bool b.emp]), some (.agg #[.int .i64 a.ix, .bool a.lo.op, .int .i64 a.lo.v.k, .int .i64 a.lo.v.n, .string a.lo.v.s, .bool a.lo.inn, .bool a.hi.op, .int .i64 a.hi.v.k, .int .i64 a.hi.v.n, .string a.hi.v.s, .bool a.hi.inn, .bool a.emp]), some (.agg #[.int .i64 a.ix, .bool a.lo.op, .int .i64 a.lo.v.k, .int .i64 a.lo.v.n, .string a.lo.v.s, .bool a.lo.inn, .bool a.hi.op, .int .i64 a.hi.v.k, .int .i64 a.hi.v.n, .string a.hi.v.s, .bool a.hi.inn, .bool a.emp]), some (.agg #[.int .i64 m2.ix, .bool m2.lo.op, .int .i64 m2.lo.v.k, .int .i64 m2.lo.v.n, .string m2.lo.v.s, .bool m2.lo.inn, .bool m2.hi.op, .int .i64 m2.hi.v.k, .int .i64 m2.hi.v.n, .string m2.hi.v.s, .bool m2.hi.inn, .bool m2.emp]), none, none] (bothV w a b v) (fun _ => undef) (by kernel_rfl) (by simp) (by kernel_rfl) (by kernel_rfl) (by kernel_rfl) (by rfl) (by simp only [putTs, upd_ap, Act.put, List.setIfInBounds_toArray, List.set_cons_zero, List.set_cons_succ, Nat.reduceEqDiff, Nat.reduceAdd, reduceIte]) (⟨below_drewN HF.out 1, HA.out.drew, HB.out.drew, HV.out.drew, (fun h => by cases h), (fun h => by cases h), (fun h => by cases h)⟩) ?_ ?_
    · intro i hi l ts w9 hl hw hC hV
      rcases (show i = 0 ∨ i = 1 ∨ i = 2 ∨ i = 3 ∨ i = 4 ∨ i = 5 ∨ i = 6 ∨ i = 7 ∨ i = 8 ∨ i = 9 ∨ i = 10 ∨ i = 11 by omega) with rfl | rfl | rfl | rfl | rfl | rfl | rfl | rfl | rfl | rfl | rfl | rfl
      · refine inv_step (o := { dst := some 12, op := Go.Op.load 42 (Go.Operand.tmp 3), type := 42, pos := "law.go:60", after := #[], guard := none }) (by rfl) (fun K2 hK => ?_)
        simp only [putTs, upd_ap, Act.put, List.setIfInBounds_toArray, List.set_cons_zero, List.set_cons_succ, Nat.reduceEqDiff, Nat.reduceAdd, reduceIte] at hK ⊢
        replace hK := Lib.hid hK
        have zA := hV.2.1
        have zzA0 := zA.c 0 _ rfl
        have zzA1 := zA.c 1 _ rfl
        have zzA2 := zA.c 2 _ rfl
        have zzA3 := zA.c 3 _ rfl
        have zzA4 := zA.c 4 _ rfl
        have zzA5 := zA.c 5 _ rfl
        have zzA6 := zA.c 6 _ rfl
        have zzA7 := zA.c 7 _ rfl
        have zzA8 := zA.c 8 _ rfl
        have zzA9 := zA.c 9 _ rfl
        have zzA10 := zA.c 10 _ rfl
        have zzA11 := zA.c 11 _ rfl
        clear zA
        go_simp
        exact hK.out _ _ (fun c hc => Option.some.inj (Option.some.inj hc)) (hV.move (by decide) (by decide) (Below.refl _ _))
      · have e0 := hC 0 _ rfl (hw 0 (by kernel_rfl))
        refine inv_step (o := { dst := some 13, op := Go.Op.call { callee := Go.Callee.value (Go.Operand.func 16), args := #[Go.Operand.tmp 12], argTypes := #[42] }, type := 32, pos := "law.go:60", after := #[{ on := 0, ground := Go.Ground.data }], guard := none }) (by rfl) (fun K2 hK => ?_)
        simp only [putTs, upd_ap, Act.put, List.setIfInBounds_toArray, List.set_cons_zero, List.set_cons_succ, Nat.reduceEqDiff, Nat.reduceAdd, reduceIte] at hK ⊢
        simp only [e0] at hK ⊢
        replace hK := Lib.hid hK
        go_simp
        go_wp2_with (go_at_call 16; (with_reducible refine (hofa w9).mono ?_); rintro e w8 ⟨rfl, h⟩)
        exact hK.out _ _ (fun c hc => Option.some.inj (Option.some.inj hc)) (hV.move (by decide) (by decide) h)
      · refine inv_step (o := { dst := some 14, op := Go.Op.load 42 (Go.Operand.tmp 4), type := 42, pos := "law.go:60", after := #[], guard := none }) (by rfl) (fun K2 hK => ?_)
        simp only [putTs, upd_ap, Act.put, List.setIfInBounds_toArray, List.set_cons_zero, List.set_cons_succ, Nat.reduceEqDiff, Nat.reduceAdd, reduceIte] at hK ⊢
        replace hK := Lib.hid hK
        have zA := hV.2.2.1
        have zzA0 := zA.c 0 _ rfl
        have zzA1 := zA.c 1 _ rfl
        have zzA2 := zA.c 2 _ rfl
        have zzA3 := zA.c 3 _ rfl
        have zzA4 := zA.c 4 _ rfl
        have zzA5 := zA.c 5 _ rfl
        have zzA6 := zA.c 6 _ rfl
        have zzA7 := zA.c 7 _ rfl
        have zzA8 := zA.c 8 _ rfl
        have zzA9 := zA.c 9 _ rfl
        have zzA10 := zA.c 10 _ rfl
        have zzA11 := zA.c 11 _ rfl
        clear zA
        go_simp
        exact hK.out _ _ (fun c hc => Option.some.inj (Option.some.inj hc)) (hV.move (by decide) (by decide) (Below.refl _ _))
      · have e1 := hC 1 _ rfl (hw 1 (by kernel_rfl))
        have e2 := hC 2 _ rfl (hw 2 (by kernel_rfl))
        refine inv_step (o := { dst := some 15, op := Go.Op.call { callee := Go.Callee.value (Go.Operand.func 16), args := #[Go.Operand.tmp 14], argTypes := #[42] }, type := 32, pos := "law.go:60", after := #[{ on := 2, ground := Go.Ground.data }, { on := 1, ground := Go.Ground.chain }], guard := none }) (by rfl) (fun K2 hK => ?_)
        simp only [putTs, upd_ap, Act.put, List.setIfInBounds_toArray, List.set_cons_zero, List.set_cons_succ, Nat.reduceEqDiff, Nat.reduceAdd, reduceIte] at hK ⊢
        simp only [e1, e2] at hK ⊢
        replace hK := Lib.hid hK
        go_simp
        go_wp2_with (go_at_call 16; (with_reducible refine (hofb w9).mono ?_); rintro e w8 ⟨rfl, h⟩)
        exact hK.out _ _ (fun c hc => Option.some.inj (Option.some.inj hc)) (hV.move (by decide) (by decide) h)
      · have e1 := hC 1 _ rfl (hw 1 (by kernel_rfl))
        have e3 := hC 3 _ rfl (hw 3 (by kernel_rfl))
        refine inv_step (o := { dst := some 16, op := Go.Op.call { callee := Go.Callee.value (Go.Operand.func 15), args := #[Go.Operand.tmp 13, Go.Operand.tmp 15], argTypes := #[32, 32] }, type := 32, pos := "law.go:60", after := #[{ on := 1, ground := Go.Ground.data }, { on := 3, ground := Go.Ground.data }, { on := 3, ground := Go.Ground.chain }], guard := none }) (by rfl) (fun K2 hK => ?_)
        simp only [putTs, upd_ap, Act.put, List.setIfInBounds_toArray, List.set_cons_zero, List.set_cons_succ, Nat.reduceEqDiff, Nat.reduceAdd, reduceIte] at hK ⊢
        simp only [e1, e3] at hK ⊢
        replace hK := Lib.hid hK
        go_simp
        go_wp2_with (go_at_call 15; (with_reducible refine (hmt1 w9).mono ?_); rintro e w8 ⟨rfl, h⟩)
        exact hK.out _ _ (fun c hc => Option.some.inj (Option.some.inj hc)) (hV.move (by decide) (by decide) h)
      · refine inv_step (o := { dst := some 17, op := Go.Op.load 42 (Go.Operand.tmp 4), type := 42, pos := "law.go:60", after := #[], guard := none }) (by rfl) (fun K2 hK => ?_)
        simp only [putTs, upd_ap, Act.put, List.setIfInBounds_toArray, List.set_cons_zero, List.set_cons_succ, Nat.reduceEqDiff, Nat.reduceAdd, reduceIte] at hK ⊢
        replace hK := Lib.hid hK
        have zA := hV.2.2.1
        have zzA0 := zA.c 0 _ rfl
        have zzA1 := zA.c 1 _ rfl
        have zzA2 := zA.c 2 _ rfl
        have zzA3 := zA.c 3 _ rfl
        have zzA4 := zA.c 4 _ rfl
        have zzA5 := zA.c 5 _ rfl
        have zzA6 := zA.c 6 _ rfl
        have zzA7 := zA.c 7 _ rfl
        have zzA8 := zA.c 8 _ rfl
        have zzA9 := zA.c 9 _ rfl
        have zzA10 := zA.c 10 _ rfl
        have zzA11 := zA.c 11 _ rfl
        clear zA
        go_simp
        exact hK.out _ _ (fun c hc => Option.some.inj (Option.some.inj hc)) (hV.move (by decide) (by decide) (Below.refl _ _))
      · have e4 := hC 4 _ rfl (hw 4 (by kernel_rfl))
        have e5 := hC 5 _ rfl (hw 5 (by kernel_rfl))
        refine inv_step (o := { dst := some 18, op := Go.Op.call { callee := Go.Callee.value (Go.Operand.func 16), args := #[Go.Operand.tmp 17], argTypes := #[42] }, type := 32, pos := "law.go:60", after := #[{ on := 5, ground := Go.Ground.data }, { on := 4, ground := Go.Ground.chain }], guard := none }) (by rfl) (fun K2 hK => ?_)
        simp only [putTs, upd_ap, Act.put, List.setIfInBounds_toArray, List.set_cons_zero, List.set_cons_succ, Nat.reduceEqDiff, Nat.reduceAdd, reduceIte] at hK ⊢
        simp only [e4, e5] at hK ⊢
        replace hK := Lib.hid hK
        go_simp
        go_wp2_with (go_at_call 16; (with_reducible refine (hofb w9).mono ?_); rintro e w8 ⟨rfl, h⟩)
        exact hK.out _ _ (fun c hc => Option.some.inj (Option.some.inj hc)) (hV.move (by decide) (by decide) h)
      · refine inv_step (o := { dst := some 19, op := Go.Op.load 42 (Go.Operand.tmp 3), type := 42, pos := "law.go:60", after := #[], guard := none }) (by rfl) (fun K2 hK => ?_)
        simp only [putTs, upd_ap, Act.put, List.setIfInBounds_toArray, List.set_cons_zero, List.set_cons_succ, Nat.reduceEqDiff, Nat.reduceAdd, reduceIte] at hK ⊢
        replace hK := Lib.hid hK
        have zA := hV.2.1
        have zzA0 := zA.c 0 _ rfl
        have zzA1 := zA.c 1 _ rfl
        have zzA2 := zA.c 2 _ rfl
        have zzA3 := zA.c 3 _ rfl
        have zzA4 := zA.c 4 _ rfl
        have zzA5 := zA.c 5 _ rfl
        have zzA6 := zA.c 6 _ rfl
        have zzA7 := zA.c 7 _ rfl
        have zzA8 := zA.c 8 _ rfl
        have zzA9 := zA.c 9 _ rfl
        have zzA10 := zA.c 10 _ rfl
        have zzA11 := zA.c 11 _ rfl
        clear zA
        go_simp
        exact hK.out _ _ (fun c hc => Option.some.inj (Option.some.inj hc)) (hV.move (by decide) (by decide) (Below.refl _ _))
      · have e6 := hC 6 _ rfl (hw 6 (by kernel_rfl))
        have e7 := hC 7 _ rfl (hw 7 (by kernel_rfl))
        refine inv_step (o := { dst := some 20, op := Go.Op.call { callee := Go.Callee.value (Go.Operand.func 16), args := #[Go.Operand.tmp 19], argTypes := #[42] }, type := 32, pos := "law.go:60", after := #[{ on := 7, ground := Go.Ground.data }, { on := 6, ground := Go.Ground.chain }], guard := none }) (by rfl) (fun K2 hK => ?_)
        simp only [putTs, upd_ap, Act.put, List.setIfInBounds_toArray, List.set_cons_zero, List.set_cons_succ, Nat.reduceEqDiff, Nat.reduceAdd, reduceIte] at hK ⊢
        simp only [e6, e7] at hK ⊢
        replace hK := Lib.hid hK
        go_simp
        go_wp2_with (go_at_call 16; (with_reducible refine (hofa w9).mono ?_); rintro e w8 ⟨rfl, h⟩)
        exact hK.out _ _ (fun c hc => Option.some.inj (Option.some.inj hc)) (hV.move (by decide) (by decide) h)
      · have e6 := hC 6 _ rfl (hw 6 (by kernel_rfl))
        have e8 := hC 8 _ rfl (hw 8 (by kernel_rfl))
        refine inv_step (o := { dst := some 21, op := Go.Op.call { callee := Go.Callee.value (Go.Operand.func 15), args := #[Go.Operand.tmp 18, Go.Operand.tmp 20], argTypes := #[32, 32] }, type := 32, pos := "law.go:60", after := #[{ on := 6, ground := Go.Ground.data }, { on := 8, ground := Go.Ground.data }, { on := 8, ground := Go.Ground.chain }], guard := none }) (by rfl) (fun K2 hK => ?_)
        simp only [putTs, upd_ap, Act.put, List.setIfInBounds_toArray, List.set_cons_zero, List.set_cons_succ, Nat.reduceEqDiff, Nat.reduceAdd, reduceIte] at hK ⊢
        simp only [e6, e8] at hK ⊢
        replace hK := Lib.hid hK
        go_simp
        go_wp2_with (go_at_call 15; (with_reducible refine (hmt2 w9).mono ?_); rintro e w8 ⟨rfl, h⟩)
        exact hK.out _ _ (fun c hc => Option.some.inj (Option.some.inj hc)) (hV.move (by decide) (by decide) h)
      · refine inv_step (o := { dst := some 7, op := Go.Op.alloc 32, type := 0, pos := "law.go:60", after := #[], guard := none }) (by rfl) (fun K2 hK => ?_)
        simp only [putTs, upd_ap, Act.put, List.setIfInBounds_toArray, List.set_cons_zero, List.set_cons_succ, Nat.reduceEqDiff, Nat.reduceAdd, reduceIte] at hK ⊢
        replace hK := Lib.hid hK
        go_simp
        exact hK.out _ _ (fun c hc => by cases Option.some.inj hc) (hV.lay10 hl)
      · refine inv_step (o := { dst := some 8, op := Go.Op.alloc 32, type := 0, pos := "law.go:60", after := #[], guard := none }) (by rfl) (fun K2 hK => ?_)
        simp only [putTs, upd_ap, Act.put, List.setIfInBounds_toArray, List.set_cons_zero, List.set_cons_succ, Nat.reduceEqDiff, Nat.reduceAdd, reduceIte] at hK ⊢
        replace hK := Lib.hid hK
        go_simp
        exact hK.out _ _ (fun c hc => by cases Option.some.inj hc) (hV.lay11 hl)
    · intro ts w9 hC hV
      have e0 := hC 0 _ (by decide) rfl
      have e1 := hC 1 _ (by decide) rfl
      have e2 := hC 2 _ (by decide) rfl
      have e3 := hC 3 _ (by decide) rfl
      have e4 := hC 4 _ (by decide) rfl
      have e5 := hC 5 _ (by decide) rfl
      have e6 := hC 6 _ (by decide) rfl
      have e7 := hC 7 _ (by decide) rfl
      have e8 := hC 8 _ (by decide) rfl
      have e9 := hC 9 _ (by decide) rfl
      simp only [putTs, upd_ap, Act.put, List.setIfInBounds_toArray, List.set_cons_zero, List.set_cons_succ, Nat.reduceEqDiff, Nat.reduceAdd, reduceIte]
      simp only [e0, e1, e2, e3, e4, e5, e6, e7, e8, e9]
      obtain ⟨hb, hA, hB, hv, h7, h8, hne⟩ := hV
      have h78 := hne rfl rfl
      obtain ⟨g7, e10, hg7, hP7⟩ := h7 rfl
      obtain ⟨g8, e11, hg8, hP8⟩ := h8 rfl
      clear hne h7 h8 hC
      rw [e10, e11] at h78
      have hgg : g7 ≠ g8 := fun e => h78 (by rw [e])
      simp only [e10, e11]
      clear h78 e10 e11 e0 e1 e2 e3 e4 e5 e6 e7 e8 e9
      have HA := Lib.hid hA; have HB := Lib.hid hB; have HV := Lib.hid hv; have HP7 := Lib.hid hP7; have HP8 := Lib.hid hP8; have HF := Lib.hid hb
      clear hA hB hv hP7 hP8 hb
      refine any_stage ?_
      refine stage_all (rs := [12]) (by kernel_rfl) (by simp) (fun i0 hi0 => ?_)
      obtain rfl : i0 = 12 := by simpa using hi0
      refine stage_step (S := fun (L' : Array Bool) (w' : World) => True) (o := { dst := none, op := Go.Op.store 32 (Go.Operand.tmp 7) (Go.Operand.tmp 16), type := 0, pos := "law.go:60", after := #[{ on := 10, ground := Go.Ground.data }, { on := 4, ground := Go.Ground.data }, { on := 9, ground := Go.Ground.chain }, { on := 0, ground := Go.Ground.phase }, { on := 1, ground := Go.Ground.phase }, { on := 2, ground := Go.Ground.phase }, { on := 3, ground := Go.Ground.phase }, { on := 4, ground := Go.Ground.phase }, { on := 5, ground := Go.Ground.textOnly Go.Departure.lateStores }, { on := 6, ground := Go.Ground.textOnly Go.Departure.lateStoresUnsure }, { on := 7, ground := Go.Ground.textOnly Go.Departure.lateStores }, { on := 8, ground := Go.Ground.textOnly Go.Departure.lateStoresUnsure }, { on := 9, ground := Go.Ground.textOnly Go.Departure.lateStoresUnsure }, { on := 10, ground := Go.Ground.phase }, { on := 11, ground := Go.Ground.phase }], guard := none }) (by rfl) (fun K2 hK => ?_)
      have cHP70 := HP7.out.c 0 _ rfl; have fHP70 := HP7.out.f 0 (by simp); have cHP71 := HP7.out.c 1 _ rfl; have fHP71 := HP7.out.f 1 (by simp); have cHP72 := HP7.out.c 2 _ rfl; have fHP72 := HP7.out.f 2 (by simp); have cHP73 := HP7.out.c 3 _ rfl; have fHP73 := HP7.out.f 3 (by simp); have cHP74 := HP7.out.c 4 _ rfl; have fHP74 := HP7.out.f 4 (by simp); have cHP75 := HP7.out.c 5 _ rfl; have fHP75 := HP7.out.f 5 (by simp); have cHP76 := HP7.out.c 6 _ rfl; have fHP76 := HP7.out.f 6 (by simp); have cHP77 := HP7.out.c 7 _ rfl; have fHP77 := HP7.out.f 7 (by simp); have cHP78 := HP7.out.c 8 _ rfl; have fHP78 := HP7.out.f 8 (by simp); have cHP79 := HP7.out.c 9 _ rfl; have fHP79 := HP7.out.f 9 (by simp); have cHP710 := HP7.out.c 10 _ rfl; have fHP710 := HP7.out.f 10 (by simp); have cHP711 := HP7.out.c 11 _ rfl; have fHP711 := HP7.out.f 11 (by simp); have lHP7 := HP7.out.lt
      go_simp
      clear cHP70 fHP70 cHP71 fHP71 cHP72 fHP72 cHP73 fHP73 cHP74 fHP74 cHP75 fHP75 cHP76 fHP76 cHP77 fHP77 cHP78 fHP78 cHP79 fHP79 cHP710 fHP710 cHP711 fHP711 lHP7
      have hP := Lib.hid (puts12 HP7.out (.int .i64 m1.ix) (.bool m1.lo.op) (.int .i64 m1.lo.v.k) (.int .i64 m1.lo.v.n) (.string m1.lo.v.s) (.bool m1.lo.inn) (.bool m1.hi.op) (.int .i64 m1.hi.v.k) (.int .i64 m1.hi.v.n) (.string m1.hi.v.s) (.bool m1.hi.inn) (.bool m1.emp))
      clear HP7
      replace HA := Lib.hid (puts12_other HA.out (show g7 ≠ w.heap.size by omega) (.int .i64 m1.ix) (.bool m1.lo.op) (.int .i64 m1.lo.v.k) (.int .i64 m1.lo.v.n) (.string m1.lo.v.s) (.bool m1.lo.inn) (.bool m1.hi.op) (.int .i64 m1.hi.v.k) (.int .i64 m1.hi.v.n) (.string m1.hi.v.s) (.bool m1.hi.inn) (.bool m1.emp))
      replace HB := Lib.hid (puts12_other HB.out (show g7 ≠ w.heap.size + 1 by omega) (.int .i64 m1.ix) (.bool m1.lo.op) (.int .i64 m1.lo.v.k) (.int .i64 m1.lo.v.n) (.string m1.lo.v.s) (.bool m1.lo.inn) (.bool m1.hi.op) (.int .i64 m1.hi.v.k) (.int .i64 m1.hi.v.n) (.string m1.hi.v.s) (.bool m1.hi.inn) (.bool m1.emp))
      replace HV := Lib.hid (puts12_other HV.out (show g7 ≠ w.heap.size + 2 by omega) (.int .i64 m1.ix) (.bool m1.lo.op) (.int .i64 m1.lo.v.k) (.int .i64 m1.lo.v.n) (.string m1.lo.v.s) (.bool m1.lo.inn) (.bool m1.hi.op) (.int .i64 m1.hi.v.k) (.int .i64 m1.hi.v.n) (.string m1.hi.v.s) (.bool m1.hi.inn) (.bool m1.emp))
      replace HP8 := Lib.hid (puts12_other HP8.out (show g7 ≠ g8 by omega) (.int .i64 m1.ix) (.bool m1.lo.op) (.int .i64 m1.lo.v.k) (.int .i64 m1.lo.v.n) (.string m1.lo.v.s) (.bool m1.lo.inn) (.bool m1.hi.op) (.int .i64 m1.hi.v.k) (.int .i64 m1.hi.v.n) (.string m1.hi.v.s) (.bool m1.hi.inn) (.bool m1.emp))
      replace HF := Lib.hid (puts12_below HF.out (show w.heap.size ≤ g7 by omega) (.int .i64 m1.ix) (.bool m1.lo.op) (.int .i64 m1.lo.v.k) (.int .i64 m1.lo.v.n) (.string m1.lo.v.s) (.bool m1.lo.inn) (.bool m1.hi.op) (.int .i64 m1.hi.v.k) (.int .i64 m1.hi.v.n) (.string m1.hi.v.s) (.bool m1.hi.inn) (.bool m1.emp))
      refine hK.out _ _ trivial ?_
      clear hK K2
      try simp only [Act.put, List.setIfInBounds_toArray, List.set_cons_zero, List.set_cons_succ]
      generalize ((((((((((((w9.setCell ⟨g7, 0, none⟩ (.int .i64 m1.ix)).setCell ⟨g7, 1, none⟩ (.bool m1.lo.op)).setCell ⟨g7, 2, none⟩ (.int .i64 m1.lo.v.k)).setCell ⟨g7, 3, none⟩ (.int .i64 m1.lo.v.n)).setCell ⟨g7, 4, none⟩ (.string m1.lo.v.s)).setCell ⟨g7, 5, none⟩ (.bool m1.lo.inn)).setCell ⟨g7, 6, none⟩ (.bool m1.hi.op)).setCell ⟨g7, 7, none⟩ (.int .i64 m1.hi.v.k)).setCell ⟨g7, 8, none⟩ (.int .i64 m1.hi.v.n)).setCell ⟨g7, 9, none⟩ (.string m1.hi.v.s)).setCell ⟨g7, 10, none⟩ (.bool m1.hi.inn)).setCell ⟨g7, 11, none⟩ (.bool m1.emp)) = w10 at *
      have HP7 := hP
      clear hP
      refine stage_all (rs := [13]) (by kernel_rfl) (by simp) (fun i0 hi0 => ?_)
      obtain rfl : i0 = 13 := by simpa using hi0
      refine stage_step (S := fun (L' : Array Bool) (w' : World) => True) (o := { dst := none, op := Go.Op.store 32 (Go.Operand.tmp 8) (Go.Operand.tmp 21), type := 0, pos := "law.go:60", after := #[{ on := 11, ground := Go.Ground.data }, { on := 9, ground := Go.Ground.data }, { on := 12, ground := Go.Ground.chain }, { on := 0, ground := Go.Ground.phase }, { on := 1, ground := Go.Ground.phase }, { on := 2, ground := Go.Ground.phase }, { on := 3, ground := Go.Ground.phase }, { on := 4, ground := Go.Ground.phase }, { on := 5, ground := Go.Ground.phase }, { on := 6, ground := Go.Ground.phase }, { on := 7, ground := Go.Ground.phase }, { on := 8, ground := Go.Ground.phase }, { on := 9, ground := Go.Ground.phase }, { on := 10, ground := Go.Ground.phase }, { on := 11, ground := Go.Ground.phase }, { on := 12, ground := Go.Ground.phase }], guard := none }) (by rfl) (fun K2 hK => ?_)
      have cHP80 := HP8.out.c 0 _ rfl; have fHP80 := HP8.out.f 0 (by simp); have cHP81 := HP8.out.c 1 _ rfl; have fHP81 := HP8.out.f 1 (by simp); have cHP82 := HP8.out.c 2 _ rfl; have fHP82 := HP8.out.f 2 (by simp); have cHP83 := HP8.out.c 3 _ rfl; have fHP83 := HP8.out.f 3 (by simp); have cHP84 := HP8.out.c 4 _ rfl; have fHP84 := HP8.out.f 4 (by simp); have cHP85 := HP8.out.c 5 _ rfl; have fHP85 := HP8.out.f 5 (by simp); have cHP86 := HP8.out.c 6 _ rfl; have fHP86 := HP8.out.f 6 (by simp); have cHP87 := HP8.out.c 7 _ rfl; have fHP87 := HP8.out.f 7 (by simp); have cHP88 := HP8.out.c 8 _ rfl; have fHP88 := HP8.out.f 8 (by simp); have cHP89 := HP8.out.c 9 _ rfl; have fHP89 := HP8.out.f 9 (by simp); have cHP810 := HP8.out.c 10 _ rfl; have fHP810 := HP8.out.f 10 (by simp); have cHP811 := HP8.out.c 11 _ rfl; have fHP811 := HP8.out.f 11 (by simp); have lHP8 := HP8.out.lt
      go_simp
      clear cHP80 fHP80 cHP81 fHP81 cHP82 fHP82 cHP83 fHP83 cHP84 fHP84 cHP85 fHP85 cHP86 fHP86 cHP87 fHP87 cHP88 fHP88 cHP89 fHP89 cHP810 fHP810 cHP811 fHP811 lHP8
      have hP := Lib.hid (puts12 HP8.out (.int .i64 m2.ix) (.bool m2.lo.op) (.int .i64 m2.lo.v.k) (.int .i64 m2.lo.v.n) (.string m2.lo.v.s) (.bool m2.lo.inn) (.bool m2.hi.op) (.int .i64 m2.hi.v.k) (.int .i64 m2.hi.v.n) (.string m2.hi.v.s) (.bool m2.hi.inn) (.bool m2.emp))
      clear HP8
      replace HA := Lib.hid (puts12_other HA.out (show g8 ≠ w.heap.size by omega) (.int .i64 m2.ix) (.bool m2.lo.op) (.int .i64 m2.lo.v.k) (.int .i64 m2.lo.v.n) (.string m2.lo.v.s) (.bool m2.lo.inn) (.bool m2.hi.op) (.int .i64 m2.hi.v.k) (.int .i64 m2.hi.v.n) (.string m2.hi.v.s) (.bool m2.hi.inn) (.bool m2.emp))
      replace HB := Lib.hid (puts12_other HB.out (show g8 ≠ w.heap.size + 1 by omega) (.int .i64 m2.ix) (.bool m2.lo.op) (.int .i64 m2.lo.v.k) (.int .i64 m2.lo.v.n) (.string m2.lo.v.s) (.bool m2.lo.inn) (.bool m2.hi.op) (.int .i64 m2.hi.v.k) (.int .i64 m2.hi.v.n) (.string m2.hi.v.s) (.bool m2.hi.inn) (.bool m2.emp))
      replace HV := Lib.hid (puts12_other HV.out (show g8 ≠ w.heap.size + 2 by omega) (.int .i64 m2.ix) (.bool m2.lo.op) (.int .i64 m2.lo.v.k) (.int .i64 m2.lo.v.n) (.string m2.lo.v.s) (.bool m2.lo.inn) (.bool m2.hi.op) (.int .i64 m2.hi.v.k) (.int .i64 m2.hi.v.n) (.string m2.hi.v.s) (.bool m2.hi.inn) (.bool m2.emp))
      replace HP7 := Lib.hid (puts12_other HP7.out (show g8 ≠ g7 by omega) (.int .i64 m2.ix) (.bool m2.lo.op) (.int .i64 m2.lo.v.k) (.int .i64 m2.lo.v.n) (.string m2.lo.v.s) (.bool m2.lo.inn) (.bool m2.hi.op) (.int .i64 m2.hi.v.k) (.int .i64 m2.hi.v.n) (.string m2.hi.v.s) (.bool m2.hi.inn) (.bool m2.emp))
      replace HF := Lib.hid (puts12_below HF.out (show w.heap.size ≤ g8 by omega) (.int .i64 m2.ix) (.bool m2.lo.op) (.int .i64 m2.lo.v.k) (.int .i64 m2.lo.v.n) (.string m2.lo.v.s) (.bool m2.lo.inn) (.bool m2.hi.op) (.int .i64 m2.hi.v.k) (.int .i64 m2.hi.v.n) (.string m2.hi.v.s) (.bool m2.hi.inn) (.bool m2.emp))
      refine hK.out _ _ trivial ?_
      clear hK K2
      try simp only [Act.put, List.setIfInBounds_toArray, List.set_cons_zero, List.set_cons_succ]
      generalize ((((((((((((w10.setCell ⟨g8, 0, none⟩ (.int .i64 m2.ix)).setCell ⟨g8, 1, none⟩ (.bool m2.lo.op)).setCell ⟨g8, 2, none⟩ (.int .i64 m2.lo.v.k)).setCell ⟨g8, 3, none⟩ (.int .i64 m2.lo.v.n)).setCell ⟨g8, 4, none⟩ (.string m2.lo.v.s)).setCell ⟨g8, 5, none⟩ (.bool m2.lo.inn)).setCell ⟨g8, 6, none⟩ (.bool m2.hi.op)).setCell ⟨g8, 7, none⟩ (.int .i64 m2.hi.v.k)).setCell ⟨g8, 8, none⟩ (.int .i64 m2.hi.v.n)).setCell ⟨g8, 9, none⟩ (.string m2.hi.v.s)).setCell ⟨g8, 10, none⟩ (.bool m2.hi.inn)).setCell ⟨g8, 11, none⟩ (.bool m2.emp)) = w11 at *
      have HP8 := hP
      clear hP
      refine stage_done (by kernel_rfl) ?_ _
      go_wp2_with fail
      go_meet
      exact ⟨g7, g8, rfl, rfl, HP7, HP8, HA, HB, HV, HF⟩
  case rest =>
    clear HA HB HV HF hmt1 hmt2
    obtain ⟨g7, g8, rfl, rfl, HP7, HP8, HA, HB, HV, HF⟩ := hcut
    have hha := fun W => has_P a v W
    have hhb := fun W => has_P b v W
    have hh1 := fun W => has_P m1 v W
    have hh2 := fun W => has_P m2 v W
    rw [HEQ.out] at hh1
    rw [HEQ2.out] at hh2
    clear HEQ HEQ2
    generalize hasP a v = x at *
    generalize hasP b v = y at *
    have qA0 := later_cell HA.out.lt (HA.out.c 0 _ rfl)
    have qA1 := later_cell HA.out.lt (HA.out.c 1 _ rfl)
    have qA2 := later_cell HA.out.lt (HA.out.c 2 _ rfl)
    have qA3 := later_cell HA.out.lt (HA.out.c 3 _ rfl)
    have qA4 := later_cell HA.out.lt (HA.out.c 4 _ rfl)
    have qA5 := later_cell HA.out.lt (HA.out.c 5 _ rfl)
    have qA6 := later_cell HA.out.lt (HA.out.c 6 _ rfl)
    have qA7 := later_cell HA.out.lt (HA.out.c 7 _ rfl)
    have qA8 := later_cell HA.out.lt (HA.out.c 8 _ rfl)
    have qA9 := later_cell HA.out.lt (HA.out.c 9 _ rfl)
    have qA10 := later_cell HA.out.lt (HA.out.c 10 _ rfl)
    have qA11 := later_cell HA.out.lt (HA.out.c 11 _ rfl)
    have qB0 := later_cell HB.out.lt (HB.out.c 0 _ rfl)
    have qB1 := later_cell HB.out.lt (HB.out.c 1 _ rfl)
    have qB2 := later_cell HB.out.lt (HB.out.c 2 _ rfl)
    have qB3 := later_cell HB.out.lt (HB.out.c 3 _ rfl)
    have qB4 := later_cell HB.out.lt (HB.out.c 4 _ rfl)
    have qB5 := later_cell HB.out.lt (HB.out.c 5 _ rfl)
    have qB6 := later_cell HB.out.lt (HB.out.c 6 _ rfl)
    have qB7 := later_cell HB.out.lt (HB.out.c 7 _ rfl)
    have qB8 := later_cell HB.out.lt (HB.out.c 8 _ rfl)
    have qB9 := later_cell HB.out.lt (HB.out.c 9 _ rfl)
    have qB10 := later_cell HB.out.lt (HB.out.c 10 _ rfl)
    have qB11 := later_cell HB.out.lt (HB.out.c 11 _ rfl)
    have qV0 := later_cell HV.out.lt (HV.out.c 0 _ rfl)
    have qV1 := later_cell HV.out.lt (HV.out.c 1 _ rfl)
    have qV2 := later_cell HV.out.lt (HV.out.c 2 _ rfl)
    go_upto_region 4 with (fail)
    cases x <;> cases y
    all_goals
      (refine wp_region_later (by kernel_rfl) (by kernel_rfl) ?_
       repeat (first | go_big_quiet_step (first | (go_at_call 16; first | (with_reducible exact later_of (hofa _)) | (with_reducible exact later_of (hofb _))) | (go_at_call 17; first | (with_reducible exact later_of (hha _)) | (with_reducible exact later_of (hhb _)))) | quiet_step (first | (go_at_call 16; first | (with_reducible exact later_of (hofa _)) | (with_reducible exact later_of (hofb _))) | (go_at_call 17; first | (with_reducible exact later_of (hha _)) | (with_reducible exact later_of (hhb _)))))
       refine wpQuiet_nil ?_
       intro _ hw'
       obtain ⟨qL, hw''⟩ := hw'
       subst hw''
       obtain ⟨wL, h⟩ := qL)
      dsimp only
      clear qA0 qA1 qA2 qA3 qA4 qA5 qA6 qA7 qA8 qA9 qA10 qA11 qB0 qB1 qB2 qB3 qB4 qB5 qB6 qB7 qB8 qB9 qB10 qB11 qV0 qV1 qV2
      replace HP7 := Lib.hid (HP7.out.below h HP7.out.lt); replace HP8 := Lib.hid (HP8.out.below h HP8.out.lt); replace HV := Lib.hid (HV.out.below h HV.out.lt); replace HF := Lib.hid (below_step' HF.out h)
      clear h HA HB
      have cHP70 := HP7.out.c 0 _ rfl; have fHP70 := HP7.out.f 0 (by simp); have cHP71 := HP7.out.c 1 _ rfl; have fHP71 := HP7.out.f 1 (by simp); have cHP72 := HP7.out.c 2 _ rfl; have fHP72 := HP7.out.f 2 (by simp); have cHP73 := HP7.out.c 3 _ rfl; have fHP73 := HP7.out.f 3 (by simp); have cHP74 := HP7.out.c 4 _ rfl; have fHP74 := HP7.out.f 4 (by simp); have cHP75 := HP7.out.c 5 _ rfl; have fHP75 := HP7.out.f 5 (by simp); have cHP76 := HP7.out.c 6 _ rfl; have fHP76 := HP7.out.f 6 (by simp); have cHP77 := HP7.out.c 7 _ rfl; have fHP77 := HP7.out.f 7 (by simp); have cHP78 := HP7.out.c 8 _ rfl; have fHP78 := HP7.out.f 8 (by simp); have cHP79 := HP7.out.c 9 _ rfl; have fHP79 := HP7.out.f 9 (by simp); have cHP710 := HP7.out.c 10 _ rfl; have fHP710 := HP7.out.f 10 (by simp); have cHP711 := HP7.out.c 11 _ rfl; have fHP711 := HP7.out.f 11 (by simp); have lHP7 := HP7.out.lt; have cHV0 := HV.out.c 0 _ rfl; have fHV0 := HV.out.f 0 (by simp); have cHV1 := HV.out.c 1 _ rfl; have fHV1 := HV.out.f 1 (by simp); have cHV2 := HV.out.c 2 _ rfl; have fHV2 := HV.out.f 2 (by simp); have lHV := HV.out.lt
      go_wp2_with fail
      clear cHP70 fHP70 cHP71 fHP71 cHP72 fHP72 cHP73 fHP73 cHP74 fHP74 cHP75 fHP75 cHP76 fHP76 cHP77 fHP77 cHP78 fHP78 cHP79 fHP79 cHP710 fHP710 cHP711 fHP711 lHP7; clear cHV0 fHV0 cHV1 fHV1 cHV2 fHV2 lHV
      refine (hh1 _).mono ?_; rintro e w5 ⟨rfl, h⟩
      replace HP7 := Lib.hid (HP7.out.below h HP7.out.lt); replace HP8 := Lib.hid (HP8.out.below h HP8.out.lt); replace HV := Lib.hid (HV.out.below h HV.out.lt); replace HF := Lib.hid (below_step' HF.out h)
      clear h
      have cHP80 := HP8.out.c 0 _ rfl; have fHP80 := HP8.out.f 0 (by simp); have cHP81 := HP8.out.c 1 _ rfl; have fHP81 := HP8.out.f 1 (by simp); have cHP82 := HP8.out.c 2 _ rfl; have fHP82 := HP8.out.f 2 (by simp); have cHP83 := HP8.out.c 3 _ rfl; have fHP83 := HP8.out.f 3 (by simp); have cHP84 := HP8.out.c 4 _ rfl; have fHP84 := HP8.out.f 4 (by simp); have cHP85 := HP8.out.c 5 _ rfl; have fHP85 := HP8.out.f 5 (by simp); have cHP86 := HP8.out.c 6 _ rfl; have fHP86 := HP8.out.f 6 (by simp); have cHP87 := HP8.out.c 7 _ rfl; have fHP87 := HP8.out.f 7 (by simp); have cHP88 := HP8.out.c 8 _ rfl; have fHP88 := HP8.out.f 8 (by simp); have cHP89 := HP8.out.c 9 _ rfl; have fHP89 := HP8.out.f 9 (by simp); have cHP810 := HP8.out.c 10 _ rfl; have fHP810 := HP8.out.f 10 (by simp); have cHP811 := HP8.out.c 11 _ rfl; have fHP811 := HP8.out.f 11 (by simp); have lHP8 := HP8.out.lt; have cHV0 := HV.out.c 0 _ rfl; have fHV0 := HV.out.f 0 (by simp); have cHV1 := HV.out.c 1 _ rfl; have fHV1 := HV.out.f 1 (by simp); have cHV2 := HV.out.c 2 _ rfl; have fHV2 := HV.out.f 2 (by simp); have lHV := HV.out.lt
      go_wp2_with fail
      clear cHP80 fHP80 cHP81 fHP81 cHP82 fHP82 cHP83 fHP83 cHP84 fHP84 cHP85 fHP85 cHP86 fHP86 cHP87 fHP87 cHP88 fHP88 cHP89 fHP89 cHP810 fHP810 cHP811 fHP811 lHP8; clear cHV0 fHV0 cHV1 fHV1 cHV2 fHV2 lHV
      refine (hh2 _).mono ?_; rintro e w6 ⟨rfl, h⟩
      replace HP7 := Lib.hid (HP7.out.below h HP7.out.lt); replace HP8 := Lib.hid (HP8.out.below h HP8.out.lt); replace HF := Lib.hid (below_step' HF.out h)
      clear h
      have k7 := HP7.out.c 11 _ rfl
      have k8 := HP8.out.c 11 _ rfl
      rw [← HEM.out] at k8
      have HFo := HF.out
      go_wp2
      go_ret
      exact ⟨by first | rfl | (generalize m1.emp = em; cases em <;> rfl), HFo⟩
end Go.Proofs.Ytfmfmammcjpboaa
