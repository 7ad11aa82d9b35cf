/- Package lock: put. -/
import Derived.Test.YtdiclnkkddnncaaLkI
namespace Go.Proofs.Ytdiclnkkddnncaa
open Go.RowKit
open Go.Shelf
set_option linter.unusedVariables false
set_option linter.unusedSimpArgs false
/-- A lock in its place: behind all that are ahead of it. -/
def putL (l : List Lk) (x : Lk) : List Lk := putAt l (l.filter (fun y => decide (lorder y x < 0))).length x
theorem place_is {l : List Lk} {x : Lk} {i : Nat} (hi : i ≤ l.length) (h1 : ∀ (k : Nat) (y : Lk), k < i → l[k]? = some y → llt y x) (h2 : ∀ (k : Nat) (y : Lk), i ≤ k → l[k]? = some y → ¬ llt y x) : (l.filter (fun y => decide (lorder y x < 0))).length = i := by
  have e : l = l.take i ++ l.drop i := (List.take_append_drop i l).symm
  have e1 : (l.take i).filter (fun y => decide (lorder y x < 0)) = l.take i := List.filter_eq_self.2 (fun y hy => by
    obtain ⟨k, hk⟩ := List.mem_iff_getElem?.1 hy
    rw [List.getElem?_take] at hk
    split at hk
    · rename_i q
      exact decide_eq_true ((lorder_neg y x).2 (h1 k y q hk))
    · cases hk)
  have e2 : (l.drop i).filter (fun y => decide (lorder y x < 0)) = [] := List.filter_eq_nil_iff.2 (fun y hy => by
    obtain ⟨k, hk⟩ := List.mem_iff_getElem?.1 hy
    rw [List.getElem?_drop] at hk
    have := h2 (i + k) y (by omega) hk
    simp only [decide_eq_true_eq]
    exact fun h => this ((lorder_neg y x).1 h))
  rw [e, List.filter_append, e1, e2, List.append_nil, List.length_take]; omega
set_option maxHeartbeats 4000000 in
set_option maxRecDepth 100000 in
theorem put_any (base : Nat) (v : Value) (l : List Lk) (x : Lk) (w : World) (hl : l.length ≤ 1000) (hs : Inc l) (hown : w.ownsRow base 35 3 v l.length (l.flatMap encL)) (hbw : base ≤ w.heap.size) :
    Calls Try.prog 34 #[v, .agg #[.int .i64 x.tx, .string x.lo, .string x.hi]] w fun e w' => ∃ v', e = .returned v' ∧ w'.ownsRow base 35 3 v' (l.length + 1) ((putL l x).flatMap encL) ∧ Below base w w' := by
  obtain ⟨A, c, rfl, hc, hn⟩ := own_slice hown
  have hsl := (SlE.of_own encL_len (by decide) hown)
  have ba : Below w.heap.size w (w.alloc (.cells #[.int .i64 x.tx, .string x.lo, .string x.hi] 35)) := (Below.refl _ w).alloc (Nat.le_refl _) _
  have HRow : RowE encL 3 (w.alloc (.cells #[.int .i64 x.tx, .string x.lo, .string x.hi] 35)) A l := by
    obtain ⟨A', c', hv, _, hr, _⟩ := hsl
    cases hv; exact hr.below ba
  have hse := search_any A c l x _ HRow hs hl
  have HB := Lib.hid (Box3.new w (.int .i64 x.tx) (.string x.lo) (.string x.hi) 35)
  have HO := Lib.hid hown
  clear HRow hs hsl hown
  have hx : Hid ((encL x).toArray = #[.int .i64 x.tx, .string x.lo, .string x.hi]) := Lib.hid rfl
  go_enter Try.func34, Try.ntmps34
  go_wp2_with fail
  refine hse.mono ?_; rintro e w1 ⟨i, ok, rfl, hi, h1, h2, hb⟩
  have hpl := place_is hi h1 h2
  have HP : Hid (putL l x = putAt l i x) := Lib.hid (by unfold putL; rw [hpl])
  have hB1 := HB.out.below hb HB.out.lt
  have hO1 := Lib.hid (own_below HO.out (ba.trans (hb.mono (by simp))))
  have hF := Lib.hid ((ba.trans (hb.mono (by simp))).mono hbw)
  have hbw1 : base ≤ w1.heap.size := by have := hb.size; simp at this; omega
  have hins := insert_any base w1.heap.size i (.slice A l.length c) l x (w1.alloc (.cells #[.int .i64 x.tx, .string x.lo, .string x.hi] 35)) hl hi (hO1.out.alloc _) (heap_alloc_new w1 _) (fun e => by have := (hO1.out.lt _ e).2; omega) (by simp; omega)
  have hF2 := Lib.hid (hF.out.alloc (by omega) (.cells #[.int .i64 x.tx, .string x.lo, .string x.hi] 35))
  obtain ⟨c00, c01, c02, f00, f01, f02, l0⟩ := hB1
  clear h1 h2 hpl hb hse ba
  go_wp2_with fail
  refine hins.mono ?_; rintro e w2 ⟨v', rfl, hown', hb'⟩
  clear c00 c01 c02 f00 f01 f02 l0 hins
  go_wp2
  go_ret
  exact ⟨v', rfl, by rw [HP.out]; exact hown', hF2.out.trans hb'⟩
end Go.Proofs.Ytdiclnkkddnncaa
