/- The page's locks: the small functions. -/
import Derived.Test.YtdiclnkkddnncaaLkW2
import Derived.Test.YtdiclnkkddnncaaLkO
import Derived.Test.YtdiclnkkddnncaaStage
namespace Go.Proofs.Ytdiclnkkddnncaa
open Go.RowKit
set_option linter.unusedVariables false
set_option linter.unusedSimpArgs false
def uptoB (a b : ByteArray) : Bool := nil? b || (!nil? a && !lt? b a)
theorem nil_eq {a b : ByteArray} (h : a.toList = b.toList) : nil? a = nil? b := by unfold nil?; rw [h]
theorem lt_eq {a b : ByteArray} (h : a.toList = b.toList) : lt? b a = false := by unfold lt?; rw [h]; exact less_irrefl _
theorem upto_ends (a b : ByteArray) : uptoB a b = decide (endsR a b ≤ 0) := by
  unfold uptoB endsR
  by_cases e : a.toList = b.toList
  · have e1 : eq? a b = true := by simp [eq?, e]
    rw [if_pos e1, nil_eq e, lt_eq e]
    cases nil? b <;> rfl
  · have e1 : ¬ eq? a b = true := by simp [eq?, e]
    rw [if_neg e1]
    cases ha : nil? a with
    | true =>
      have hb : nil? b = false := by
        cases hb : nil? b with
        | false => rfl
        | true =>
          simp [nil?] at ha hb
          exact absurd (ha.trans hb.symm) e
      rw [hb]; rfl
    | false =>
      cases hb : nil? b with
      | true => rfl
      | false =>
        have ht := less_total a.toList b.toList
        have he : (a.toList == b.toList) = false := by simpa using e
        rw [he, Bool.or_false] at ht
        simp only [Bool.false_or, Bool.not_false, Bool.true_and, Bool.false_eq_true, if_false]
        unfold cmpS lt?
        cases h1 : Op.bytesLess a.toList b.toList with
        | true => rw [h1] at ht; rw [← ht]; simp
        | false => rw [h1] at ht; rw [← ht]; simp
theorem touches_symm (x y : Lk) : touches y x = touches x y := by
  unfold touches
  have e : (y.tx == x.tx) = (x.tx == y.tx) := by rw [Bool.eq_iff_iff]; simp; exact eq_comm
  rw [e, Bool.and_assoc, Bool.and_assoc, Bool.and_comm (nil? y.hi || !lt? y.hi x.lo)]
def beforeB (x y : Lk) : Bool := if x.tx ≠ y.tx then decide (x.tx < y.tx) else if eq? x.lo y.lo = false then lt? x.lo y.lo else (!eq? x.hi y.hi) && uptoB x.hi y.hi
theorem before_order (x y : Lk) : beforeB x y = decide (lorder x y < 0) := by
  have h2 : cmpI x.tx y.tx = 0 ↔ x.tx = y.tx := by unfold cmpI; (repeat' split) <;> omega
  have h1 : cmpI x.tx y.tx < 0 ↔ x.tx < y.tx := by unfold cmpI; (repeat' split) <;> omega
  unfold beforeB lorder
  by_cases e : x.tx = y.tx
  · rw [if_neg (fun h => h e : ¬ (x.tx ≠ y.tx)), if_neg (fun h => h (h2.2 e) : ¬ (cmpI x.tx y.tx ≠ 0))]
    by_cases f : x.lo.toList = y.lo.toList
    · have f1 : eq? x.lo y.lo = true := by simp [eq?, f]
      rw [if_neg (by rw [f1]; simp : ¬ (eq? x.lo y.lo = false)), if_neg (fun h => h ((cmpS_zero _ _).2 f) : ¬ (cmpS x.lo y.lo ≠ 0)), upto_ends]
      have hz := ends_zero x.hi y.hi
      cases g : eq? x.hi y.hi with
      | true =>
        have g' : endsR x.hi y.hi = 0 := hz.2 (by simpa [eq?] using g)
        rw [g']; rfl
      | false =>
        have g' : ¬ endsR x.hi y.hi = 0 := fun h => by have := hz.1 h; simp [eq?, this] at g
        simp only [Bool.not_false, Bool.true_and]
        congr 1
        exact propext ⟨fun h => by omega, fun h => by omega⟩
    · have f1 : eq? x.lo y.lo = false := by simp [eq?, f]
      rw [if_pos f1, if_pos (fun h => f ((cmpS_zero _ _).1 h) : cmpS x.lo y.lo ≠ 0)]
      have := cmpS_neg x.lo y.lo
      cases g : lt? x.lo y.lo with
      | true => rw [g] at this; simp [this]
      | false => rw [g] at this; simp at this; simp [this]
  · rw [if_pos (e : x.tx ≠ y.tx), if_pos (fun h => e (h2.1 h) : cmpI x.tx y.tx ≠ 0)]
    congr 1
    exact propext h1.symm
set_option maxRecDepth 100000 in
theorem rupto_any (a b : ByteArray) (w : World) : Calls Try.prog 38 #[.string a, .string b] w fun e w' => e = .returned (.bool (uptoB a b)) ∧ w = w' := by
  go_enter Try.func38, Try.ntmps38
  go_wp2
  all_goals
    go_ret
    exact ⟨ret_bool (by simp_all [uptoB, nil?, lt?]), rfl⟩
set_option maxRecDepth 100000 in
theorem rmay_any (x : Lk) (w : World) : Calls Try.prog 37 #[.agg #[.int .i64 x.tx, .string x.lo, .string x.hi]] w fun e w' => e = .returned (.bool (mayL x)) ∧ Below w.heap.size w w' := by
  obtain ⟨tx, lo, hi⟩ := x
  dsimp only
  go_enter Try.func37, Try.ntmps37
  go_wp2
  all_goals
    go_ret
    exact ⟨ret_bool (by first | (simp_all [mayL, nil?, lt?]; done) | (simp_all [mayL, nil?, lt?]; intros; omega)), (by (repeat (first | (with_reducible exact Below.refl _ _) | apply below_alloc _ (Nat.le_refl _) | refine below_set ?_ (by first | exact Nat.le_refl _ | omega) | apply below_drewN | refine below_step ?_ HB)))⟩
set_option maxHeartbeats 2000000 in
set_option maxRecDepth 100000 in
theorem rbefore_any (x y : Lk) (w : World) : Calls Try.prog 45 #[.agg #[.int .i64 x.tx, .string x.lo, .string x.hi], .agg #[.int .i64 y.tx, .string y.lo, .string y.hi]] w fun e w' => e = .returned (.bool (beforeB x y)) ∧ Below w.heap.size w w' := by
  obtain ⟨tx, lo, hi⟩ := x
  obtain ⟨tx', lo', hi'⟩ := y
  dsimp only
  go_enter Try.func45, Try.ntmps45
  go_wp2_with (go_at_call 38; refine (rupto_any _ _ _).mono ?_; rintro e w' ⟨rfl, rfl⟩)
  all_goals
    go_ret
    exact ⟨ret_bool (by simp_all [beforeB, eq?, lt?]), (by (repeat (first | (with_reducible exact Below.refl _ _) | apply below_alloc _ (Nat.le_refl _) | refine below_set ?_ (by first | exact Nat.le_refl _ | omega) | apply below_drewN | refine below_step ?_ HB)))⟩
set_option maxHeartbeats 2000000 in
set_option maxRecDepth 100000 in
theorem rreaches_any (x : Lk) (low : ByteArray) (w : World) : Calls Try.prog 52 #[.agg #[.int .i64 x.tx, .string x.lo, .string x.hi], .string low] w fun e w' => e = .returned (.bool (nil? x.hi || !lt? x.hi low)) ∧ Below w.heap.size w w' := by
  obtain ⟨tx, lo, hi⟩ := x
  dsimp only
  go_enter Try.func52, Try.ntmps52
  go_wp2
  all_goals
    go_ret
    exact ⟨ret_bool (by simp_all [nil?, lt?]), (by (repeat (first | (with_reducible exact Below.refl _ _) | apply below_alloc _ (Nat.le_refl _) | refine below_set ?_ (by first | exact Nat.le_refl _ | omega) | apply below_drewN | refine below_step ?_ HB)))⟩
theorem bytes_eq {a b : ByteArray} (h : a.toList = b.toList) : a = b := by
  rw [ByteArray.toList_eq, ByteArray.toList_eq] at h
  obtain ⟨a⟩ := a
  obtain ⟨b⟩ := b
  congr 1
  exact Array.ext' h
theorem join_upto (x y : Lk) : joinL x y = ⟨x.tx, minS x.lo y.lo, if uptoB x.hi y.hi = true then y.hi else x.hi⟩ := by
  unfold joinL
  congr 1
  rw [upto_ends]
  by_cases h1 : endsR x.hi y.hi < 0
  · rw [if_pos h1, if_pos (decide_eq_true (by omega))]
  · rw [if_neg h1]
    by_cases h2 : endsR x.hi y.hi = 0
    · rw [if_pos (decide_eq_true (by omega))]; exact bytes_eq ((ends_zero _ _).1 h2)
    · rw [if_neg (by simp; omega)]
set_option maxHeartbeats 4000000 in
set_option maxRecDepth 100000 in
theorem rtouches_any (x y : Lk) (w : World) : Calls Try.prog 40 #[.agg #[.int .i64 x.tx, .string x.lo, .string x.hi], .agg #[.int .i64 y.tx, .string y.lo, .string y.hi]] w fun e w' => e = .returned (.bool (touches x y)) ∧ Below w.heap.size w w' := by
  have M1 := fun W => rreaches_any x y.lo W
  have M2 := fun W => rreaches_any y x.lo W
  have HT : Hid (touches x y = ((x.tx == y.tx) && (nil? x.hi || !lt? x.hi y.lo) && (nil? y.hi || !lt? y.hi x.lo))) := Lib.hid rfl
  generalize (nil? x.hi || !lt? x.hi y.lo) = r1 at *
  generalize (nil? y.hi || !lt? y.hi x.lo) = r2 at *
  generalize touches x y = r at *
  obtain ⟨tx, lo, hi⟩ := x
  obtain ⟨tx', lo', hi'⟩ := y
  dsimp only at *
  have HF : Hid (Below w.heap.size w ((w.alloc (.cells #[.int .i64 tx, .string lo, .string hi] 26)).alloc (.cells #[.int .i64 tx', .string lo', .string hi'] 26))) := Lib.hid (by (repeat (first | (with_reducible exact Below.refl _ _) | apply below_alloc _ (Nat.le_refl _) | refine below_set ?_ (by first | exact Nat.le_refl _ | omega) | apply below_drewN | refine below_step ?_ HB)))
  have BA := Lib.hid ((Box.new w #[.int .i64 tx, .string lo, .string hi] 26).alloc (.cells #[.int .i64 tx', .string lo', .string hi'] 26))
  have BB := Lib.hid (Box.new (w.alloc (.cells #[.int .i64 tx, .string lo, .string hi] 26)) #[.int .i64 tx', .string lo', .string hi'] 26)
  simp only [World.size_alloc] at BB
  go_enter Try.func40, Try.ntmps40
  go_upto_region 1 with (fail)
  generalize (w.alloc (.cells #[.int .i64 tx, .string lo, .string hi] 26)).alloc (.cells #[.int .i64 tx', .string lo', .string hi'] 26) = w0 at *
  by_cases q : tx = tx'
  · subst q
    have hq : (tx == tx) = true := by simp
    cases r1 with
    | false =>
      have cBA0 := BA.out.c 0 _ rfl; have fBA0 := BA.out.f 0 (by simp); have cBA1 := BA.out.c 1 _ rfl; have fBA1 := BA.out.f 1 (by simp); have cBA2 := BA.out.c 2 _ rfl; have fBA2 := BA.out.f 2 (by simp); have lBA := BA.out.lt; have cBB0 := BB.out.c 0 _ rfl; have fBB0 := BB.out.f 0 (by simp); have cBB1 := BB.out.c 1 _ rfl; have fBB1 := BB.out.f 1 (by simp); have cBB2 := BB.out.c 2 _ rfl; have fBB2 := BB.out.f 2 (by simp); have lBB := BB.out.lt
      go_wp2_with (go_at_call 52; (with_reducible refine (M1 _).mono ?_); rintro e w1 ⟨rfl, h1⟩; replace HF := Lib.hid (below_step' HF.out h1))
      go_ret
      exact ⟨ret_bool (by rw [HT.out]; simp), HF.out⟩
    | true =>
      have cBA0 := BA.out.c 0 _ rfl; have fBA0 := BA.out.f 0 (by simp); have cBA1 := BA.out.c 1 _ rfl; have fBA1 := BA.out.f 1 (by simp); have cBA2 := BA.out.c 2 _ rfl; have fBA2 := BA.out.f 2 (by simp); have lBA := BA.out.lt; have cBB0 := BB.out.c 0 _ rfl; have fBB0 := BB.out.f 0 (by simp); have cBB1 := BB.out.c 1 _ rfl; have fBB1 := BB.out.f 1 (by simp); have cBB2 := BB.out.c 2 _ rfl; have fBB2 := BB.out.f 2 (by simp); have lBB := BB.out.lt
      go_wp2_with (first | (go_at_call 52; (with_reducible refine (M1 _).mono ?_); rintro e w1 ⟨rfl, h1⟩; clear cBA0 fBA0 cBA1 fBA1 cBA2 fBA2 lBA; clear cBB0 fBB0 cBB1 fBB1 cBB2 fBB2 lBB; replace BA := Lib.hid (BA.out.below h1 BA.out.lt); replace BB := Lib.hid (BB.out.below h1 BB.out.lt); replace HF := Lib.hid (below_step' HF.out h1); clear h1; have cBA0 := BA.out.c 0 _ rfl; have fBA0 := BA.out.f 0 (by simp); have cBA1 := BA.out.c 1 _ rfl; have fBA1 := BA.out.f 1 (by simp); have cBA2 := BA.out.c 2 _ rfl; have fBA2 := BA.out.f 2 (by simp); have lBA := BA.out.lt; have cBB0 := BB.out.c 0 _ rfl; have fBB0 := BB.out.f 0 (by simp); have cBB1 := BB.out.c 1 _ rfl; have fBB1 := BB.out.f 1 (by simp); have cBB2 := BB.out.c 2 _ rfl; have fBB2 := BB.out.f 2 (by simp); have lBB := BB.out.lt) | (go_at_call 52; (with_reducible refine (M2 _).mono ?_); rintro e w1 ⟨rfl, h1⟩; replace HF := Lib.hid (below_step' HF.out h1)))
      go_ret
      exact ⟨ret_bool (by rw [HT.out]; simp), HF.out⟩
  · have hq : (tx == tx') = false := by simpa using q
    have cBA0 := BA.out.c 0 _ rfl; have fBA0 := BA.out.f 0 (by simp); have cBA1 := BA.out.c 1 _ rfl; have fBA1 := BA.out.f 1 (by simp); have cBA2 := BA.out.c 2 _ rfl; have fBA2 := BA.out.f 2 (by simp); have lBA := BA.out.lt; have cBB0 := BB.out.c 0 _ rfl; have fBB0 := BB.out.f 0 (by simp); have cBB1 := BB.out.c 1 _ rfl; have fBB1 := BB.out.f 1 (by simp); have cBB2 := BB.out.c 2 _ rfl; have fBB2 := BB.out.f 2 (by simp); have lBB := BB.out.lt
    go_wp2_with fail
    go_ret
    exact ⟨ret_bool (by rw [HT.out, hq]; rfl), HF.out⟩
set_option maxHeartbeats 4000000 in
set_option maxRecDepth 100000 in
theorem rone_any (x y : Lk) (w : World) : Calls Try.prog 41 #[.agg #[.int .i64 x.tx, .string x.lo, .string x.hi], .agg #[.int .i64 y.tx, .string y.lo, .string y.hi]] w fun e w' => e = .returned (.agg #[.int .i64 (joinL x y).tx, .string (joinL x y).lo, .string (joinL x y).hi]) ∧ Below w.heap.size w w' := by
  rw [join_upto]
  obtain ⟨tx, lo, hi⟩ := x
  obtain ⟨tx', lo', hi'⟩ := y
  dsimp only
  have C3 := rupto_any hi hi'
  cases hb : lt? lo' lo <;> cases hu : uptoB hi hi'
  · skip
    have hl : minS lo lo' = lo := by unfold minS; rw [if_neg (by simp [hb])]
    rw [hl, if_neg (by simp [hu])]
    have hb' : Op.bytesLess lo'.toList lo.toList = false := hb
    rw [hu] at C3
    clear hb hl
    go_enter Try.func41, Try.ntmps41
    go_wp2_with (go_at_call 38; refine (C3 _).mono ?_; rintro e wn ⟨rfl, rfl⟩)
    refine bodyPost_ret (v := .agg #[.int .i64 tx, .string lo, .string hi]) (by simp [results, Try.results41, go_sem]) rfl ⟨rfl, ?_⟩
    repeat first | (with_reducible exact Below.refl _ _) | (with_reducible refine Below.setCell ?_ (by first | (simp; done) | (simp; omega)) _) | (with_reducible refine Below.alloc ?_ (by first | (simp; done) | (simp; omega)) _)
  · skip
    have hl : minS lo lo' = lo := by unfold minS; rw [if_neg (by simp [hb])]
    rw [hl, if_pos rfl]
    have hb' : Op.bytesLess lo'.toList lo.toList = false := hb
    rw [hu] at C3
    clear hb hl
    go_enter Try.func41, Try.ntmps41
    go_wp2_with (go_at_call 38; refine (C3 _).mono ?_; rintro e wn ⟨rfl, rfl⟩)
    refine bodyPost_ret (v := .agg #[.int .i64 tx, .string lo, .string hi']) (by simp [results, Try.results41, go_sem]) rfl ⟨rfl, ?_⟩
    repeat first | (with_reducible exact Below.refl _ _) | (with_reducible refine Below.setCell ?_ (by first | (simp; done) | (simp; omega)) _) | (with_reducible refine Below.alloc ?_ (by first | (simp; done) | (simp; omega)) _)
  · skip
    have hl : minS lo lo' = lo' := by unfold minS; rw [if_pos hb]
    rw [hl, if_neg (by simp [hu])]
    have hb' : Op.bytesLess lo'.toList lo.toList = true := hb
    rw [hu] at C3
    clear hb hl
    go_enter Try.func41, Try.ntmps41
    go_wp2_with (go_at_call 38; refine (C3 _).mono ?_; rintro e wn ⟨rfl, rfl⟩)
    refine bodyPost_ret (v := .agg #[.int .i64 tx, .string lo', .string hi]) (by simp [results, Try.results41, go_sem]) rfl ⟨rfl, ?_⟩
    repeat first | (with_reducible exact Below.refl _ _) | (with_reducible refine Below.setCell ?_ (by first | (simp; done) | (simp; omega)) _) | (with_reducible refine Below.alloc ?_ (by first | (simp; done) | (simp; omega)) _)
  · skip
    have hl : minS lo lo' = lo' := by unfold minS; rw [if_pos hb]
    rw [hl, if_pos rfl]
    have hb' : Op.bytesLess lo'.toList lo.toList = true := hb
    rw [hu] at C3
    clear hb hl
    go_enter Try.func41, Try.ntmps41
    go_wp2_with (go_at_call 38; refine (C3 _).mono ?_; rintro e wn ⟨rfl, rfl⟩)
    refine bodyPost_ret (v := .agg #[.int .i64 tx, .string lo', .string hi']) (by simp [results, Try.results41, go_sem]) rfl ⟨rfl, ?_⟩
    repeat first | (with_reducible exact Below.refl _ _) | (with_reducible refine Below.setCell ?_ (by first | (simp; done) | (simp; omega)) _) | (with_reducible refine Below.alloc ?_ (by first | (simp; done) | (simp; omega)) _)
end Go.Proofs.Ytdiclnkkddnncaa
