/- Package lock: Add's walk. -/
import Derived.Test.YtdiclnkkddnncaaLkA
namespace Go.Proofs.Ytdiclnkkddnncaa
open Go.RowKit
open Go.Shelf
set_option linter.unusedVariables false
set_option linter.unusedSimpArgs false
structure Box1 (w : World) (b : Nat) (x : Value) : Prop where
  c0 : w.cell? ⟨b, 0, none⟩ = some x
  f0 : w.frozen? ⟨b, 0, none⟩ = false
  lt : b < w.heap.size
section
variable {w w' : World} {b : Nat} {x : Value}
theorem Box1.below (h : Box1 w b x) {N : Nat} (hb : Below N w w') (hN : b < N) (hs : w.heap.size ≤ w'.heap.size) : Box1 w' b x := ⟨(hb.cell (p := ⟨b, 0, none⟩) hN).trans h.c0, (hb.frozen (p := ⟨b, 0, none⟩) hN).trans h.f0, Nat.lt_of_lt_of_le h.lt hs⟩
theorem Box1.step (h : Box1 w b x) (hb : Below w.heap.size w w') : Box1 w' b x := h.below hb h.lt hb.size
theorem Box1.alloc (h : Box1 w b x) (o : Obj) : Box1 (w.alloc o) b x := h.step ((Below.refl _ w).alloc (Nat.le_refl _) o)
theorem Box1.new (w : World) (x : Value) (T : TypeId) : Box1 (w.alloc (.cells #[x] T)) w.heap.size x := ⟨by go_simp, by go_simp, by simp⟩
theorem Box1.kept {N : Nat} {B : Nat → Prop} (h : Box1 w b x) (hk : Kept N B w w') (hN : b < N) (hB : ¬ B b) : Box1 w' b x := ⟨(hk.cell (p := ⟨b, 0, none⟩) hN hB).trans h.c0, (hk.frozen (p := ⟨b, 0, none⟩) hN hB).trans h.f0, Nat.lt_of_lt_of_le h.lt hk.size⟩
end
theorem SlB.ownL {N : Nat} {w : World} {base n : Nat} {v : Value} {l : List Lk} (hN : N ≤ base) (h : w.ownsRow base 35 3 v n (l.flatMap encL)) : SlB encL 3 N w v l := SlB.of_own encL_len (by decide) hN h
set_option maxHeartbeats 4000000 in
set_option maxRecDepth 100000 in
theorem add_any (A : Option Addr) (c : Nat) (l : List Lk) (x : Lk) (w : World) (HR : RowE encL 3 w A l) (hn : A = none → c = 0) (hl : l.length ≤ 140737488355328) :
    Calls Try.prog 10 #[.agg #[.slice A l.length c], .agg #[.int .i64 x.tx, .string x.lo, .string x.hi]] w fun e w' => ∃ v, e = .returned (.tuple #[.agg #[v], .int .i64 (addL l x).2]) ∧ SlB encL 3 w.heap.size w' v (addL l x).1 ∧ Below w.heap.size w w' := by
  have e1 : ∀ args w, (callFunc 29 args).run Try.prog w = .ok (.enter 29 args) w := enters_of Try.func29 (by kernel_rfl) rfl
  have e2 : ∀ args w, (callFunc 31 args).run Try.prog w = .ok (.enter 31 args) w := enters_of Try.func31 (by kernel_rfl) rfl
  have B2 := ((Box1.new w (.slice A l.length c) 30).alloc (.cells #[.int .i64 x.tx, .string x.lo, .string x.hi] 35)).alloc (.cells #[.slice none 0 0] 30)
  have B3 := (Box3.new (w.alloc (.cells #[.slice A l.length c] 30)) (.int .i64 x.tx) (.string x.lo) (.string x.hi) 35).alloc (.cells #[.slice none 0 0] 30)
  have B4 := Box1.new ((w.alloc (.cells #[.slice A l.length c] 30)).alloc (.cells #[.int .i64 x.tx, .string x.lo, .string x.hi] 35)) (.slice none 0 0) 30
  have ba : Below w.heap.size w (((w.alloc (.cells #[.slice A l.length c] 30)).alloc (.cells #[.int .i64 x.tx, .string x.lo, .string x.hi] 35)).alloc (.cells #[.slice none 0 0] 30)) := (by (repeat (first | (with_reducible exact Below.refl _ _) | apply below_alloc _ (Nat.le_refl _) | refine below_set ?_ (by first | exact Nat.le_refl _ | omega) | apply below_drewN | refine below_step ?_ HB)))
  have hck := lcheck_any A c l _ (HR.below ba) hl
  have HR0 := Lib.hid (HR.below ba)
  have hsz : w.heap.size + 3 ≤ (((w.alloc (.cells #[.slice A l.length c] 30)).alloc (.cells #[.int .i64 x.tx, .string x.lo, .string x.hi] 35)).alloc (.cells #[.slice none 0 0] 30)).heap.size := by simp
  have E1 : Hid (chkL l ≠ 0 → addL l x = ([], chkL l)) := Lib.hid (fun h => by unfold addL; rw [if_pos h])
  have E2 : Hid (chkL l = 0 → mayL x = false → addL l x = ([], 1)) := Lib.hid (fun h h2 => by unfold addL; rw [if_neg (by simp [h]), if_pos h2])
  have E3 : Hid (chkL l = 0 → mayL x = true → l.any (within x) = true → addL l x = (l, 0)) := Lib.hid (fun h h2 h3 => by unfold addL; rw [if_neg (by simp [h]), if_neg (by simp [h2]), if_pos h3])
  have E4 : Hid (chkL l = 0 → mayL x = true → l.any (within x) = false → addL l x = if (l.filter (fun y => !touches x y)).length = 512 then ([], 51) else (putL (l.filter (fun y => !touches x y)) ((l.filter (touches x)).foldl joinL x), 0)) := Lib.hid (fun h h2 h3 => by unfold addL; rw [if_neg (by simp [h]), if_neg (by simp [h2]), if_neg (by simp [h3])])
  have CK := Lib.hid (fun h => (chkL_iff l).1 h)
  simp only [World.size_alloc] at B3 B4
  clear HR
  generalize hk : chkL l = k at *
  clear hk
  go_enter Try.func10, Try.ntmps10
  go_wp2_with fail
  generalize ((w.alloc (.cells #[.slice A l.length c] 30)).alloc (.cells #[.int .i64 x.tx, .string x.lo, .string x.hi] 35)).alloc (.cells #[.slice none 0 0] 30) = w0 at *
  refine hck.mono ?_; rintro e w1 ⟨rfl, h1⟩
  have HB2 := Lib.hid (B2.step h1)
  have HB3 := Lib.hid (B3.below h1 B3.lt)
  have HB4 := B4.step h1
  have HF := ba.trans (h1.mono (by omega))
  have HR1 := Lib.hid (HR0.out.below h1)
  have z1 := h1.size
  clear h1 hck B2 B3 B4 ba HR0
  by_cases k0 : k = 0
  · subst k0
    obtain ⟨hlen, _, hinc⟩ := CK.out rfl
    have HI := Lib.hid hinc
    clear CK E1 hinc
    have hmy := fun W => may_any x W
    obtain ⟨c20, f20, l2⟩ := HB2.out
    obtain ⟨c30, c31, c32, f30, f31, f32, l3⟩ := HB3.out
    obtain ⟨c40, f40, l4⟩ := HB4
    cases hm : mayL x with
    | false =>
      rw [hm] at hmy
      have EE := Lib.hid (E2.out (by trivial) hm)
      clear E2 E3 E4 hm
      have HB4' := Lib.hid (Box1.mk c40 f40 l4)
      go_wp2_with fail
      refine (hmy _).mono ?_; rintro e w2 ⟨rfl, h2⟩
      clear c40 f40 l4 c20 f20 l2 c30 c31 c32 f30 f31 f32 l3 hmy
      obtain ⟨c40, f40, l4⟩ := HB4'.out.step h2
      have hF2 := HF.trans (h2.mono (by omega))
      go_wp2
      refine bodyPost_ret (v := .tuple #[.agg #[.slice none 0 0], .int .i64 1]) (by simp [results, Try.results10, go_sem, c40, l4]) rfl ?_
      rw [EE.out]
      exact ⟨_, rfl, SlB.nil _, Below.setCell hF2 (by simp; omega) _⟩
    | true =>
      rw [hm] at hmy
      have HB4' := Lib.hid (Box1.mk c40 f40 l4)
      go_wp2_with fail
      refine (hmy _).mono ?_; rintro e w2 ⟨rfl, h2⟩
      clear c40 f40 l4 c20 f20 l2 c30 c31 c32 f30 f31 f32 l3 hmy
      have HC2 := Lib.hid (HB2.out.step h2)
      have HC3 := Lib.hid (HB3.out.below h2 HB3.out.lt)
      have HC4 := Lib.hid (HB4'.out.step h2)
      have hF2 := HF.trans (h2.mono (by omega))
      have hcl := lclone_own A c l w2 (HR1.out.below h2) hn (by omega)
      have z2 := h2.size
      clear h2 HB2 HB3 HB4' HF HR1
      obtain ⟨c20, f20, l2⟩ := HC2.out
      go_wp2_with fail
      refine hcl.mono ?_; rintro e w3 ⟨v3, rfl, hown, h3⟩
      obtain ⟨Av, cv, rfl, hcv, hnv⟩ := own_slice hown
      clear c20 f20 l2 hcl
      have HD3 := HC3.out.below h3 HC3.out.lt
      have HD4 := HC4.out.step h3
      have hF3 := hF2.trans (h3.mono (by omega))
      have z3 := h3.size
      have hgb : ∀ b, Av = some ⟨b, 0, none⟩ → w2.heap.size ≤ b ∧ b < w3.heap.size := fun b h => by subst h; exact hown.lt b rfl
      have HRow := Lib.hid (show RowE encL 3 w3 Av l by
        obtain ⟨A', c', hv, _, hr, _⟩ := SlE.of_own encL_len (by decide) hown
        cases hv; exact hr)
      have HO3 := Lib.hid hown
      have hco := contains_gen Av cv l 29 #[.agg #[.int .i64 x.tx, .string x.lo, .string x.hi]] #[] (fun _ => False) w3.heap.size (within x) (fun _ => []) (fun a _ => a) x w3 e1 (clo_within x _) HRow.out (fun b off h => ⟨by
        obtain ⟨g, cap, hv, _⟩ := SlE.of_own encL_len (by decide) hown
        by_cases hl0 : l = []
        · subst hl0
          have := (hown.lt b (by rw [h]; rfl)).2
          exact this
        · exact (hown.lt b (by rw [h]; rfl)).2, fun h => h⟩) ⟨Nat.le_refl _, fun q hq => by cases hq⟩ (by omega)
      have HD3' := Lib.hid HD3
      have HD4' := Lib.hid HD4
      clear hown h3 HC2 HC3 HC4 hF2
      obtain ⟨c30, c31, c32, f30, f31, f32, l3⟩ := HD3
      obtain ⟨c40, f40, l4⟩ := HD4
      go_wp2_with fail
      refine hco.mono ?_; rintro e w4 ⟨rfl, h4⟩
      have HE3 := Lib.hid (h4.box HD3'.out HD3'.out.lt (fun h => h))
      have HE4 := HD4'.out.kept h4 HD4'.out.lt (fun h => h)
      have hF4 := hF3.trans (h4.to_below (by omega) (fun k h => h.elim))
      have HO4 := Lib.hid (h4.own HO3.out (fun g hg => ⟨(HO3.out.lt g hg).2, fun h => h⟩))
      have z4 := h4.size
      clear c30 c31 c32 f30 f31 f32 l3 c40 f40 l4 hco h4 HD3' HD4' HO3 HRow hF3
      have HE4' := Lib.hid HE4
      cases hany : l.any (within x) with
      | true =>
        have EE := Lib.hid (E3.out (by trivial) hm hany)
        clear E2 E3 E4 hm hany
        obtain ⟨c40, f40, l4⟩ := HE4
        go_wp2
        refine bodyPost_ret (v := .tuple #[.agg #[.slice Av l.length cv], .int .i64 0]) (by simp [results, Try.results10, go_sem, c40, l4]) rfl ?_
        rw [EE.out]
        exact ⟨_, rfl, SlB.ownL (base := w2.heap.size) (n := l.length) (by omega) (own_set HO4.out _ _ (by simp; omega)), Below.setCell hF4 (by simp; omega) _⟩
      | false =>
        have EE := Lib.hid (E4.out (by trivial) hm hany)
        clear E2 E3 E4 hm hany
        have W5 : Below w4.heap.size w4 (w4.alloc (.cells #[.int .i64 x.tx, .string x.lo, .string x.hi] 35)) := (Below.refl _ _).alloc (Nat.le_refl _) _
        have G3 := HE3.out.alloc (.cells #[.int .i64 x.tx, .string x.lo, .string x.hi] 35)
        have G4 := Lib.hid (HE4'.out.alloc (.cells #[.int .i64 x.tx, .string x.lo, .string x.hi] 35))
        have G8 := Box3.new w4 (.int .i64 x.tx) (.string x.lo) (.string x.hi) 35
        have hF5 := hF4.alloc (by omega) (.cells #[.int .i64 x.tx, .string x.lo, .string x.hi] 35)
        have hbase : (w4.alloc (.cells #[.int .i64 x.tx, .string x.lo, .string x.hi] 35)).heap.size = w4.heap.size + 1 := by simp
        have hdel := delete_own Av cv w2.heap.size l 31 #[] #[.pointer (some ⟨w.heap.size + 1, 0, none⟩), .pointer (some ⟨w4.heap.size, 0, none⟩)] (fun k => k = w4.heap.size) (w4.heap.size + 1) (touches x) (fun acc => at3 (w.heap.size + 1) x ++ at3 w4.heap.size acc) joinL x (w4.alloc (.cells #[.int .i64 x.tx, .string x.lo, .string x.hi] 35)) e2 (clo_add x _ _ _ (by omega)) (HO4.out.alloc _) (by omega) (fun b hb => by
          have hb2 := hgb b hb
          refine ⟨by omega, by omega, fun acc q hq => ?_⟩
          simp only [at3, List.mem_append, List.mem_cons, List.not_mem_nil, or_false] at hq
          rcases hq with (rfl | rfl | rfl) | (rfl | rfl | rfl) <;> (dsimp only; omega)) (J.app.2 ⟨J.of3 (by omega) (by rw [hbase]; exact Nat.le_refl _) G3, J.of3 (by omega) (by rw [hbase]; exact Nat.le_refl _) G8⟩) (by omega)
        obtain ⟨c30, c31, c32, f30, f31, f32, l3⟩ := HE3.out
        clear HE4 HE3 HE4' HO4 G3 G8 hF4
        go_wp2_with fail
        refine hdel.mono ?_; rintro e w6 ⟨A6, rfl, h6, hown6, hJ6⟩
        have K4 := Lib.hid (G4.out.kept h6 (by omega) (by show ¬ w.heap.size + 1 + 1 = w4.heap.size; omega))
        have K8 := (J.app.1 hJ6).2.to3
        have hF6 := hF5.trans (h6.to_below (by omega) (fun k hk => by omega))
        have z6 := h6.size
        have HIF : Hid (Inc (l.filter (fun y => !touches x y))) := Lib.hid (HI.out.filter _)
        have hFl : (l.filter (fun y => !touches x y)).length ≤ 512 := Nat.le_trans (List.length_filter_le _ _) hlen
        have HO6 := Lib.hid hown6
        clear c30 c31 c32 f30 f31 f32 l3 hdel h6 hown6 hJ6 G4 hF5
        generalize l.filter (fun y => !touches x y) = F at *
        generalize (l.filter (touches x)).foldl joinL x = z at *
        by_cases h512 : F.length = 512
        · have EE2 : Hid (addL l x = ([], 51)) := Lib.hid (by rw [EE.out, if_pos h512])
          clear EE
          obtain ⟨c40, f40, l4⟩ := K4.out
          have h5 : ((F.length : Int) == 512) = true := by simp [h512]
          go_wp2
          refine bodyPost_ret (v := .tuple #[.agg #[.slice none 0 0], .int .i64 51]) (by simp [results, Try.results10, go_sem, c40, l4]) rfl ?_
          rw [EE2.out]
          exact ⟨_, rfl, SlB.nil _, Below.setCell hF6 (by simp; omega) _⟩
        · have EE2 : Hid (addL l x = (putL F z, 0)) := Lib.hid (by rw [EE.out, if_neg h512])
          clear EE
          have hput := put_any w2.heap.size (.slice A6 F.length cv) F z w6 (by omega) HIF.out HO6.out (by omega)
          have h5 : ((F.length : Int) == 512) = false := by simp; omega
          obtain ⟨d0, d1, d2, _, _, _, l8⟩ := K8
          go_wp2_with fail
          refine hput.mono ?_; rintro e w7 ⟨v7, rfl, hown7, h7⟩
          have K47 := K4.out.below h7 (by omega) (by
            exact h7.size)
          have hF7 := hF6.trans (h7.mono (by omega))
          have HO7 := Lib.hid hown7
          clear d0 d1 d2 l8 hput hown7 h7
          obtain ⟨A7, c7, rfl, _, _⟩ := own_slice HO7.out
          obtain ⟨c40, f40, l4⟩ := K47
          go_wp2
          refine bodyPost_ret (v := .tuple #[.agg #[.slice A7 (F.length + 1) c7], .int .i64 0]) (by simp [results, Try.results10, go_sem, c40, l4]) rfl ?_
          rw [EE2.out]
          exact ⟨_, rfl, SlB.ownL (base := w2.heap.size) (n := F.length + 1) (by omega) (own_set HO7.out _ _ (by simp; omega)), Below.setCell hF7 (by simp; omega) _⟩
  · have EE := Lib.hid (E1.out k0)
    clear E1 E2 E3 E4 CK
    obtain ⟨c40, f40, l4⟩ := HB4
    go_wp2
    refine bodyPost_ret (v := .tuple #[.agg #[.slice none 0 0], .int .i64 k]) (by simp [results, Try.results10, go_sem, c40, l4]) rfl ?_
    rw [EE.out]
    exact ⟨_, rfl, SlB.nil _, Below.setCell HF (by simp; omega) _⟩
end Go.Proofs.Ytdiclnkkddnncaa
