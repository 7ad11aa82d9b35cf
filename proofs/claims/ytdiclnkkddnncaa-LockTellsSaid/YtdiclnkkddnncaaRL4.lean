/- The page's locks: Add, Read. -/
import Derived.Test.YtdiclnkkddnncaaRL3
namespace Go.Proofs.Ytdiclnkkddnncaa
open Go.RowKit
open Go.Shelf
set_option linter.unusedVariables false
set_option linter.unusedSimpArgs false
theorem within_upto (x y : Lk) : within x y = ((x.tx == y.tx) && !lt? x.lo y.lo && uptoB x.hi y.hi) := by rw [upto_ends]; rfl
theorem filt_snoc {l : List Lk} {y : Lk} {j : Nat} (h : l[j]? = some y) (p : Lk → Bool) : ((l.take (j + 1)).filter p) = (l.take j).filter p ++ (if p y = true then [y] else []) := by
  rw [List.take_add_one, h, List.filter_append]
  simp only [Option.toList_some, List.filter_cons, List.filter_nil]
set_option maxHeartbeats 4000000 in
set_option maxRecDepth 100000 in
theorem rladd_any (A : Option Addr) (c : Nat) (l : List Lk) (x : Lk) (w : World) (HR : RowE encL 3 w A l) (hn : A = none → c = 0) (hl : l.length * 40 ≤ 140737488351232) :
    Calls Try.prog 18 #[.agg #[.slice A l.length c], .agg #[.int .i64 x.tx, .string x.lo, .string x.hi]] w fun e w' => ∃ v, e = .returned (.tuple #[.agg #[v], .int .i64 (addL l x).2]) ∧ SlB encL 3 w.heap.size w' v (addL l x).1 ∧ Below w.heap.size w w' := by
  obtain ⟨iS, hiS1, hiS2, hiS3, hiS4⟩ := infoK
  obtain ⟨g, hg⟩ : ∃ g, g = addL l x := ⟨_, rfl⟩
  rw [← hg]
  have E1 : Hid (chkL l = 9 → g = ([], 9)) := Lib.hid (fun h => by rw [hg]; unfold addL; rw [if_pos (by simp [h]), h])
  have E2 : Hid (chkL l = 0 → mayL x = false → g = ([], 1)) := Lib.hid (fun h h2 => by rw [hg]; unfold addL; rw [if_neg (by simp [h]), if_pos h2])
  have E3 : Hid (chkL l = 0 → mayL x = true → g = if l.any (within x) = true then (l, 0) else if (l.filter (fun y => !touches x y)).length = 512 then ([], 51) else (putL (l.filter (fun y => !touches x y)) ((l.filter (touches x)).foldl joinL x), 0)) := Lib.hid (fun h h2 => by rw [hg]; unfold addL; rw [if_neg (by simp [h]), if_neg (by simp [h2])])
  have CK := Lib.hid (fun h : chkL l = 0 => (chkL_iff l).1 h)
  have C9 := chkL_or l
  have HMAY : Hid (∀ W, Calls Try.prog 37 #[.agg #[.int .i64 x.tx, .string x.lo, .string x.hi]] W fun e w' => e = .returned (.bool (mayL x)) ∧ Below W.heap.size W w') := Lib.hid (fun W => rmay_any x W)
  have HTOX : Hid (∀ y W, Calls Try.prog 40 #[.agg #[.int .i64 y.tx, .string y.lo, .string y.hi], .agg #[.int .i64 x.tx, .string x.lo, .string x.hi]] W fun e w' => e = .returned (.bool (touches x y)) ∧ Below W.heap.size W w') := Lib.hid (fun y W => by rw [← touches_symm]; exact rtouches_any y x W)
  have h0 : Below w.heap.size w ((w.alloc (.cells #[.slice A l.length c] 24)).alloc (.cells #[.int .i64 x.tx, .string x.lo, .string x.hi] 26)) := (by (repeat (first | (with_reducible exact Below.refl _ _) | apply below_alloc _ (Nat.le_refl _) | refine below_set ?_ (by first | exact Nat.le_refl _ | omega) | apply below_drewN | refine below_step ?_ HB)))
  clear hg h0
  have HX0 : Hid (∀ y, within x y = ((x.tx == y.tx) && !lt? x.lo y.lo && uptoB x.hi y.hi)) := Lib.hid (fun y => within_upto x y)
  have HXP : ∃ tx lo hi, x = ⟨tx, lo, hi⟩ := ⟨_, _, _, rfl⟩
  obtain ⟨tx, lo, hi, hxe⟩ := HXP
  have HXE := Lib.hid hxe
  have e1 : x.tx = tx := by rw [hxe]
  have e2 : x.lo = lo := by rw [hxe]
  have e3 : x.hi = hi := by rw [hxe]
  simp only [e1, e2, e3] at HMAY HTOX HX0 ⊢
  clear hxe e1 e2 e3
  have h0 : Below w.heap.size w (((w.alloc (.cells #[.slice A l.length c] 24)).alloc (.cells #[.int .i64 tx, .string lo, .string hi] 26)).alloc (.cells #[.slice none 0 0] 24)) := (by (repeat (first | (with_reducible exact Below.refl _ _) | apply below_alloc _ (Nat.le_refl _) | refine below_set ?_ (by first | exact Nat.le_refl _ | omega) | apply below_drewN | refine below_step ?_ HB)))
  have BC := Lib.hid (((Box.new w #[.slice A l.length c] 24).alloc (.cells #[.int .i64 tx, .string lo, .string hi] 26)).alloc (.cells #[.slice none 0 0] 24))
  have BX := Lib.hid ((Box.new (w.alloc (.cells #[.slice A l.length c] 24)) #[.int .i64 tx, .string lo, .string hi] 26).alloc (.cells #[.slice none 0 0] 24))
  have BR := Lib.hid (Box.new ((w.alloc (.cells #[.slice A l.length c] 24)).alloc (.cells #[.int .i64 tx, .string lo, .string hi] 26)) #[.slice none 0 0] 24)
  have RR := Lib.hid (HR.below h0)
  have HF := Lib.hid h0
  have hck := rlcheck_any A c l _ RR.out (by omega)
  simp only [World.size_alloc, Nat.add_assoc, Nat.reduceAdd] at BX BR
  have RW := Lib.hid HR
  clear h0 HR
  generalize chkL l = kc at *
  generalize mayL x = mx at *
  go_enter Try.func18, Try.ntmps18
  go_wp2_with fail
  generalize ((w.alloc (.cells #[.slice A l.length c] 24)).alloc (.cells #[.int .i64 tx, .string lo, .string hi] 26)).alloc (.cells #[.slice none 0 0] 24) = w0 at *
  refine hck.mono ?_; rintro e w1 ⟨rfl, h1⟩
  replace BC := Lib.hid (BC.out.below h1 BC.out.lt); replace BR := Lib.hid (BR.out.below h1 BR.out.lt); replace BX := Lib.hid (BX.out.below h1 BX.out.lt); replace HF := Lib.hid (below_step' HF.out h1); replace RR := Lib.hid (RR.out.below h1)
  clear hck h1
  rcases C9 with rfl | rfl
  · obtain ⟨h512, _, hinc⟩ := CK.out (by trivial)
    have HINC := Lib.hid hinc
    clear hinc CK
    cases mx with
    | false =>
      have EE := Lib.hid (E2.out (by trivial) (by trivial))
      clear E1 E2 E3 HTOX HX0 RR HINC
      have cBX0 := BX.out.c 0 _ rfl; have fBX0 := BX.out.f 0 (by simp); have cBX1 := BX.out.c 1 _ rfl; have fBX1 := BX.out.f 1 (by simp); have cBX2 := BX.out.c 2 _ rfl; have fBX2 := BX.out.f 2 (by simp); have lBX := BX.out.lt; have cBR0 := BR.out.c 0 _ rfl; have fBR0 := BR.out.f 0 (by simp); have lBR := BR.out.lt
      go_wp2_with (go_at_call 37; (with_reducible refine (HMAY.out _).mono ?_); rintro e w2 ⟨rfl, h2⟩; clear cBX0 fBX0 cBX1 fBX1 cBX2 fBX2 lBX; clear cBR0 fBR0 lBR; replace BR := Lib.hid (BR.out.below h2 BR.out.lt); replace HF := Lib.hid (below_step' HF.out h2); clear h2; have cBR0 := BR.out.c 0 _ rfl; have fBR0 := BR.out.f 0 (by simp); have lBR := BR.out.lt)
      clear cBR0 fBR0 lBR
      have HX := Lib.hid (below_set (g := w.heap.size + 2) (j := 0) (v := .slice none 0 0) HF.out (by omega))
      have BZ : Hid (Box (w2.setCell ⟨w.heap.size + 2, 0, none⟩ (.slice none 0 0)) (w.heap.size + 2) [.slice none 0 0]) := Lib.hid (BR.out.set 0 (.slice none 0 0) (by simp))
      have HV : Hid (SlB encL 3 w.heap.size (w2.setCell ⟨w.heap.size + 2, 0, none⟩ (.slice none 0 0)) (.slice none 0 0) g.1) := Lib.hid (by rw [EE.out]; exact SlB.nil _)
      generalize w2.setCell ⟨w.heap.size + 2, 0, none⟩ (.slice none 0 0) = wz at *
      have cBZ0 := BZ.out.c 0 _ rfl
      refine bodyPost_ret (v := .tuple #[.agg #[.slice none 0 0], .int .i64 1]) (by simp [results, Try.results18, go_sem, cBZ0]) rfl ?_
      refine ⟨_, ?_, HV.out, HX.out⟩
      rw [EE.out]

    | true =>
      have E4 := Lib.hid (E3.out (by trivial) (by trivial))
      clear E1 E2 E3
      have cBX0 := BX.out.c 0 _ rfl; have fBX0 := BX.out.f 0 (by simp); have cBX1 := BX.out.c 1 _ rfl; have fBX1 := BX.out.f 1 (by simp); have cBX2 := BX.out.c 2 _ rfl; have fBX2 := BX.out.f 2 (by simp); have lBX := BX.out.lt; have cBC0 := BC.out.c 0 _ rfl; have fBC0 := BC.out.f 0 (by simp); have lBC := BC.out.lt; have cBR0 := BR.out.c 0 _ rfl; have fBR0 := BR.out.f 0 (by simp); have lBR := BR.out.lt
      go_wp2_with (go_at_call 37; (with_reducible refine (HMAY.out _).mono ?_); rintro e wm ⟨rfl, h2⟩; clear cBX0 fBX0 cBX1 fBX1 cBX2 fBX2 lBX; clear cBC0 fBC0 lBC; clear cBR0 fBR0 lBR; replace BC := Lib.hid (BC.out.below h2 BC.out.lt); replace BR := Lib.hid (BR.out.below h2 BR.out.lt); replace BX := Lib.hid (BX.out.below h2 BX.out.lt); replace HF := Lib.hid (below_step' HF.out h2); replace RR := Lib.hid (RR.out.below h2); clear h2)
      go_loopw [6] (fun s6 wr => ∃ j : Nat, j ≤ l.length ∧ s6 = .int .i64 j ∧ Hid (Below wm.heap.size wm wr) ∧ Hid (∀ k, k < j → ∀ z, l[k]? = some z → within x z = false)) (fun s6 _ => l.length - (Lib.intOf s6).toNat)
      case atStart => exact ⟨0, Nat.zero_le _, rfl, Lib.hid (Below.refl _ _), Lib.hid (fun k h => absurd h (Nat.not_lt_zero _))⟩
      case round =>
        obtain ⟨j, hj, rfl, HB, HN⟩ := hrel
        have HFr := Lib.hid (below_step' HF.out HB.out)
        have BCr := Lib.hid (BC.out.step HB.out)
        have BXr := Lib.hid (BX.out.step HB.out)
        have BRr := Lib.hid (BR.out.step HB.out)
        by_cases hlt : j < l.length
        · obtain ⟨y, hy⟩ : ∃ y, l[j]? = some y := ⟨_, List.getElem?_eq_getElem hlt⟩
          obtain ⟨b0, off, rfl, hb0, g0, g1, g2⟩ := RW.out.tri hy HFr.out
          obtain ⟨ytx, ylo, yhi⟩ := y
          dsimp only at g0 g1 g2
          have hji : (j : Int) < (l.length : Int) := by omega
          have cBCr0 := BCr.out.c 0 _ rfl; have fBCr0 := BCr.out.f 0 (by simp); have lBCr := BCr.out.lt
          go_upto_region 9 with (fail)
          clear cBCr0 fBCr0 lBCr
          have BYv := Lib.hid (Box.new wr #[.int .i64 ytx, .string ylo, .string yhi] 26)
          have hb := (Below.refl _ wr).alloc (Nat.le_refl _) (.cells #[.int .i64 ytx, .string ylo, .string yhi] 26)
          have HB2 := Lib.hid (below_step' HB.out hb)
          replace BCr := Lib.hid (BCr.out.below hb BCr.out.lt); replace BRr := Lib.hid (BRr.out.below hb BRr.out.lt); replace BXr := Lib.hid (BXr.out.below hb BXr.out.lt); replace HFr := Lib.hid (below_step' HFr.out hb)
          clear hb g0 g1 g2 HB
          generalize wr.alloc (.cells #[.int .i64 ytx, .string ylo, .string yhi] 26) = wv at *
          generalize wr.heap.size = gy at *
          by_cases htx : ytx = tx
          · subst htx
            cases q1 : Op.bytesLess lo.toList ylo.toList with
            | true =>
              have q1' : lt? lo ylo = true := q1
              have HN2 : Hid (∀ k, k < j + 1 → ∀ z, l[k]? = some z → within x z = false) := Lib.hid (fun k hk z hz => by
                by_cases e : k = j
                · subst e; rw [hy] at hz; cases hz; rw [HX0.out]; simp [q1']
                · exact HN.out k (by omega) z hz)
              clear HN hy
              have cBYv0 := BYv.out.c 0 _ rfl; have fBYv0 := BYv.out.f 0 (by simp); have cBYv1 := BYv.out.c 1 _ rfl; have fBYv1 := BYv.out.f 1 (by simp); have cBYv2 := BYv.out.c 2 _ rfl; have fBYv2 := BYv.out.f 2 (by simp); have lBYv := BYv.out.lt; have cBXr0 := BXr.out.c 0 _ rfl; have fBXr0 := BXr.out.f 0 (by simp); have cBXr1 := BXr.out.c 1 _ rfl; have fBXr1 := BXr.out.f 1 (by simp); have cBXr2 := BXr.out.c 2 _ rfl; have fBXr2 := BXr.out.f 2 (by simp); have lBXr := BXr.out.lt; have cBCr0 := BCr.out.c 0 _ rfl; have fBCr0 := BCr.out.f 0 (by simp); have lBCr := BCr.out.lt
              go_wp2_with (go_at_call 38; (with_reducible refine (rupto_any _ _ _).mono ?_); rintro e w3 ⟨rfl, rfl⟩)
              go_roundw
              case rel => exact ⟨j + 1, by omega, by go_num, HB2, HN2⟩
              case measure => simp [Lib.intOf]; omega

            | false =>
              have q1' : lt? lo ylo = false := q1
              cases q2 : uptoB hi yhi with
              | false =>
                have HN2 : Hid (∀ k, k < j + 1 → ∀ z, l[k]? = some z → within x z = false) := Lib.hid (fun k hk z hz => by
                  by_cases e : k = j
                  · subst e; rw [hy] at hz; cases hz; rw [HX0.out]; simp [q2]
                  · exact HN.out k (by omega) z hz)
                clear HN hy
                have cBYv0 := BYv.out.c 0 _ rfl; have fBYv0 := BYv.out.f 0 (by simp); have cBYv1 := BYv.out.c 1 _ rfl; have fBYv1 := BYv.out.f 1 (by simp); have cBYv2 := BYv.out.c 2 _ rfl; have fBYv2 := BYv.out.f 2 (by simp); have lBYv := BYv.out.lt; have cBXr0 := BXr.out.c 0 _ rfl; have fBXr0 := BXr.out.f 0 (by simp); have cBXr1 := BXr.out.c 1 _ rfl; have fBXr1 := BXr.out.f 1 (by simp); have cBXr2 := BXr.out.c 2 _ rfl; have fBXr2 := BXr.out.f 2 (by simp); have lBXr := BXr.out.lt; have cBCr0 := BCr.out.c 0 _ rfl; have fBCr0 := BCr.out.f 0 (by simp); have lBCr := BCr.out.lt
                go_wp2_with (go_at_call 38; (with_reducible refine (rupto_any hi yhi _).mono ?_); rintro e w3 ⟨rfl, rfl⟩; rw [q2])
                go_roundw
                case rel => exact ⟨j + 1, by omega, by go_num, HB2, HN2⟩
                case measure => simp [Lib.intOf]; omega

              | true =>
                have EE : Hid (g = (l, 0)) := Lib.hid (by rw [E4.out, if_pos (List.any_eq_true.2 ⟨_, List.mem_of_getElem? hy, by rw [HX0.out]; simp [q1', q2]⟩)])
                have how := fun W h => rlown_any (some ⟨b0, off, none⟩) c l W (RW.out.below h) hn hl
                have HOW := Lib.hid how
                have hzv : w.heap.size + 3 ≤ wv.heap.size := BRr.out.lt
                clear how HN hy E4
                have cBYv0 := BYv.out.c 0 _ rfl; have fBYv0 := BYv.out.f 0 (by simp); have cBYv1 := BYv.out.c 1 _ rfl; have fBYv1 := BYv.out.f 1 (by simp); have cBYv2 := BYv.out.c 2 _ rfl; have fBYv2 := BYv.out.f 2 (by simp); have lBYv := BYv.out.lt; have cBXr0 := BXr.out.c 0 _ rfl; have fBXr0 := BXr.out.f 0 (by simp); have cBXr1 := BXr.out.c 1 _ rfl; have fBXr1 := BXr.out.f 1 (by simp); have cBXr2 := BXr.out.c 2 _ rfl; have fBXr2 := BXr.out.f 2 (by simp); have lBXr := BXr.out.lt; have cBCr0 := BCr.out.c 0 _ rfl; have fBCr0 := BCr.out.f 0 (by simp); have lBCr := BCr.out.lt; have cBRr0 := BRr.out.c 0 _ rfl; have fBRr0 := BRr.out.f 0 (by simp); have lBRr := BRr.out.lt
                go_wp2_with (first | (go_at_call 38; (with_reducible refine (rupto_any hi yhi _).mono ?_); rintro e w3 ⟨rfl, rfl⟩; rw [q2]) | (go_at_call 39; (with_reducible refine (HOW.out _ HFr.out).mono ?_); rintro e w3 ⟨v3, rfl, hv3, h3⟩; clear cBYv0 fBYv0 cBYv1 fBYv1 cBYv2 fBYv2 lBYv; clear cBXr0 fBXr0 cBXr1 fBXr1 cBXr2 fBXr2 lBXr; clear cBCr0 fBCr0 lBCr; clear cBRr0 fBRr0 lBRr; replace BRr := Lib.hid (BRr.out.below h3 BRr.out.lt); replace HFr := Lib.hid (below_step' HFr.out h3); (have HV3 := Lib.hid (hv3.mono (M := w.heap.size + 3) hzv)); (obtain ⟨A3, c3, rfl, _⟩ := hv3); clear h3; have cBRr0 := BRr.out.c 0 _ rfl; have fBRr0 := BRr.out.f 0 (by simp); have lBRr := BRr.out.lt))
                clear cBRr0 fBRr0 lBRr
                have HX := Lib.hid (below_set (g := w.heap.size + 2) (j := 0) (v := .slice A3 l.length c3) HFr.out (by omega))
                have BZ : Hid (Box (w3.setCell ⟨w.heap.size + 2, 0, none⟩ (.slice A3 l.length c3)) (w.heap.size + 2) [.slice A3 l.length c3]) := Lib.hid (BRr.out.set 0 (.slice A3 l.length c3) (by simp))
                have HV : Hid (SlB encL 3 w.heap.size (w3.setCell ⟨w.heap.size + 2, 0, none⟩ (.slice A3 l.length c3)) (.slice A3 l.length c3) g.1) := Lib.hid (by rw [EE.out]; exact (HV3.out.set ⟨w.heap.size + 2, 0, none⟩ _ (Nat.lt_succ_self _)).mono (by omega))
                generalize w3.setCell ⟨w.heap.size + 2, 0, none⟩ (.slice A3 l.length c3) = wz at *
                have cBZ0 := BZ.out.c 0 _ rfl
                refine bodyPost_ret (v := .tuple #[.agg #[.slice A3 l.length c3], .int .i64 0]) (by simp [results, Try.results18, go_sem, cBZ0]) rfl ?_
                refine ⟨_, ?_, HV.out, HX.out⟩
                rw [EE.out]

          · have ht1 : (ytx == tx) = false := by simpa using htx
            have ht2 : (tx == ytx) = false := by simp; exact fun e => htx e.symm
            have HN2 : Hid (∀ k, k < j + 1 → ∀ z, l[k]? = some z → within x z = false) := Lib.hid (fun k hk z hz => by
              by_cases e : k = j
              · subst e; rw [hy] at hz; cases hz; rw [HX0.out]; simp [ht2]
              · exact HN.out k (by omega) z hz)
            clear HN hy
            have cBYv0 := BYv.out.c 0 _ rfl; have fBYv0 := BYv.out.f 0 (by simp); have cBYv1 := BYv.out.c 1 _ rfl; have fBYv1 := BYv.out.f 1 (by simp); have cBYv2 := BYv.out.c 2 _ rfl; have fBYv2 := BYv.out.f 2 (by simp); have lBYv := BYv.out.lt; have cBXr0 := BXr.out.c 0 _ rfl; have fBXr0 := BXr.out.f 0 (by simp); have cBXr1 := BXr.out.c 1 _ rfl; have fBXr1 := BXr.out.f 1 (by simp); have cBXr2 := BXr.out.c 2 _ rfl; have fBXr2 := BXr.out.f 2 (by simp); have lBXr := BXr.out.lt; have cBCr0 := BCr.out.c 0 _ rfl; have fBCr0 := BCr.out.f 0 (by simp); have lBCr := BCr.out.lt
            go_wp2_with (go_at_call 38; (with_reducible refine (rupto_any _ _ _).mono ?_); rintro e w3 ⟨rfl, rfl⟩)
            go_roundw
            case rel => exact ⟨j + 1, by omega, by go_num, HB2, HN2⟩
            case measure => simp [Lib.intOf]; omega

        · obtain rfl : j = l.length := by omega
          have HAN : Hid (l.any (within x) = false) := Lib.hid (by
            rw [List.any_eq_false]
            intro y hy
            obtain ⟨k, hk⟩ := List.mem_iff_getElem?.1 hy
            rw [HN.out k (lt_of_get hk) y hk]; simp)
          clear HN
          have cBCr0 := BCr.out.c 0 _ rfl; have fBCr0 := BCr.out.f 0 (by simp); have lBCr := BCr.out.lt; have cBXr0 := BXr.out.c 0 _ rfl; have fBXr0 := BXr.out.f 0 (by simp); have cBXr1 := BXr.out.c 1 _ rfl; have fBXr1 := BXr.out.f 1 (by simp); have cBXr2 := BXr.out.c 2 _ rfl; have fBXr2 := BXr.out.f 2 (by simp); have lBXr := BXr.out.lt
          go_wp2_with fail
          clear cBCr0 fBCr0 lBCr; clear cBXr0 fBXr0 cBXr1 fBXr1 cBXr2 fBXr2 lBXr
          have BAx := Lib.hid (Box.new wr #[.int .i64 tx, .string lo, .string hi] 26)
          have hb := (Below.refl _ wr).alloc (Nat.le_refl _) (.cells #[.int .i64 tx, .string lo, .string hi] 26)
          have hga : w.heap.size + 3 ≤ wr.heap.size := BRr.out.lt
          replace BCr := Lib.hid (BCr.out.below hb BCr.out.lt); replace BRr := Lib.hid (BRr.out.below hb BRr.out.lt); replace BXr := Lib.hid (BXr.out.below hb BXr.out.lt); replace HFr := Lib.hid (below_step' HFr.out hb)
          clear hb HB BC BX BR HF RR
          generalize wr.alloc (.cells #[.int .i64 tx, .string lo, .string hi] 26) = wa at *
          generalize wr.heap.size = ga at *
          obtain ⟨base, hbase⟩ : ∃ base, base = ga + 1 := ⟨_, rfl⟩
          have hza : base ≤ wa.heap.size := by have := BAx.out.lt; omega
          have hl512 : l.length ≤ 512 := h512
          go_loopw [8, 10] (fun s8 s10 wr => ∃ j : Nat, j ≤ l.length ∧ s10 = .int .i64 j ∧ Hid (Below w.heap.size w wr) ∧ Hid (Box wr w.heap.size [.slice A l.length c]) ∧ Hid (Box wr (w.heap.size + 1) [.int .i64 tx, .string lo, .string hi]) ∧ Hid (Box wr (w.heap.size + 2) [.slice none 0 0]) ∧ ∃ (R : List Lk) (acc : Lk), Hid (R = (l.take j).filter (fun y => !touches x y)) ∧ Hid (acc = ((l.take j).filter (touches x)).foldl joinL x) ∧ Hid (Box wr ga [.int .i64 acc.tx, .string acc.lo, .string acc.hi]) ∧ Hid (wr.ownsRow base 26 3 s8 R.length (R.flatMap encL))) (fun _ s10 _ => l.length - (Lib.intOf s10).toNat)
          case atStart => exact ⟨0, Nat.zero_le _, rfl, HFr, BCr, BXr, BRr, [], x, Lib.hid rfl, Lib.hid rfl, Lib.hid (by rw [HXE.out]; exact BAx.out), Lib.hid (World.ownsRow_nil _ _ _ _)⟩
          case round =>
            clear HFr BCr BXr BRr BAx
            obtain ⟨j, hj, rfl, HFr, BCr, BXr, BRr, R, acc, HRR, HAC, BAr, HOr⟩ := hrel
            have hRl : R.length ≤ 512 := by
              rw [HRR.out]
              exact Nat.le_trans (List.length_filter_le _ _) (by rw [List.length_take]; omega)
            by_cases hlt : j < l.length
            · obtain ⟨y, hy⟩ : ∃ y, l[j]? = some y := ⟨_, List.getElem?_eq_getElem hlt⟩
              obtain ⟨b0, off, rfl, hb0, g0, g1, g2⟩ := RW.out.tri hy HFr.out
              have HR2 : Hid ((l.take (j + 1)).filter (fun y => !touches x y) = R ++ (if (!touches x y) = true then [y] else [])) := Lib.hid (by rw [filt_snoc hy (fun y => !touches x y), HRR.out])
              have HA2 : Hid (((l.take (j + 1)).filter (touches x)).foldl joinL x = if touches x y = true then joinL acc y else acc) := Lib.hid (by
                rw [filt_snoc hy (touches x), List.foldl_append, ← HAC.out]
                by_cases q : touches x y = true <;> simp [q])
              have HTO : Hid (∀ W, Calls Try.prog 40 #[.agg #[.int .i64 y.tx, .string y.lo, .string y.hi], .agg #[.int .i64 tx, .string lo, .string hi]] W fun e w' => e = .returned (.bool (touches x y)) ∧ Below W.heap.size W w') := Lib.hid (fun W => HTOX.out y W)
              have HON : Hid (∀ W, Calls Try.prog 41 #[.agg #[.int .i64 acc.tx, .string acc.lo, .string acc.hi], .agg #[.int .i64 y.tx, .string y.lo, .string y.hi]] W fun e w' => e = .returned (.agg #[.int .i64 (joinL acc y).tx, .string (joinL acc y).lo, .string (joinL acc y).hi]) ∧ Below W.heap.size W w') := Lib.hid (fun W => rone_any acc y W)
              clear hy
              generalize touches x y = tb at *
              obtain ⟨ytx, ylo, yhi⟩ := y
              obtain ⟨atx, alo, ahi⟩ := acc
              dsimp only at g0 g1 g2
              try dsimp only at HTO
              try dsimp only at HON
              try dsimp only at BAr
              have hji : (j : Int) < (l.length : Int) := by omega
              have hbg : b0 < w.heap.size := hb0
              generalize hvr : u8 = vr at *
              have cBCr0 := BCr.out.c 0 _ rfl; have fBCr0 := BCr.out.f 0 (by simp); have lBCr := BCr.out.lt
              go_upto_region 16 with (fail)
              clear cBCr0 fBCr0 lBCr
              refine stage_begin (S := fun (L' : Array Bool) (w' : World) => w'.cell? ⟨w.heap.size, 0, none⟩ = some (.slice (some ⟨b0, off, none⟩) l.length c) ∧ (w'.cell? ⟨w.heap.size + 1, 0, none⟩ = some (.int .i64 tx) ∧ w'.cell? ⟨w.heap.size + 1, 1, none⟩ = some (.string lo) ∧ w'.cell? ⟨w.heap.size + 1, 2, none⟩ = some (.string hi)) ∧ w'.cell? ⟨b0, off + j * 3, none⟩ = some (.int .i64 ytx) ∧ w'.cell? ⟨b0, off + j * 3 + 1, none⟩ = some (.string ylo) ∧ w'.cell? ⟨b0, off + j * 3 + 2, none⟩ = some (.string yhi)) (by kernel_rfl) ?_
              have hd := below_drewN (Below.refl wr.heap.size wr) 1
              have HFx : Hid (Below w.heap.size w wr.drew) := Lib.hid (below_drewN HFr.out 1)
              have BCx := Lib.hid BCr.out.drew
              have BXx := Lib.hid BXr.out.drew
              have BRx := Lib.hid BRr.out.drew
              have BAx := Lib.hid BAr.out.drew
              have y0 : wr.drew.cell? ⟨b0, off + j * 3, none⟩ = some (.int .i64 ytx) := g0
              have y1 : wr.drew.cell? ⟨b0, off + j * 3 + 1, none⟩ = some (.string ylo) := g1
              have y2 : wr.drew.cell? ⟨b0, off + j * 3 + 2, none⟩ = some (.string yhi) := g2
              have HO : Hid (wr.drew.ownsRow base 26 3 vr R.length (R.flatMap encL)) := HOr
              clear HFr BCr BXr BRr BAr g0 g1 g2 HOr hd
              generalize wr.drew = wd at *
              have hS0 : (fun w' : World => w'.cell? ⟨w.heap.size, 0, none⟩ = some (.slice (some ⟨b0, off, none⟩) l.length c) ∧ (w'.cell? ⟨w.heap.size + 1, 0, none⟩ = some (.int .i64 tx) ∧ w'.cell? ⟨w.heap.size + 1, 1, none⟩ = some (.string lo) ∧ w'.cell? ⟨w.heap.size + 1, 2, none⟩ = some (.string hi)) ∧ w'.cell? ⟨b0, off + j * 3, none⟩ = some (.int .i64 ytx) ∧ w'.cell? ⟨b0, off + j * 3 + 1, none⟩ = some (.string ylo) ∧ w'.cell? ⟨b0, off + j * 3 + 2, none⟩ = some (.string yhi)) wd := ⟨BCx.out.c 0 _ rfl, ⟨BXx.out.c 0 _ rfl, BXx.out.c 1 _ rfl, BXx.out.c 2 _ rfl⟩, y0, y1, y2⟩
              refine stage_take (i := 0) (oi := { dst := some 62, op := Go.Op.fieldAddr 24 (Go.Operand.tmp 2) 0, type := 0, pos := "ref.go:106", after := #[], guard := none }) (v := ?_) (T := fun _ => True) rfl (by kernel_rfl) (by kernel_rfl) (by kernel_rfl) (by kernel_rfl) (fun _ _ _ h => h) (fun L' w' hW hS => trivial) (fun L' w' hS => hS) (Or.inl ⟨by rfl, ?_⟩) trivial (hS0) ?_
              rotate_left 1
              · intro w9 _; go_simp; (try with_reducible rfl)
              try simp only [Act.put, List.setIfInBounds_toArray, List.set_cons_zero, List.set_cons_succ]
              refine stage_take (i := 1) (oi := { dst := some 63, op := Go.Op.load 22 (Go.Operand.tmp 62), type := 22, pos := "ref.go:106", after := #[{ on := 0, ground := Go.Ground.data }], guard := none }) (v := ?_) (T := fun w' : World => w'.cell? ⟨w.heap.size, 0, none⟩ = some (.slice (some ⟨b0, off, none⟩) l.length c) ∧ (w'.cell? ⟨w.heap.size + 1, 0, none⟩ = some (.int .i64 tx) ∧ w'.cell? ⟨w.heap.size + 1, 1, none⟩ = some (.string lo) ∧ w'.cell? ⟨w.heap.size + 1, 2, none⟩ = some (.string hi)) ∧ w'.cell? ⟨b0, off + j * 3, none⟩ = some (.int .i64 ytx) ∧ w'.cell? ⟨b0, off + j * 3 + 1, none⟩ = some (.string ylo) ∧ w'.cell? ⟨b0, off + j * 3 + 2, none⟩ = some (.string yhi)) rfl (by kernel_rfl) (by kernel_rfl) (by kernel_rfl) (by kernel_rfl) (fun _ _ _ h => h) (fun L' w' hW hS => hS) (fun L' w' hS => hS) (Or.inl ⟨by rfl, ?_⟩) (hS0) (hS0) ?_
              rotate_left 1
              · intro w9 hS9; obtain ⟨z0, ⟨z1, z2, z3⟩, z4, z5, z6⟩ := hS9; go_simp; (try with_reducible rfl)
              try simp only [Act.put, List.setIfInBounds_toArray, List.set_cons_zero, List.set_cons_succ]
              refine stage_take (i := 2) (oi := { dst := some 64, op := Go.Op.move (Go.Operand.tmp 10), type := 3, pos := "ref.go:106", after := #[], guard := none }) (v := ?_) (T := fun _ => True) rfl (by kernel_rfl) (by kernel_rfl) (by kernel_rfl) (by kernel_rfl) (fun _ _ _ h => h) (fun L' w' hW hS => trivial) (fun L' w' hS => hS) (Or.inl ⟨by rfl, ?_⟩) trivial (hS0) ?_
              rotate_left 1
              · intro w9 _; go_simp; (try with_reducible rfl)
              try simp only [Act.put, List.setIfInBounds_toArray, List.set_cons_zero, List.set_cons_succ]
              refine stage_take (i := 3) (oi := { dst := some 65, op := Go.Op.indexAddr 22 (Go.Operand.tmp 63) (Go.Operand.tmp 64), type := 0, pos := "ref.go:106", after := #[{ on := 1, ground := Go.Ground.data }, { on := 2, ground := Go.Ground.data }], guard := none }) (v := ?_) (T := fun _ => True) rfl (by kernel_rfl) (by kernel_rfl) (by kernel_rfl) (by kernel_rfl) (fun _ _ _ h => h) (fun L' w' hW hS => trivial) (fun L' w' hS => hS) (Or.inl ⟨by rfl, ?_⟩) trivial (hS0) ?_
              rotate_left 1
              · intro w9 _; go_simp; (try with_reducible rfl)
              try simp only [Act.put, List.setIfInBounds_toArray, List.set_cons_zero, List.set_cons_succ]
              refine stage_take (i := 4) (oi := { dst := some 66, op := Go.Op.load 26 (Go.Operand.tmp 65), type := 26, pos := "ref.go:106", after := #[{ on := 3, ground := Go.Ground.data }], guard := none }) (v := ?_) (T := fun w' : World => w'.cell? ⟨w.heap.size, 0, none⟩ = some (.slice (some ⟨b0, off, none⟩) l.length c) ∧ (w'.cell? ⟨w.heap.size + 1, 0, none⟩ = some (.int .i64 tx) ∧ w'.cell? ⟨w.heap.size + 1, 1, none⟩ = some (.string lo) ∧ w'.cell? ⟨w.heap.size + 1, 2, none⟩ = some (.string hi)) ∧ w'.cell? ⟨b0, off + j * 3, none⟩ = some (.int .i64 ytx) ∧ w'.cell? ⟨b0, off + j * 3 + 1, none⟩ = some (.string ylo) ∧ w'.cell? ⟨b0, off + j * 3 + 2, none⟩ = some (.string yhi)) rfl (by kernel_rfl) (by kernel_rfl) (by kernel_rfl) (by kernel_rfl) (fun _ _ _ h => h) (fun L' w' hW hS => hS) (fun L' w' hS => hS) (Or.inl ⟨by rfl, ?_⟩) (hS0) (hS0) ?_
              rotate_left 1
              · intro w9 hS9; obtain ⟨z0, ⟨z1, z2, z3⟩, z4, z5, z6⟩ := hS9; go_simp; (try with_reducible rfl)
              try simp only [Act.put, List.setIfInBounds_toArray, List.set_cons_zero, List.set_cons_succ]
              refine stage_take (i := 5) (oi := { dst := some 67, op := Go.Op.load 26 (Go.Operand.tmp 3), type := 26, pos := "ref.go:106", after := #[], guard := none }) (v := ?_) (T := fun w' : World => w'.cell? ⟨w.heap.size, 0, none⟩ = some (.slice (some ⟨b0, off, none⟩) l.length c) ∧ (w'.cell? ⟨w.heap.size + 1, 0, none⟩ = some (.int .i64 tx) ∧ w'.cell? ⟨w.heap.size + 1, 1, none⟩ = some (.string lo) ∧ w'.cell? ⟨w.heap.size + 1, 2, none⟩ = some (.string hi)) ∧ w'.cell? ⟨b0, off + j * 3, none⟩ = some (.int .i64 ytx) ∧ w'.cell? ⟨b0, off + j * 3 + 1, none⟩ = some (.string ylo) ∧ w'.cell? ⟨b0, off + j * 3 + 2, none⟩ = some (.string yhi)) rfl (by kernel_rfl) (by kernel_rfl) (by kernel_rfl) (by kernel_rfl) (fun _ _ _ h => h) (fun L' w' hW hS => hS) (fun L' w' hS => hS) (Or.inl ⟨by rfl, ?_⟩) (hS0) (hS0) ?_
              rotate_left 1
              · intro w9 hS9; obtain ⟨z0, ⟨z1, z2, z3⟩, z4, z5, z6⟩ := hS9; go_simp; (try with_reducible rfl)
              try simp only [Act.put, List.setIfInBounds_toArray, List.set_cons_zero, List.set_cons_succ]
              clear hS0
              refine stage_all (rs := [6]) (by kernel_rfl) (by simp) (fun i0 hi0 => ?_)
              obtain rfl : i0 = 6 := by simpa using hi0
              refine stage_step (S := fun (L' : Array Bool) (w' : World) => w'.cell? ⟨w.heap.size, 0, none⟩ = some (.slice (some ⟨b0, off, none⟩) l.length c) ∧ (w'.cell? ⟨w.heap.size + 1, 0, none⟩ = some (.int .i64 tx) ∧ w'.cell? ⟨w.heap.size + 1, 1, none⟩ = some (.string lo) ∧ w'.cell? ⟨w.heap.size + 1, 2, none⟩ = some (.string hi)) ∧ w'.cell? ⟨b0, off + j * 3, none⟩ = some (.int .i64 ytx) ∧ w'.cell? ⟨b0, off + j * 3 + 1, none⟩ = some (.string ylo) ∧ w'.cell? ⟨b0, off + j * 3 + 2, none⟩ = some (.string yhi)) (o := { dst := some 68, op := Go.Op.call { callee := Go.Callee.value (Go.Operand.func 40), args := #[Go.Operand.tmp 66, Go.Operand.tmp 67], argTypes := #[26, 26] }, type := 4, pos := "ref.go:106", after := #[{ on := 4, ground := Go.Ground.data }, { on := 5, ground := Go.Ground.data }], guard := none }) (by rfl) (fun K2 hK => ?_)
              go_simp
              go_wp2_with (go_at_call 40; (with_reducible refine (HTO.out _).mono ?_); rintro e w2 ⟨rfl, h2⟩)
              replace BCx := Lib.hid (BCx.out.below h2 BCx.out.lt); replace BRx := Lib.hid (BRx.out.below h2 BRx.out.lt); replace BXx := Lib.hid (BXx.out.below h2 BXx.out.lt); replace BAx := Lib.hid (BAx.out.below h2 BAx.out.lt); replace HFx := Lib.hid (below_step' HFx.out h2)
              replace y0 := (h2.cell (p := ⟨b0, off + j * 3, none⟩) (World.block_lt_of_cell? _ _ y0)).trans y0
              replace y1 := (h2.cell (p := ⟨b0, off + j * 3 + 1, none⟩) (World.block_lt_of_cell? _ _ y1)).trans y1
              replace y2 := (h2.cell (p := ⟨b0, off + j * 3 + 2, none⟩) (World.block_lt_of_cell? _ _ y2)).trans y2
              replace HO := Lib.hid (own_below HO.out h2)
              clear h2
              refine hK.out _ _ (⟨BCx.out.c 0 _ rfl, ⟨BXx.out.c 0 _ rfl, BXx.out.c 1 _ rfl, BXx.out.c 2 _ rfl⟩, y0, y1, y2⟩) ?_
              clear hK K2
              try simp only [Act.put, List.setIfInBounds_toArray, List.set_cons_zero, List.set_cons_succ]
              refine stage_done (by kernel_rfl) ?_ _
              cases tb with
              | true =>
                go_upto_region 17 with (fail)
                refine stage_begin (S := fun (L' : Array Bool) (w' : World) => w'.cell? ⟨w.heap.size, 0, none⟩ = some (.slice (some ⟨b0, off, none⟩) l.length c) ∧ (w'.cell? ⟨w.heap.size + 1, 0, none⟩ = some (.int .i64 tx) ∧ w'.cell? ⟨w.heap.size + 1, 1, none⟩ = some (.string lo) ∧ w'.cell? ⟨w.heap.size + 1, 2, none⟩ = some (.string hi)) ∧ w'.cell? ⟨b0, off + j * 3, none⟩ = some (.int .i64 ytx) ∧ w'.cell? ⟨b0, off + j * 3 + 1, none⟩ = some (.string ylo) ∧ w'.cell? ⟨b0, off + j * 3 + 2, none⟩ = some (.string yhi) ∧ (L'.getD 7 false = false → w'.cell? ⟨ga, 0, none⟩ = some (.int .i64 atx) ∧ w'.cell? ⟨ga, 1, none⟩ = some (.string alo) ∧ w'.cell? ⟨ga, 2, none⟩ = some (.string ahi))) (by kernel_rfl) ?_
                replace HFx : Hid (Below w.heap.size w w2.drew) := Lib.hid (below_drewN HFx.out 1)
                replace BCx := Lib.hid BCx.out.drew
                replace BXx := Lib.hid BXx.out.drew
                replace BRx := Lib.hid BRx.out.drew
                replace BAx := Lib.hid BAx.out.drew
                replace y0 : w2.drew.cell? ⟨b0, off + j * 3, none⟩ = some (.int .i64 ytx) := y0
                replace y1 : w2.drew.cell? ⟨b0, off + j * 3 + 1, none⟩ = some (.string ylo) := y1
                replace y2 : w2.drew.cell? ⟨b0, off + j * 3 + 2, none⟩ = some (.string yhi) := y2
                replace HO : Hid (w2.drew.ownsRow base 26 3 vr R.length (R.flatMap encL)) := HO
                generalize w2.drew = we at *
                have hS0 : (fun w' : World => w'.cell? ⟨w.heap.size, 0, none⟩ = some (.slice (some ⟨b0, off, none⟩) l.length c) ∧ (w'.cell? ⟨w.heap.size + 1, 0, none⟩ = some (.int .i64 tx) ∧ w'.cell? ⟨w.heap.size + 1, 1, none⟩ = some (.string lo) ∧ w'.cell? ⟨w.heap.size + 1, 2, none⟩ = some (.string hi)) ∧ w'.cell? ⟨b0, off + j * 3, none⟩ = some (.int .i64 ytx) ∧ w'.cell? ⟨b0, off + j * 3 + 1, none⟩ = some (.string ylo) ∧ w'.cell? ⟨b0, off + j * 3 + 2, none⟩ = some (.string yhi) ∧ (w'.cell? ⟨ga, 0, none⟩ = some (.int .i64 atx) ∧ w'.cell? ⟨ga, 1, none⟩ = some (.string alo) ∧ w'.cell? ⟨ga, 2, none⟩ = some (.string ahi))) we := ⟨BCx.out.c 0 _ rfl, ⟨BXx.out.c 0 _ rfl, BXx.out.c 1 _ rfl, BXx.out.c 2 _ rfl⟩, y0, y1, y2, ⟨BAx.out.c 0 _ rfl, BAx.out.c 1 _ rfl, BAx.out.c 2 _ rfl⟩⟩
                refine stage_take (i := 0) (oi := { dst := some 69, op := Go.Op.load 26 (Go.Operand.tmp 9), type := 26, pos := "ref.go:107", after := #[], guard := none }) (v := ?_) (T := fun w' : World => w'.cell? ⟨w.heap.size, 0, none⟩ = some (.slice (some ⟨b0, off, none⟩) l.length c) ∧ (w'.cell? ⟨w.heap.size + 1, 0, none⟩ = some (.int .i64 tx) ∧ w'.cell? ⟨w.heap.size + 1, 1, none⟩ = some (.string lo) ∧ w'.cell? ⟨w.heap.size + 1, 2, none⟩ = some (.string hi)) ∧ w'.cell? ⟨b0, off + j * 3, none⟩ = some (.int .i64 ytx) ∧ w'.cell? ⟨b0, off + j * 3 + 1, none⟩ = some (.string ylo) ∧ w'.cell? ⟨b0, off + j * 3 + 2, none⟩ = some (.string yhi) ∧ (w'.cell? ⟨ga, 0, none⟩ = some (.int .i64 atx) ∧ w'.cell? ⟨ga, 1, none⟩ = some (.string alo) ∧ w'.cell? ⟨ga, 2, none⟩ = some (.string ahi))) rfl (by kernel_rfl) (by kernel_rfl) (by kernel_rfl) (by kernel_rfl) (fun _ _ _ h => h) (fun L' w' hW hS => ⟨hS.1, hS.2.1, hS.2.2.1, hS.2.2.2.1, hS.2.2.2.2.1, hS.2.2.2.2.2 (not_yet hW (by kernel_rfl))⟩) (fun L' w' hS => ⟨hS.1, hS.2.1, hS.2.2.1, hS.2.2.2.1, hS.2.2.2.2.1, fun h => hS.2.2.2.2.2 (by rw [getD_set_ne false (by decide)]; exact h)⟩) (Or.inl ⟨by rfl, ?_⟩) (hS0) (⟨hS0.1, hS0.2.1, hS0.2.2.1, hS0.2.2.2.1, hS0.2.2.2.2.1, fun _ => hS0.2.2.2.2.2⟩) ?_
                rotate_left 1
                · intro w9 hS9; obtain ⟨z0, ⟨z1, z2, z3⟩, z4, z5, z6, z7, z8, z9⟩ := hS9; go_simp; (try with_reducible rfl)
                try simp only [Act.put, List.setIfInBounds_toArray, List.set_cons_zero, List.set_cons_succ]
                refine stage_take (i := 1) (oi := { dst := some 70, op := Go.Op.fieldAddr 24 (Go.Operand.tmp 2) 0, type := 0, pos := "ref.go:107", after := #[], guard := none }) (v := ?_) (T := fun _ => True) rfl (by kernel_rfl) (by kernel_rfl) (by kernel_rfl) (by kernel_rfl) (fun _ _ _ h => h) (fun L' w' hW hS => trivial) (fun L' w' hS => ⟨hS.1, hS.2.1, hS.2.2.1, hS.2.2.2.1, hS.2.2.2.2.1, fun h => hS.2.2.2.2.2 (by rw [getD_set_ne false (by decide)]; exact h)⟩) (Or.inl ⟨by rfl, ?_⟩) trivial (⟨hS0.1, hS0.2.1, hS0.2.2.1, hS0.2.2.2.1, hS0.2.2.2.2.1, fun _ => hS0.2.2.2.2.2⟩) ?_
                rotate_left 1
                · intro w9 _; go_simp; (try with_reducible rfl)
                try simp only [Act.put, List.setIfInBounds_toArray, List.set_cons_zero, List.set_cons_succ]
                refine stage_take (i := 2) (oi := { dst := some 71, op := Go.Op.load 22 (Go.Operand.tmp 70), type := 22, pos := "ref.go:107", after := #[{ on := 1, ground := Go.Ground.data }], guard := none }) (v := ?_) (T := fun w' : World => w'.cell? ⟨w.heap.size, 0, none⟩ = some (.slice (some ⟨b0, off, none⟩) l.length c) ∧ (w'.cell? ⟨w.heap.size + 1, 0, none⟩ = some (.int .i64 tx) ∧ w'.cell? ⟨w.heap.size + 1, 1, none⟩ = some (.string lo) ∧ w'.cell? ⟨w.heap.size + 1, 2, none⟩ = some (.string hi)) ∧ w'.cell? ⟨b0, off + j * 3, none⟩ = some (.int .i64 ytx) ∧ w'.cell? ⟨b0, off + j * 3 + 1, none⟩ = some (.string ylo) ∧ w'.cell? ⟨b0, off + j * 3 + 2, none⟩ = some (.string yhi) ∧ (w'.cell? ⟨ga, 0, none⟩ = some (.int .i64 atx) ∧ w'.cell? ⟨ga, 1, none⟩ = some (.string alo) ∧ w'.cell? ⟨ga, 2, none⟩ = some (.string ahi))) rfl (by kernel_rfl) (by kernel_rfl) (by kernel_rfl) (by kernel_rfl) (fun _ _ _ h => h) (fun L' w' hW hS => ⟨hS.1, hS.2.1, hS.2.2.1, hS.2.2.2.1, hS.2.2.2.2.1, hS.2.2.2.2.2 (not_yet hW (by kernel_rfl))⟩) (fun L' w' hS => ⟨hS.1, hS.2.1, hS.2.2.1, hS.2.2.2.1, hS.2.2.2.2.1, fun h => hS.2.2.2.2.2 (by rw [getD_set_ne false (by decide)]; exact h)⟩) (Or.inl ⟨by rfl, ?_⟩) (hS0) (⟨hS0.1, hS0.2.1, hS0.2.2.1, hS0.2.2.2.1, hS0.2.2.2.2.1, fun _ => hS0.2.2.2.2.2⟩) ?_
                rotate_left 1
                · intro w9 hS9; obtain ⟨z0, ⟨z1, z2, z3⟩, z4, z5, z6, z7, z8, z9⟩ := hS9; go_simp; (try with_reducible rfl)
                try simp only [Act.put, List.setIfInBounds_toArray, List.set_cons_zero, List.set_cons_succ]
                refine stage_take (i := 3) (oi := { dst := some 72, op := Go.Op.move (Go.Operand.tmp 10), type := 3, pos := "ref.go:107", after := #[], guard := none }) (v := ?_) (T := fun _ => True) rfl (by kernel_rfl) (by kernel_rfl) (by kernel_rfl) (by kernel_rfl) (fun _ _ _ h => h) (fun L' w' hW hS => trivial) (fun L' w' hS => ⟨hS.1, hS.2.1, hS.2.2.1, hS.2.2.2.1, hS.2.2.2.2.1, fun h => hS.2.2.2.2.2 (by rw [getD_set_ne false (by decide)]; exact h)⟩) (Or.inl ⟨by rfl, ?_⟩) trivial (⟨hS0.1, hS0.2.1, hS0.2.2.1, hS0.2.2.2.1, hS0.2.2.2.2.1, fun _ => hS0.2.2.2.2.2⟩) ?_
                rotate_left 1
                · intro w9 _; go_simp; (try with_reducible rfl)
                try simp only [Act.put, List.setIfInBounds_toArray, List.set_cons_zero, List.set_cons_succ]
                refine stage_take (i := 4) (oi := { dst := some 73, op := Go.Op.indexAddr 22 (Go.Operand.tmp 71) (Go.Operand.tmp 72), type := 0, pos := "ref.go:107", after := #[{ on := 2, ground := Go.Ground.data }, { on := 3, ground := Go.Ground.data }], guard := none }) (v := ?_) (T := fun _ => True) rfl (by kernel_rfl) (by kernel_rfl) (by kernel_rfl) (by kernel_rfl) (fun _ _ _ h => h) (fun L' w' hW hS => trivial) (fun L' w' hS => ⟨hS.1, hS.2.1, hS.2.2.1, hS.2.2.2.1, hS.2.2.2.2.1, fun h => hS.2.2.2.2.2 (by rw [getD_set_ne false (by decide)]; exact h)⟩) (Or.inl ⟨by rfl, ?_⟩) trivial (⟨hS0.1, hS0.2.1, hS0.2.2.1, hS0.2.2.2.1, hS0.2.2.2.2.1, fun _ => hS0.2.2.2.2.2⟩) ?_
                rotate_left 1
                · intro w9 _; go_simp; (try with_reducible rfl)
                try simp only [Act.put, List.setIfInBounds_toArray, List.set_cons_zero, List.set_cons_succ]
                refine stage_take (i := 5) (oi := { dst := some 74, op := Go.Op.load 26 (Go.Operand.tmp 73), type := 26, pos := "ref.go:107", after := #[{ on := 4, ground := Go.Ground.data }], guard := none }) (v := ?_) (T := fun w' : World => w'.cell? ⟨w.heap.size, 0, none⟩ = some (.slice (some ⟨b0, off, none⟩) l.length c) ∧ (w'.cell? ⟨w.heap.size + 1, 0, none⟩ = some (.int .i64 tx) ∧ w'.cell? ⟨w.heap.size + 1, 1, none⟩ = some (.string lo) ∧ w'.cell? ⟨w.heap.size + 1, 2, none⟩ = some (.string hi)) ∧ w'.cell? ⟨b0, off + j * 3, none⟩ = some (.int .i64 ytx) ∧ w'.cell? ⟨b0, off + j * 3 + 1, none⟩ = some (.string ylo) ∧ w'.cell? ⟨b0, off + j * 3 + 2, none⟩ = some (.string yhi) ∧ (w'.cell? ⟨ga, 0, none⟩ = some (.int .i64 atx) ∧ w'.cell? ⟨ga, 1, none⟩ = some (.string alo) ∧ w'.cell? ⟨ga, 2, none⟩ = some (.string ahi))) rfl (by kernel_rfl) (by kernel_rfl) (by kernel_rfl) (by kernel_rfl) (fun _ _ _ h => h) (fun L' w' hW hS => ⟨hS.1, hS.2.1, hS.2.2.1, hS.2.2.2.1, hS.2.2.2.2.1, hS.2.2.2.2.2 (not_yet hW (by kernel_rfl))⟩) (fun L' w' hS => ⟨hS.1, hS.2.1, hS.2.2.1, hS.2.2.2.1, hS.2.2.2.2.1, fun h => hS.2.2.2.2.2 (by rw [getD_set_ne false (by decide)]; exact h)⟩) (Or.inl ⟨by rfl, ?_⟩) (hS0) (⟨hS0.1, hS0.2.1, hS0.2.2.1, hS0.2.2.2.1, hS0.2.2.2.2.1, fun _ => hS0.2.2.2.2.2⟩) ?_
                rotate_left 1
                · intro w9 hS9; obtain ⟨z0, ⟨z1, z2, z3⟩, z4, z5, z6, z7, z8, z9⟩ := hS9; go_simp; (try with_reducible rfl)
                try simp only [Act.put, List.setIfInBounds_toArray, List.set_cons_zero, List.set_cons_succ]
                clear hS0
                refine stage_all (rs := [6]) (by kernel_rfl) (by simp) (fun i0 hi0 => ?_)
                obtain rfl : i0 = 6 := by simpa using hi0
                refine stage_step (S := fun (L' : Array Bool) (w' : World) => w'.cell? ⟨w.heap.size, 0, none⟩ = some (.slice (some ⟨b0, off, none⟩) l.length c) ∧ (w'.cell? ⟨w.heap.size + 1, 0, none⟩ = some (.int .i64 tx) ∧ w'.cell? ⟨w.heap.size + 1, 1, none⟩ = some (.string lo) ∧ w'.cell? ⟨w.heap.size + 1, 2, none⟩ = some (.string hi)) ∧ w'.cell? ⟨b0, off + j * 3, none⟩ = some (.int .i64 ytx) ∧ w'.cell? ⟨b0, off + j * 3 + 1, none⟩ = some (.string ylo) ∧ w'.cell? ⟨b0, off + j * 3 + 2, none⟩ = some (.string yhi) ∧ (L'.getD 7 false = false → w'.cell? ⟨ga, 0, none⟩ = some (.int .i64 atx) ∧ w'.cell? ⟨ga, 1, none⟩ = some (.string alo) ∧ w'.cell? ⟨ga, 2, none⟩ = some (.string ahi))) (o := { dst := some 75, op := Go.Op.call { callee := Go.Callee.value (Go.Operand.func 41), args := #[Go.Operand.tmp 69, Go.Operand.tmp 74], argTypes := #[26, 26] }, type := 26, pos := "ref.go:107", after := #[{ on := 0, ground := Go.Ground.data }, { on := 5, ground := Go.Ground.data }], guard := none }) (by rfl) (fun K2 hK => ?_)
                go_simp
                go_wp2_with (go_at_call 41; (with_reducible refine (HON.out _).mono ?_); rintro e w3 ⟨rfl, h3⟩)
                replace BCx := Lib.hid (BCx.out.below h3 BCx.out.lt); replace BRx := Lib.hid (BRx.out.below h3 BRx.out.lt); replace BXx := Lib.hid (BXx.out.below h3 BXx.out.lt); replace BAx := Lib.hid (BAx.out.below h3 BAx.out.lt); replace HFx := Lib.hid (below_step' HFx.out h3)
                replace y0 := (h3.cell (p := ⟨b0, off + j * 3, none⟩) (World.block_lt_of_cell? _ _ y0)).trans y0
                replace y1 := (h3.cell (p := ⟨b0, off + j * 3 + 1, none⟩) (World.block_lt_of_cell? _ _ y1)).trans y1
                replace y2 := (h3.cell (p := ⟨b0, off + j * 3 + 2, none⟩) (World.block_lt_of_cell? _ _ y2)).trans y2
                replace HO := Lib.hid (own_below HO.out h3)
                clear h3
                refine hK.out _ _ (⟨BCx.out.c 0 _ rfl, ⟨BXx.out.c 0 _ rfl, BXx.out.c 1 _ rfl, BXx.out.c 2 _ rfl⟩, y0, y1, y2, fun _ => ⟨BAx.out.c 0 _ rfl, BAx.out.c 1 _ rfl, BAx.out.c 2 _ rfl⟩⟩) ?_
                clear hK K2
                try simp only [Act.put, List.setIfInBounds_toArray, List.set_cons_zero, List.set_cons_succ]
                refine stage_all (rs := [7]) (by kernel_rfl) (by simp) (fun i0 hi0 => ?_)
                obtain rfl : i0 = 7 := by simpa using hi0
                refine stage_step (S := fun (L' : Array Bool) (w' : World) => w'.cell? ⟨w.heap.size, 0, none⟩ = some (.slice (some ⟨b0, off, none⟩) l.length c) ∧ (w'.cell? ⟨w.heap.size + 1, 0, none⟩ = some (.int .i64 tx) ∧ w'.cell? ⟨w.heap.size + 1, 1, none⟩ = some (.string lo) ∧ w'.cell? ⟨w.heap.size + 1, 2, none⟩ = some (.string hi)) ∧ w'.cell? ⟨b0, off + j * 3, none⟩ = some (.int .i64 ytx) ∧ w'.cell? ⟨b0, off + j * 3 + 1, none⟩ = some (.string ylo) ∧ w'.cell? ⟨b0, off + j * 3 + 2, none⟩ = some (.string yhi) ∧ (L'.getD 7 false = false → w'.cell? ⟨ga, 0, none⟩ = some (.int .i64 atx) ∧ w'.cell? ⟨ga, 1, none⟩ = some (.string alo) ∧ w'.cell? ⟨ga, 2, none⟩ = some (.string ahi))) (o := { dst := none, op := Go.Op.store 26 (Go.Operand.tmp 9) (Go.Operand.tmp 75), type := 0, pos := "ref.go:107", after := #[{ on := 6, ground := Go.Ground.data }, { on := 6, ground := Go.Ground.chain }, { on := 0, ground := Go.Ground.phase }, { on := 1, ground := Go.Ground.phase }, { on := 2, ground := Go.Ground.phase }, { on := 3, ground := Go.Ground.phase }, { on := 4, ground := Go.Ground.phase }, { on := 5, ground := Go.Ground.phase }, { on := 6, ground := Go.Ground.phase }], guard := none }) (by rfl) (fun K2 hK => ?_)
                obtain ⟨nx, hnx⟩ : ∃ nx, nx = joinL ⟨atx, alo, ahi⟩ ⟨ytx, ylo, yhi⟩ := ⟨_, rfl⟩
                rw [← hnx]
                replace hnx := Lib.hid hnx
                have cBAx0 := BAx.out.c 0 _ rfl; have fBAx0 := BAx.out.f 0 (by simp); have cBAx1 := BAx.out.c 1 _ rfl; have fBAx1 := BAx.out.f 1 (by simp); have cBAx2 := BAx.out.c 2 _ rfl; have fBAx2 := BAx.out.f 2 (by simp); have lBAx := BAx.out.lt
                go_simp
                clear cBAx0 fBAx0 cBAx1 fBAx1 cBAx2 fBAx2 lBAx
                have BA7 : Hid (Box (((w3.setCell ⟨ga, 0, none⟩ (.int .i64 nx.tx)).setCell ⟨ga, 1, none⟩ (.string nx.lo)).setCell ⟨ga, 2, none⟩ (.string nx.hi)) ga [.int .i64 nx.tx, .string nx.lo, .string nx.hi]) := Lib.hid (((BAx.out.set 0 (.int .i64 nx.tx) (by simp)).set 1 (.string nx.lo) (by simp)).set 2 (.string nx.hi) (by simp))
                have BC7 := Lib.hid (((BCx.out.other ⟨ga, 0, none⟩ (.int .i64 nx.tx) (by show ga ≠ w.heap.size; omega)).other ⟨ga, 1, none⟩ (.string nx.lo) (by show ga ≠ w.heap.size; omega)).other ⟨ga, 2, none⟩ (.string nx.hi) (by show ga ≠ w.heap.size; omega))
                have BX7 := Lib.hid (((BXx.out.other ⟨ga, 0, none⟩ (.int .i64 nx.tx) (by show ga ≠ w.heap.size + 1; omega)).other ⟨ga, 1, none⟩ (.string nx.lo) (by show ga ≠ w.heap.size + 1; omega)).other ⟨ga, 2, none⟩ (.string nx.hi) (by show ga ≠ w.heap.size + 1; omega))
                have BR7 := Lib.hid (((BRx.out.other ⟨ga, 0, none⟩ (.int .i64 nx.tx) (by show ga ≠ w.heap.size + 2; omega)).other ⟨ga, 1, none⟩ (.string nx.lo) (by show ga ≠ w.heap.size + 2; omega)).other ⟨ga, 2, none⟩ (.string nx.hi) (by show ga ≠ w.heap.size + 2; omega))
                have HF7 := Lib.hid (below_set (g := ga) (j := 2) (v := .string nx.hi) (below_set (g := ga) (j := 1) (v := .string nx.lo) (below_set (g := ga) (j := 0) (v := .int .i64 nx.tx) HFx.out (by omega)) (by omega)) (by omega))
                have HO7 := Lib.hid (own_set (own_set (own_set HO.out ⟨ga, 0, none⟩ (.int .i64 nx.tx) (by show ga < base; omega)) ⟨ga, 1, none⟩ (.string nx.lo) (by show ga < base; omega)) ⟨ga, 2, none⟩ (.string nx.hi) (by show ga < base; omega))
                have y0z : (((w3.setCell ⟨ga, 0, none⟩ (.int .i64 nx.tx)).setCell ⟨ga, 1, none⟩ (.string nx.lo)).setCell ⟨ga, 2, none⟩ (.string nx.hi)).cell? ⟨b0, off + j * 3, none⟩ = _ := (World.cell?_of_block (a := ⟨b0, off + j * 3, none⟩) ((heap_setCell_other _ ⟨ga, 2, none⟩ b0 _ (by show b0 ≠ ga; omega)).trans ((heap_setCell_other _ ⟨ga, 1, none⟩ b0 _ (by show b0 ≠ ga; omega)).trans (heap_setCell_other w3 ⟨ga, 0, none⟩ b0 _ (by show b0 ≠ ga; omega))))).trans y0
                have y1z : (((w3.setCell ⟨ga, 0, none⟩ (.int .i64 nx.tx)).setCell ⟨ga, 1, none⟩ (.string nx.lo)).setCell ⟨ga, 2, none⟩ (.string nx.hi)).cell? ⟨b0, off + j * 3 + 1, none⟩ = _ := (World.cell?_of_block (a := ⟨b0, off + j * 3 + 1, none⟩) ((heap_setCell_other _ ⟨ga, 2, none⟩ b0 _ (by show b0 ≠ ga; omega)).trans ((heap_setCell_other _ ⟨ga, 1, none⟩ b0 _ (by show b0 ≠ ga; omega)).trans (heap_setCell_other w3 ⟨ga, 0, none⟩ b0 _ (by show b0 ≠ ga; omega))))).trans y1
                have y2z : (((w3.setCell ⟨ga, 0, none⟩ (.int .i64 nx.tx)).setCell ⟨ga, 1, none⟩ (.string nx.lo)).setCell ⟨ga, 2, none⟩ (.string nx.hi)).cell? ⟨b0, off + j * 3 + 2, none⟩ = _ := (World.cell?_of_block (a := ⟨b0, off + j * 3 + 2, none⟩) ((heap_setCell_other _ ⟨ga, 2, none⟩ b0 _ (by show b0 ≠ ga; omega)).trans ((heap_setCell_other _ ⟨ga, 1, none⟩ b0 _ (by show b0 ≠ ga; omega)).trans (heap_setCell_other w3 ⟨ga, 0, none⟩ b0 _ (by show b0 ≠ ga; omega))))).trans y2
                refine hK.out _ _ (⟨BC7.out.c 0 _ rfl, ⟨BX7.out.c 0 _ rfl, BX7.out.c 1 _ rfl, BX7.out.c 2 _ rfl⟩, y0z, y1z, y2z, fun h => by simp at h⟩) ?_
                clear hK K2
                try simp only [Act.put, List.setIfInBounds_toArray, List.set_cons_zero, List.set_cons_succ]
                generalize ((w3.setCell ⟨ga, 0, none⟩ (.int .i64 nx.tx)).setCell ⟨ga, 1, none⟩ (.string nx.lo)).setCell ⟨ga, 2, none⟩ (.string nx.hi) = w7 at *
                refine stage_done (by kernel_rfl) ?_ _
                go_wp2_with fail
                go_roundw
                case rel => exact ⟨j + 1, by omega, by go_num, HF7, BC7, BX7, BR7, R, nx, Lib.hid (by rw [HR2.out]; simp), Lib.hid (by rw [HA2.out, hnx.out]; rfl), BA7, HO7⟩
                case measure => simp [Lib.intOf]; omega
              | false =>
                obtain ⟨v2, w3, hrun, ho2, hb2⟩ := app_lks (w2.alloc (.cells #[.int .i64 ytx, .string ylo, .string yhi] 26)) 22 base vr R.length (R.flatMap encL) (HO.out.alloc _) (some ⟨w2.heap.size, 0, none⟩) 1 1 [⟨ytx, ylo, yhi⟩] rfl (RowE.lit encL_len (heap_alloc_new w2 _) (by simp [encL])) (fun h => by cases h) (by simp; omega) (by have := BAx.out.lt; simp; omega)
                have hz2 := HFx.out.size
                have HF3 : Hid (Below w.heap.size w w3) := Lib.hid ((HFx.out.alloc hz2 (.cells #[.int .i64 ytx, .string ylo, .string yhi] 26)).trans (hb2.mono (by omega)))
                have BC3 := Lib.hid ((BCx.out.alloc (.cells #[.int .i64 ytx, .string ylo, .string yhi] 26)).below hb2 (by omega))
                have BX3 := Lib.hid ((BXx.out.alloc (.cells #[.int .i64 ytx, .string ylo, .string yhi] 26)).below hb2 (by omega))
                have BR3 := Lib.hid ((BRx.out.alloc (.cells #[.int .i64 ytx, .string ylo, .string yhi] 26)).below hb2 (by omega))
                have BA3 := Lib.hid ((BAx.out.alloc (.cells #[.int .i64 ytx, .string ylo, .string yhi] 26)).below hb2 (by omega))
                have HO3 : Hid (w3.ownsRow base 26 3 v2 (R ++ [(⟨ytx, ylo, yhi⟩ : Lk)]).length ((R ++ [(⟨ytx, ylo, yhi⟩ : Lk)]).flatMap encL)) := Lib.hid (by rw [List.flatMap_append, List.length_append]; exact ho2)
                clear ho2 hb2
                have cBCx0 := BCx.out.c 0 _ rfl; have fBCx0 := BCx.out.f 0 (by simp); have lBCx := BCx.out.lt
                go_wp2_with (at_builtin; refine Lib.wpList_append_run _ rfl _ _ _ _ rfl _ _ rfl rfl _ _ hrun ?_)
                go_roundw
                case rel => exact ⟨j + 1, by omega, by go_num, HF3, BC3, BX3, BR3, R ++ [⟨ytx, ylo, yhi⟩], ⟨atx, alo, ahi⟩, Lib.hid (by rw [HR2.out]; simp), Lib.hid (by rw [HA2.out]; simp), BA3, HO3⟩
                case measure => simp [Lib.intOf]; omega
            · obtain rfl : j = l.length := by omega
              rw [List.take_length] at HRR HAC
              have hIR : Inc R := by rw [HRR.out]; exact List.Pairwise.filter _ HINC.out
              have EF : Hid (g = if R.length = 512 then ([], 51) else (putB R acc, 0)) := Lib.hid (by rw [E4.out, if_neg (by rw [HAN.out]; simp), ← HRR.out, ← HAC.out, put_same acc hIR])
              clear HRR HAC hIR E4 HINC
              generalize hvr : u8 = vr at *
              by_cases hfu : R.length = 512
              · have EE : Hid (g = ([], 51)) := Lib.hid (by rw [EF.out, if_pos hfu])
                have hfi : (512 : Int) ≤ (R.length : Int) := by omega
                obtain ⟨Ar, cr, rfl, _, _⟩ := own_slice HOr.out
                clear EF HOr
                have cBCr0 := BCr.out.c 0 _ rfl; have fBCr0 := BCr.out.f 0 (by simp); have lBCr := BCr.out.lt; have cBRr0 := BRr.out.c 0 _ rfl; have fBRr0 := BRr.out.f 0 (by simp); have lBRr := BRr.out.lt
                go_wp2_with fail
                clear cBCr0 fBCr0 lBCr; clear cBRr0 fBRr0 lBRr
                have HX := Lib.hid (below_set (g := w.heap.size + 2) (j := 0) (v := .slice none 0 0) HFr.out (by omega))
                have BZ : Hid (Box (wr.setCell ⟨w.heap.size + 2, 0, none⟩ (.slice none 0 0)) (w.heap.size + 2) [.slice none 0 0]) := Lib.hid (BRr.out.set 0 (.slice none 0 0) (by simp))
                have HV : Hid (SlB encL 3 w.heap.size (wr.setCell ⟨w.heap.size + 2, 0, none⟩ (.slice none 0 0)) (.slice none 0 0) g.1) := Lib.hid (by rw [EE.out]; exact SlB.nil _)
                generalize wr.setCell ⟨w.heap.size + 2, 0, none⟩ (.slice none 0 0) = wz at *
                have cBZ0 := BZ.out.c 0 _ rfl
                refine bodyPost_ret (v := .tuple #[.agg #[.slice none 0 0], .int .i64 51]) (by simp [results, Try.results18, go_sem, cBZ0]) rfl ?_
                refine ⟨_, ?_, HV.out, HX.out⟩
                rw [EE.out]

              · have EE : Hid (g = (putB R acc, 0)) := Lib.hid (by rw [EF.out, if_neg hfu])
                have hfi : ¬ (512 : Int) ≤ (R.length : Int) := by omega
                have hpu := rlput_own acc HOr.out (by omega)
                obtain ⟨Ar, cr, rfl, _, _⟩ := own_slice HOr.out
                have hzr : w.heap.size + 3 ≤ wr.heap.size := BRr.out.lt
                clear EF HOr
                obtain ⟨atx, alo, ahi⟩ := acc
                try dsimp only at hpu
                try dsimp only at BAr
                have cBCr0 := BCr.out.c 0 _ rfl; have fBCr0 := BCr.out.f 0 (by simp); have lBCr := BCr.out.lt; have cBAr0 := BAr.out.c 0 _ rfl; have fBAr0 := BAr.out.f 0 (by simp); have cBAr1 := BAr.out.c 1 _ rfl; have fBAr1 := BAr.out.f 1 (by simp); have cBAr2 := BAr.out.c 2 _ rfl; have fBAr2 := BAr.out.f 2 (by simp); have lBAr := BAr.out.lt
                go_wp2_with (go_at_call 42; (with_reducible refine hpu.mono ?_); rintro e w3 ⟨v3, rfl, hv3, h3⟩; clear cBCr0 fBCr0 lBCr; clear cBAr0 fBAr0 cBAr1 fBAr1 cBAr2 fBAr2 lBAr; replace BRr := Lib.hid (BRr.out.below h3 BRr.out.lt); replace HFr := Lib.hid (below_step' HFr.out h3); (have HV3 := Lib.hid (hv3.mono (M := w.heap.size + 3) hzr)); (obtain ⟨A3, c3, rfl, _⟩ := hv3); clear h3; have cBRr0 := BRr.out.c 0 _ rfl; have fBRr0 := BRr.out.f 0 (by simp); have lBRr := BRr.out.lt)
                clear cBRr0 fBRr0 lBRr
                have HX := Lib.hid (below_set (g := w.heap.size + 2) (j := 0) (v := .slice A3 (putB R ⟨atx, alo, ahi⟩).length c3) HFr.out (by omega))
                have BZ : Hid (Box (w3.setCell ⟨w.heap.size + 2, 0, none⟩ (.slice A3 (putB R ⟨atx, alo, ahi⟩).length c3)) (w.heap.size + 2) [.slice A3 (putB R ⟨atx, alo, ahi⟩).length c3]) := Lib.hid (BRr.out.set 0 (.slice A3 (putB R ⟨atx, alo, ahi⟩).length c3) (by simp))
                have HV : Hid (SlB encL 3 w.heap.size (w3.setCell ⟨w.heap.size + 2, 0, none⟩ (.slice A3 (putB R ⟨atx, alo, ahi⟩).length c3)) (.slice A3 (putB R ⟨atx, alo, ahi⟩).length c3) g.1) := Lib.hid (by rw [EE.out]; exact (HV3.out.set ⟨w.heap.size + 2, 0, none⟩ _ (Nat.lt_succ_self _)).mono (by omega))
                generalize w3.setCell ⟨w.heap.size + 2, 0, none⟩ (.slice A3 (putB R ⟨atx, alo, ahi⟩).length c3) = wz at *
                have cBZ0 := BZ.out.c 0 _ rfl
                refine bodyPost_ret (v := .tuple #[.agg #[.slice A3 (putB R ⟨atx, alo, ahi⟩).length c3], .int .i64 0]) (by simp [results, Try.results18, go_sem, cBZ0]) rfl ?_
                refine ⟨_, ?_, HV.out, HX.out⟩
                rw [EE.out]



  · have EE := Lib.hid (E1.out (by trivial))
    clear E1 E2 E3 CK HTOX HX0 RR HMAY
    have cBR0 := BR.out.c 0 _ rfl; have fBR0 := BR.out.f 0 (by simp); have lBR := BR.out.lt
    go_wp2_with fail
    clear cBR0 fBR0 lBR
    have HX := Lib.hid (below_set (g := w.heap.size + 2) (j := 0) (v := .slice none 0 0) HF.out (by omega))
    have BZ : Hid (Box (w1.setCell ⟨w.heap.size + 2, 0, none⟩ (.slice none 0 0)) (w.heap.size + 2) [.slice none 0 0]) := Lib.hid (BR.out.set 0 (.slice none 0 0) (by simp))
    have HV : Hid (SlB encL 3 w.heap.size (w1.setCell ⟨w.heap.size + 2, 0, none⟩ (.slice none 0 0)) (.slice none 0 0) g.1) := Lib.hid (by rw [EE.out]; exact SlB.nil _)
    generalize w1.setCell ⟨w.heap.size + 2, 0, none⟩ (.slice none 0 0) = wz at *
    have cBZ0 := BZ.out.c 0 _ rfl
    refine bodyPost_ret (v := .tuple #[.agg #[.slice none 0 0], .int .i64 9]) (by simp [results, Try.results18, go_sem, cBZ0]) rfl ?_
    refine ⟨_, ?_, HV.out, HX.out⟩
    rw [EE.out]

end Go.Proofs.Ytdiclnkkddnncaa
