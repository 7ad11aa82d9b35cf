/- Package lock: Widen. -/
import Derived.Test.YtdiclnkkddnncaaDropW
import Derived.Test.YtdiclnkkddnncaaOfL
import Derived.Test.YtdiclnkkddnncaaLkX
import Derived.Maps.AppendAt
namespace Go.Proofs.Ytdiclnkkddnncaa
open Go.RowKit
open Go.Shelf
set_option linter.unusedVariables false
set_option linter.unusedSimpArgs false
theorem mine_snoc (t : Int) {l : List Lk} {j : Nat} {x : Lk} (hx : l[j]? = some x) : mineL (l.take (j + 1)) t = mineL (l.take j) t ++ (if x.tx = t then [x] else []) := by
  unfold mineL
  rw [List.take_add_one, hx]
  simp only [Option.toList_some, List.filter_append]
  by_cases q : x.tx = t <;> simp [q]
theorem others_snoc (t : Int) {l : List Lk} {j : Nat} {x : Lk} (hx : l[j]? = some x) : othersL (l.take (j + 1)) t = othersL (l.take j) t ++ (if x.tx = t then [] else [x]) := by
  unfold othersL
  rw [List.take_add_one, hx]
  simp only [Option.toList_some, List.filter_append]
  by_cases q : x.tx = t <;> simp [q]
theorem mine_len (l : List Lk) (t : Int) : (mineL l t).length ≤ l.length := List.length_filter_le _ _
theorem others_len (l : List Lk) (t : Int) : (othersL l t).length ≤ l.length := List.length_filter_le _ _
theorem fold_snoc {l : List Lk} {j : Nat} {x a : Lk} (hx : l[j]? = some x) : (l.take (j + 1)).foldl joinL a = joinL ((l.take j).foldl joinL a) x := by
  rw [List.take_add_one, hx]; simp
theorem flat_one (l : List Lk) (x : Lk) : (l ++ [x]).flatMap encL = l.flatMap encL ++ encL x := by simp
set_option maxHeartbeats 8000000 in
set_option maxRecDepth 100000 in
theorem widen_any (A : Option Addr) (c : Nat) (l : List Lk) (t m : Int) (w : World) (HR : RowE encL 3 w A l) (hn : A = none → c = 0) (hl : l.length ≤ 140737488355328) :
    Calls Try.prog 16 #[.agg #[.slice A l.length c], .int .i64 t, .int .i64 m] w fun e w' => ∃ v, e = .returned (.tuple #[.agg #[v], .int .i64 (widenL l t m).2]) ∧ SlB encL 3 w.heap.size w' v (widenL l t m).1 ∧ Below w.heap.size w w' := by
  obtain ⟨i0, hi, hz0, hz1, hz2⟩ := infoL
  have B2 := (Box1.new w (.slice A l.length c) 30).alloc (.cells #[.slice none 0 0] 30)
  have B4 := Box1.new (w.alloc (.cells #[.slice A l.length c] 30)) (.slice none 0 0) 30
  have ba : Below w.heap.size w ((w.alloc (.cells #[.slice A l.length c] 30)).alloc (.cells #[.slice none 0 0] 30)) := (by (repeat (first | (with_reducible exact Below.refl _ _) | apply below_alloc _ (Nat.le_refl _) | refine below_set ?_ (by first | exact Nat.le_refl _ | omega) | apply below_drewN | refine below_step ?_ HB)))
  have hck := lcheck_any A c l _ (HR.below ba) hl
  have HR0 := Lib.hid (HR.below ba)
  have E1 : Hid (chkL l ≠ 0 → widenL l t m = ([], chkL l)) := Lib.hid (fun h => by unfold widenL; rw [if_pos h])
  have E2 : Hid (chkL l = 0 → widenL l t m = (if m < 1 then ([], 4) else if ((mineL l t).length : Int) ≤ m then (l, 0) else (putL (othersL l t) (allL (mineL l t)), 0))) := Lib.hid (fun h => by unfold widenL; rw [if_neg (by simp [h])])
  have CK := Lib.hid (fun h => (chkL_iff l).1 h)
  have hsz : w.heap.size + 2 ≤ ((w.alloc (.cells #[.slice A l.length c] 30)).alloc (.cells #[.slice none 0 0] 30)).heap.size := by simp
  simp only [World.size_alloc] at B4
  clear HR
  generalize hkk : chkL l = k at *
  clear hkk
  go_enter Try.func16, Try.ntmps16
  go_wp2_with fail
  generalize (w.alloc (.cells #[.slice A l.length c] 30)).alloc (.cells #[.slice none 0 0] 30) = w0 at *
  refine hck.mono ?_; rintro e w1 ⟨rfl, h1⟩
  have HB2 := B2.step h1
  have HB4 := B4.step h1
  have HF := ba.trans (h1.mono (by omega))
  have HR1 := Lib.hid (HR0.out.below h1)
  have z1 := h1.size
  have zz1 : w.heap.size + 2 ≤ w1.heap.size := by omega
  clear h1 hck B2 B4 ba HR0
  by_cases k0 : k = 0
  · subst k0
    obtain ⟨hlen, _, hinc⟩ := CK.out (by trivial)
    have HI := Lib.hid hinc
    have EE := Lib.hid (E2.out (by trivial))
    clear E1 E2 CK hinc
    by_cases hm : m < 1
    · have EF : Hid (widenL l t m = ([], 4)) := Lib.hid (by rw [EE.out, if_pos hm])
      obtain ⟨c40, f40, l4⟩ := HB4
      go_wp2
      refine bodyPost_ret (v := .tuple #[.agg #[.slice none 0 0], .int .i64 4]) (by simp [results, Try.results16, go_sem, c40, l4]) rfl ?_
      rw [EF.out]
      exact ⟨_, rfl, SlB.nil _, Below.setCell HF (by first | omega | (simp; done) | (simp; omega)) _⟩
    have EF : Hid (widenL l t m = (if ((mineL l t).length : Int) ≤ m then (l, 0) else (putL (othersL l t) (allL (mineL l t)), 0))) := Lib.hid (by rw [EE.out, if_neg hm])
    clear EE
    have HB2' := Lib.hid HB2
    have HB4' := Lib.hid HB4
    clear HB4
    obtain ⟨c20, f20, l2⟩ := HB2
    go_wp2_with fail
    clear c20 f20 l2
    go_loopw [9, 10, 28] (fun s9 s10 s28 wr => ∃ j : Nat, j ≤ l.length ∧ s28 = .int .i64 j ∧ Below w1.heap.size w1 wr ∧ Hid (wr.ownsRow w1.heap.size 35 3 s9 (mineL (l.take j) t).length ((mineL (l.take j) t).flatMap encL)) ∧ Hid (wr.ownsRow w1.heap.size 35 3 s10 (othersL (l.take j) t).length ((othersL (l.take j) t).flatMap encL)) ∧ Hid (∀ g, s9.ownBlock = some g → s10.ownBlock ≠ some g)) (fun _ _ s28 _ => l.length - (Lib.intOf s28).toNat)
    case atStart => exact ⟨0, Nat.zero_le _, rfl, Below.refl _ _, Lib.hid (by simpa [mineL] using World.ownsRow_nil _ _ _ _), Lib.hid (by simpa [othersL] using World.ownsRow_nil _ _ _ _), Lib.hid (fun g h => by simp [Value.ownBlock] at h)⟩
    case round =>
      obtain ⟨j, hj, rfl, hbel, HM, HO, HD⟩ := hrel
      by_cases hlt : j < l.length
      · obtain ⟨x, hx⟩ : ∃ x, l[j]? = some x := ⟨_, List.getElem?_eq_getElem hlt⟩
        obtain ⟨b0, off, rfl, hb0, g0, g1, g2⟩ := HR1.out.tri hx hbel
        have TM := Lib.hid (mine_snoc t hx)
        have TO := Lib.hid (others_snoc t hx)
        have lm : (mineL (l.take j) t).length ≤ 512 := Nat.le_trans (mine_len _ _) (by rw [List.length_take]; omega)
        have lo' : (othersL (l.take j) t).length ≤ 512 := Nat.le_trans (others_len _ _) (by rw [List.length_take]; omega)
        clear hx
        generalize mineL (l.take j) t = M at *
        generalize othersL (l.take j) t = O at *
        have zr := hbel.size
        have hb4 := hbel.alloc hbel.size (.cells (encL x).toArray 35)
        have HM4 := Lib.hid ((HM.out.alloc (.cells (encL x).toArray 35)).alloc (.cells (encL x).toArray 35))
        have HO4 := Lib.hid ((HO.out.alloc (.cells (encL x).toArray 35)).alloc (.cells (encL x).toArray 35))
        have hb5 := hb4.alloc hb4.size (.cells (encL x).toArray 35)
        have HXE : Hid (encL x = [.int .i64 x.tx, .string x.lo, .string x.hi]) := Lib.hid rfl
        by_cases q : x.tx = t
        · obtain ⟨tx, lo, hi'⟩ := x
          dsimp only at q g0 g1 g2
          subst q
          have TM' : Hid (mineL (l.take (j + 1)) tx = M ++ [(⟨tx, lo, hi'⟩ : Lk)]) := Lib.hid (by rw [TM.out]; simp)
          have TO' : Hid (othersL (l.take (j + 1)) tx = O) := Lib.hid (by rw [TO.out]; simp)
          clear TM TO
          go_wp2_with (at_builtin; refine wpList_append_own_at _ rfl _ _ 28 rfl w1.heap.size 35 i0 (.agg #[.int .i64 0, .string ⟨#[]⟩, .string ⟨#[]⟩]) 3 40 Try.underlying28 hi hz0 hz1 hz2 rfl (by decide) _ _ _ rfl HM4.out ⟨wr.heap.size + 1, 0, none⟩ 1 1 (encL ⟨tx, lo, hi'⟩) rfl rfl ?c1 ?c2 ?c3 ?c4 ?c5 ?_)
          case c1 =>
            intro jj u hjj
            first | exact hjj | simpa [encL] using hjj
          case c2 => intro u hu; exact encL_one [(⟨tx, lo, hi'⟩ : Lk)] u (by simpa using hu)
          case c3 => unfold maxLen; omega
          case c4 => omega
          case c5 => exact (by omega)
          intro v' w3 hown' hgrow hnil hat
          have hB3 : Below w1.heap.size w1 w3 := hb5.grown hgrow hb5.size (fun k hk => (HM4.out.lt k hk).1)
          have HM3 : Hid (w3.ownsRow w1.heap.size 35 3 v' (M ++ [(⟨tx, lo, hi'⟩ : Lk)]).length ((M ++ [(⟨tx, lo, hi'⟩ : Lk)]).flatMap encL)) := Lib.hid (by rw [flat_one]; simpa using hown')
          have HO3 := Lib.hid (HO4.out.kept hgrow (by
            cases hv : u10.ownBlock with
            | none => left; rfl
            | some g => right; intro e; exact HD.out g e.symm hv))
          have HD3 : Hid (∀ g, v'.ownBlock = some g → u10.ownBlock ≠ some g) := Lib.hid (fun g hg hg2 => by
            rcases hat with hat | hat
            · exact HD.out g (hat ▸ hg) hg2
            · have := (HO.out.lt g hg2).2
              rw [hg] at hat
              have := Option.some.inj hat
              (try simp at this)
              (try omega))
          clear hown' hgrow hnil hat
          go_wp2
          go_roundw
          case rel => exact ⟨j + 1, by omega, by go_num, hB3, Lib.hid (by rw [TM'.out]; exact HM3.out), Lib.hid (by rw [TO'.out]; exact HO3.out), HD3⟩
          case measure => simp [Lib.intOf]; omega
        · obtain ⟨tx, lo, hi'⟩ := x
          dsimp only at q g0 g1 g2
          have q' : (tx == t) = false := by simpa using q
          have TM' : Hid (mineL (l.take (j + 1)) t = M) := Lib.hid (by rw [TM.out]; simp [q])
          have TO' : Hid (othersL (l.take (j + 1)) t = O ++ [(⟨tx, lo, hi'⟩ : Lk)]) := Lib.hid (by rw [TO.out]; simp [q])
          clear TM TO q
          go_wp2_with (at_builtin; refine wpList_append_own_at _ rfl _ _ 28 rfl w1.heap.size 35 i0 (.agg #[.int .i64 0, .string ⟨#[]⟩, .string ⟨#[]⟩]) 3 40 Try.underlying28 hi hz0 hz1 hz2 rfl (by decide) _ _ _ rfl HO4.out ⟨wr.heap.size + 1, 0, none⟩ 1 1 (encL ⟨tx, lo, hi'⟩) rfl rfl ?d1 ?d2 ?d3 ?d4 ?d5 ?_)
          case d1 =>
            intro jj u hjj
            first | exact hjj | simpa [encL] using hjj
          case d2 => intro u hu; exact encL_one [(⟨tx, lo, hi'⟩ : Lk)] u (by simpa using hu)
          case d3 => unfold maxLen; omega
          case d4 => omega
          case d5 => exact (by omega)
          intro v' w3 hown' hgrow hnil hat
          have hB3 : Below w1.heap.size w1 w3 := hb5.grown hgrow hb5.size (fun k hk => (HO4.out.lt k hk).1)
          have HO3 : Hid (w3.ownsRow w1.heap.size 35 3 v' (O ++ [(⟨tx, lo, hi'⟩ : Lk)]).length ((O ++ [(⟨tx, lo, hi'⟩ : Lk)]).flatMap encL)) := Lib.hid (by rw [flat_one]; simpa using hown')
          have HM3 := Lib.hid (HM4.out.kept hgrow (by
            cases hv : u9.ownBlock with
            | none => left; rfl
            | some g => right; intro e; exact HD.out g hv e.symm))
          have HD3 : Hid (∀ g, u9.ownBlock = some g → v'.ownBlock ≠ some g) := Lib.hid (fun g hg2 hg => by
            rcases hat with hat | hat
            · exact HD.out g hg2 (hat ▸ hg)
            · have := (HM.out.lt g hg2).2
              rw [hg] at hat
              have := Option.some.inj hat
              (try simp at this)
              (try omega))
          clear hown' hgrow hnil hat
          go_wp2
          go_roundw
          case rel => exact ⟨j + 1, by omega, by go_num, hB3, Lib.hid (by rw [TM'.out]; exact HM3.out), Lib.hid (by rw [TO'.out]; exact HO3.out), HD3⟩
          case measure => simp [Lib.intOf]; omega
      · obtain rfl : j = l.length := by omega
        rw [List.take_length] at HM HO
        clear HD
        have hml := mine_len l t
        have hol := others_len l t
        have HIO : Hid (Inc (othersL l t)) := Lib.hid (HI.out.filter _)
        have zr := hbel.size
        have HF2 := Lib.hid (HF.trans (hbel.mono (by omega)))
        have hc2 := Lib.hid (HB2'.out.step hbel)
        have hc4 := Lib.hid (HB4'.out.step hbel)
        have HRr := Lib.hid (HR1.out.below hbel)
        clear HI HB2' HB4' HR1 HF hbel
        by_cases hle : ((mineL l t).length : Int) ≤ m
        · have EG : Hid (widenL l t m = (l, 0)) := Lib.hid (by rw [EF.out, if_pos hle])
          clear EF
          have hcl := lclone_own A c l wr HRr.out hn (by omega)
          obtain ⟨A9, c9, rfl, _, _⟩ := own_slice HM.out
          generalize mineL l t = M at *
          generalize othersL l t = O at *
          obtain ⟨c20, f20, l2⟩ := id hc2.out
          go_wp2_with fail
          refine hcl.mono ?_; rintro e w3 ⟨v3, rfl, hown, h3⟩
          have hF3 := HF2.out.trans (h3.mono (by omega))
          have G4 := hc4.out.step h3
          have HO3 := Lib.hid hown
          clear hown h3 hcl c20 f20 l2
          obtain ⟨c40, f40, l4⟩ := G4
          obtain ⟨A3, c3, rfl, _, _⟩ := own_slice HO3.out
          go_wp2
          refine bodyPost_ret (v := .tuple #[.agg #[.slice A3 l.length c3], .int .i64 0]) (by simp [results, Try.results16, go_sem, c40, l4]) rfl ?_
          rw [EG.out]
          exact ⟨_, rfl, SlB.ownL (base := wr.heap.size) (n := l.length) (by omega) (own_set HO3.out _ _ (by first | omega | (simp; done) | (simp; omega))), Below.setCell hF3 (by first | omega | (simp; done) | (simp; omega)) _⟩
        · have EG : Hid (widenL l t m = (putL (othersL l t) (allL (mineL l t)), 0)) := Lib.hid (by rw [EF.out, if_neg hle])
          clear EF
          obtain ⟨x0, rest, hM⟩ : ∃ x0 rest, mineL l t = x0 :: rest := by
            cases hM : mineL l t with
            | nil => rw [hM] at hle; simp at hle; omega
            | cons a r => exact ⟨a, r, rfl⟩
          have HAL : Hid (allL (mineL l t) = (mineL l t).foldl joinL x0) := Lib.hid (by rw [hM]; rfl)
          have HX0 : Hid ((mineL l t)[0]? = some x0) := Lib.hid (by rw [hM]; rfl)
          have hpos : 0 < (mineL l t).length := by rw [hM]; simp
          have HS := Lib.hid (SlB.ownL (base := w1.heap.size) (N := 0) (Nat.zero_le _) HM.out)
          obtain ⟨A9, c9, rfl, _, _⟩ := own_slice HM.out
          have HR9 : Hid (RowE encL 3 wr A9 (mineL l t)) := Lib.hid (by obtain ⟨A', c', hv, _, hr, _⟩ := HS.out; cases hv; exact hr)
          clear hM HS HM
          generalize mineL l t = M at *
          generalize othersL l t = O at *
          obtain ⟨b0, off, rfl, hb0, g0, g1, g2⟩ := HR9.out.tri HX0.out (Below.refl _ _)
          simp only [Nat.zero_mul, Nat.add_zero] at g0 g1 g2
          have hB13 := Lib.hid (Box3.new wr (.int .i64 x0.tx) (.string x0.lo) (.string x0.hi) 35)
          have hW13 : Below wr.heap.size wr (wr.alloc (.cells #[.int .i64 x0.tx, .string x0.lo, .string x0.hi] 35)) := (Below.refl _ _).alloc (Nat.le_refl _) _
          have HW13 := Lib.hid hW13
          clear hW13
          go_wp2_with fail
          clear g0 g1 g2
          generalize wr.alloc (.cells #[.int .i64 x0.tx, .string x0.lo, .string x0.hi] 35) = wa at *
          generalize hwq : wr = wq at *
          generalize hb13 : wq.heap.size = b13 at *
          clear hwq
          have HBQ := Lib.hid hb13
          clear hb13
          go_loopw [58] (fun s58 wr => ∃ i : Nat, i ≤ M.length ∧ s58 = .int .i64 i ∧ Below b13 wq wr ∧ Box3 wr b13 (.int .i64 ((M.take i).foldl joinL x0).tx) (.string ((M.take i).foldl joinL x0).lo) (.string ((M.take i).foldl joinL x0).hi)) (fun s58 _ => M.length - (Lib.intOf s58).toNat)
          case atStart => exact ⟨0, Nat.zero_le _, rfl, HW13.out, by simpa using hB13.out⟩
          case round =>
            obtain ⟨i, hi', rfl, hbel, HBX⟩ := hrel
            have hbq : Below wq.heap.size wq wr := by rw [HBQ.out]; exact hbel
            by_cases hlt2 : i < M.length
            · obtain ⟨y, hy⟩ : ∃ y, M[i]? = some y := ⟨_, List.getElem?_eq_getElem hlt2⟩
              obtain ⟨b1, off1, hA1, hb1, g0, g1, g2⟩ := HR9.out.tri hy hbq
              obtain ⟨rfl, rfl⟩ : b0 = b1 ∧ off = off1 := by simpa using hA1
              have FS := Lib.hid (fold_snoc (a := x0) hy)
              generalize (M.take i).foldl joinL x0 = a at *
              generalize hfa : (M.take (i + 1)).foldl joinL x0 = a' at *
              have HFA := Lib.hid hfa
              clear hfa
              have hj := join_any a y
              rw [← FS.out] at hj
              clear FS hy
              have zb := HBX.lt
              have hB6 := Lib.hid (HBX.alloc (.cells #[.int .i64 y.tx, .string y.lo, .string y.hi] 35))
              have hb6 := Lib.hid (hbel.alloc (by omega) (.cells #[.int .i64 y.tx, .string y.lo, .string y.hi] 35))
              have HJ := Lib.hid hj
              obtain ⟨d0, d1, d2, f0, f1, f2, l13⟩ := HBX
              clear hj hbq hA1
              go_wp2_with fail
              refine (HJ.out _).mono ?_; rintro e w7 ⟨rfl, h7⟩
              have hB7 := Lib.hid (hB6.out.below h7 hB6.out.lt)
              have hb7 := Lib.hid (hb6.out.trans (h7.mono (by first | omega | (simp; done) | (simp; omega))))
              clear h7 d0 d1 d2 f0 f1 f2 l13 g0 g1 g2 hbel
              obtain ⟨d0, d1, d2, f0, f1, f2, l13⟩ := id hB7.out
              go_wp2_with fail
              go_roundw
              case rel => exact ⟨i + 1, by omega, by go_num, put3_below hb7.out (Nat.le_refl _) _ _ _, by rw [HFA.out]; exact put3_box hB7.out⟩
              case measure => simp [Lib.intOf]; omega
            · obtain rfl : i = M.length := by omega
              rw [List.take_length, ← HAL.out] at HBX
              have zq := hbq.size
              have zb := HBQ.out
              have hput := put_any w1.heap.size u10 O (allL M) wr (by omega) HIO.out (own_below HO.out hbq) (by omega)
              have HF5 := HF2.out.trans (hbq.mono (by omega))
              have G4 := hc4.out.step hbq
              clear hbq hbel hB13 HW13 zb
              generalize allL M = al at *
              have HO8 := Lib.hid HF5
              have HG4 := Lib.hid G4
              obtain ⟨d0, d1, d2, f0, f1, f2, l13⟩ := HBX
              clear HF5 G4
              go_wp2_with fail
              refine hput.mono ?_; rintro e w8 ⟨v8, rfl, hown8, h8⟩
              have z8 := h8.size
              have hF8 := HO8.out.trans (h8.mono (by omega))
              have G8 := HG4.out.below h8 (by omega) h8.size
              have HW8 := Lib.hid hown8
              obtain ⟨A8, c8, rfl, _, _⟩ := own_slice hown8
              clear hput h8 hown8 d0 d1 d2 f0 f1 f2 l13
              obtain ⟨c40, f40, l4⟩ := G8
              go_wp2
              refine bodyPost_ret (v := .tuple #[.agg #[.slice A8 (O.length + 1) c8], .int .i64 0]) (by simp [results, Try.results16, go_sem, c40, l4]) rfl ?_
              rw [EG.out]
              exact ⟨_, rfl, SlB.ownL (base := w1.heap.size) (n := O.length + 1) (by omega) (own_set HW8.out _ _ (by first | omega | (simp; done) | (simp; omega))), Below.setCell hF8 (by first | omega | (simp; done) | (simp; omega)) _⟩
  · have EE := Lib.hid (E1.out k0)
    clear E1 E2 CK
    obtain ⟨c40, f40, l4⟩ := HB4
    go_wp2
    refine bodyPost_ret (v := .tuple #[.agg #[.slice none 0 0], .int .i64 k]) (by simp [results, Try.results16, go_sem, c40, l4]) rfl ?_
    rw [EE.out]
    exact ⟨_, rfl, SlB.nil _, Below.setCell HF (by first | omega | (simp; done) | (simp; omega)) _⟩
end Go.Proofs.Ytdiclnkkddnncaa
