/- The page's locks: Widen. -/
import Derived.Test.YtdiclnkkddnncaaRL6
namespace Go.Proofs.Ytdiclnkkddnncaa
open Go.RowKit
open Go.Shelf
set_option linter.unusedVariables false
set_option linter.unusedSimpArgs false
theorem all_snoc (M : List Lk) (y : Lk) : allL (M ++ [y]) = if M = [] then joinL y y else joinL (allL M) y := by
  cases M with
  | nil => simp [allL]
  | cons x l =>
    rw [if_neg (by simp)]
    show ((x :: l) ++ [y]).foldl joinL x = joinL ((x :: l).foldl joinL x) y
    rw [List.foldl_append]; rfl
set_option maxHeartbeats 4000000 in
set_option maxRecDepth 100000 in
theorem rlwiden_any (A : Option Addr) (c : Nat) (l : List Lk) (t m : Int) (w : World) (HR : RowE encL 3 w A l) (hn : A = none → c = 0) (hl : l.length * 40 ≤ 140737488351232) :
    Calls Try.prog 23 #[.agg #[.slice A l.length c], .int .i64 t, .int .i64 m] w fun e w' => ∃ v, e = .returned (.tuple #[.agg #[v], .int .i64 (widenL l t m).2]) ∧ SlB encL 3 w.heap.size w' v (widenL l t m).1 ∧ Below w.heap.size w w' := by
  obtain ⟨iS, hiS1, hiS2, hiS3, hiS4⟩ := infoK
  obtain ⟨g, hg⟩ : ∃ g, g = widenL l t m := ⟨_, rfl⟩
  rw [← hg]
  have E1 : Hid (chkL l = 9 → g = ([], 9)) := Lib.hid (fun h => by rw [hg]; unfold widenL; rw [if_pos (by simp [h]), h])
  have E2 : Hid (chkL l = 0 → g = (if m < 1 then ([], 4) else if ((mineL l t).length : Int) ≤ m then (l, 0) else (putL (othersL l t) (allL (mineL l t)), 0))) := Lib.hid (fun h => by rw [hg]; unfold widenL; rw [if_neg (by simp [h])])
  have ED : Hid (chkL l = 0 → dropL l t = (othersL l t, 0)) := Lib.hid (fun h => by unfold dropL; rw [if_neg (by simp [h])]; rfl)
  have CK := Lib.hid (fun h : chkL l = 0 => (chkL_iff l).1 h)
  have C9 := chkL_or l
  have BC := Lib.hid ((Box.new w #[.slice A l.length c] 24).alloc (.cells #[.slice none 0 0] 24))
  have BR := Lib.hid (Box.new (w.alloc (.cells #[.slice A l.length c] 24)) #[.slice none 0 0] 24)
  have h0 : Below w.heap.size w ((w.alloc (.cells #[.slice A l.length c] 24)).alloc (.cells #[.slice none 0 0] 24)) := (by (repeat (first | (with_reducible exact Below.refl _ _) | apply below_alloc _ (Nat.le_refl _) | refine below_set ?_ (by first | exact Nat.le_refl _ | omega) | apply below_drewN | refine below_step ?_ HB)))
  have RW := Lib.hid HR
  have HF := Lib.hid h0
  have hck := rlcheck_any A c l _ (HR.below h0) (by omega)
  simp only [World.size_alloc] at BR
  clear h0 HR hg
  generalize chkL l = kc at *
  go_enter Try.func23, Try.ntmps23
  go_wp2_with fail
  generalize (w.alloc (.cells #[.slice A l.length c] 24)).alloc (.cells #[.slice none 0 0] 24) = w0 at *
  refine hck.mono ?_; rintro e w1 ⟨rfl, h1⟩
  replace BC := Lib.hid (BC.out.below h1 BC.out.lt); replace BR := Lib.hid (BR.out.below h1 BR.out.lt); replace HF := Lib.hid (below_step' HF.out h1)
  clear hck h1
  rcases C9 with rfl | rfl
  · obtain ⟨h512, _, hinc⟩ := CK.out (by trivial)
    have E3 := Lib.hid (E2.out (by trivial))
    have ED2 := Lib.hid (ED.out (by trivial))
    have HINC := Lib.hid hinc
    clear E1 E2 CK ED hinc
    have hz1 : w.heap.size + 2 ≤ w1.heap.size := BR.out.lt
    by_cases hm : m < 1
    · have EE : Hid (g = ([], 4)) := Lib.hid (by rw [E3.out, if_pos hm])
      clear E3 ED2 HINC RW
      have cBR0 := BR.out.c 0 _ rfl; have fBR0 := BR.out.f 0 (by simp); have lBR := BR.out.lt
      go_wp2_with fail
      clear cBR0 fBR0 lBR
      have HX := Lib.hid (below_set (g := w.heap.size + 1) (j := 0) (v := .slice none 0 0) HF.out (by omega))
      have BZ : Hid (Box (w1.setCell ⟨w.heap.size + 1, 0, none⟩ (.slice none 0 0)) (w.heap.size + 1) [.slice none 0 0]) := Lib.hid (BR.out.set 0 (.slice none 0 0) (by simp))
      have HV : Hid (SlB encL 3 w.heap.size (w1.setCell ⟨w.heap.size + 1, 0, none⟩ (.slice none 0 0)) (.slice none 0 0) g.1) := Lib.hid (by rw [EE.out]; exact SlB.nil _)
      generalize w1.setCell ⟨w.heap.size + 1, 0, none⟩ (.slice none 0 0) = wz at *
      have cBZ0 := BZ.out.c 0 _ rfl
      refine bodyPost_ret (v := .tuple #[.agg #[.slice none 0 0], .int .i64 4]) (by simp [results, Try.results23, go_sem, cBZ0]) rfl ?_
      refine ⟨_, ?_, HV.out, HX.out⟩
      rw [EE.out]

    · have E4 : Hid (g = (if ((mineL l t).length : Int) ≤ m then (l, 0) else (putL (othersL l t) (allL (mineL l t)), 0))) := Lib.hid (by rw [E3.out, if_neg hm])
      clear E3
      have BAx := Lib.hid (Box.new w1 #[.int .i64 0, .string ⟨#[]⟩, .string ⟨#[]⟩] 26)
      have hb := (Below.refl _ w1).alloc (Nat.le_refl _) (.cells #[.int .i64 0, .string ⟨#[]⟩, .string ⟨#[]⟩] 26)
      go_upto_region 7 with (fail)
      replace BC := Lib.hid (BC.out.below hb BC.out.lt); replace BR := Lib.hid (BR.out.below hb BR.out.lt); replace HF := Lib.hid (below_step' HF.out hb)
      clear hb
      generalize w1.alloc (.cells #[.int .i64 0, .string ⟨#[]⟩, .string ⟨#[]⟩] 26) = wa at *
      generalize w1.heap.size = ga at *
      have hl512 : l.length ≤ 512 := h512
      go_wp2_with fail
      go_loopw [8, 10] (fun s8 s10 wr => ∃ j : Nat, j ≤ l.length ∧ s10 = .int .i64 j ∧ ∃ (M : List Lk) (n : Nat) (acc : Lk), s8 = .int .i64 n ∧ Hid (mineL (l.take j) t = M) ∧ Hid (M.length = n) ∧ Hid (allL M = acc) ∧ Hid (Below w.heap.size w wr) ∧ Hid (Box wr w.heap.size [.slice A l.length c]) ∧ Hid (Box wr (w.heap.size + 1) [.slice none 0 0]) ∧ Hid (Box wr ga [.int .i64 acc.tx, .string acc.lo, .string acc.hi])) (fun _ s10 _ => l.length - (Lib.intOf s10).toNat)
      case atStart => exact ⟨0, Nat.zero_le _, rfl, [], 0, allL [], rfl, Lib.hid rfl, Lib.hid rfl, Lib.hid rfl, HF, BC, BR, BAx⟩
      case round =>
        clear HF BC BR BAx
        obtain ⟨j, hj, rfl, M, n, acc, rfl, HMr, HNM, HAr, HFr, BCr, BRr, BAr⟩ := hrel
        have hn512 : n ≤ 512 := by
          rw [← HNM.out, ← HMr.out]
          exact Nat.le_trans (mine_len _ _) (by rw [List.length_take]; omega)
        by_cases hlt : j < l.length
        · obtain ⟨y, hy⟩ : ∃ y, l[j]? = some y := ⟨_, List.getElem?_eq_getElem hlt⟩
          obtain ⟨b0, off, rfl, hb0, g0, g1, g2⟩ := RW.out.tri hy HFr.out
          have HM1 : Hid (mineL (l.take (j + 1)) t = M ++ (if y.tx = t then [y] else [])) := Lib.hid (by rw [mine_snoc t hy, HMr.out])
          clear hy HMr
          obtain ⟨ytx, ylo, yhi⟩ := y
          dsimp only at g0 g1 g2
          try dsimp only at HM1
          have hji : (j : Int) < (l.length : Int) := by omega
          have hbg : b0 < w.heap.size := hb0
          by_cases htx : ytx = t
          · subst htx
            have HM2 : Hid (mineL (l.take (j + 1)) ytx = M ++ [⟨ytx, ylo, yhi⟩]) := Lib.hid (by rw [HM1.out, if_pos rfl])
            have HON : Hid (∀ a W, Calls Try.prog 41 #[.agg #[.int .i64 a.tx, .string a.lo, .string a.hi], .agg #[.int .i64 ytx, .string ylo, .string yhi]] W fun e w' => e = .returned (.agg #[.int .i64 (joinL a ⟨ytx, ylo, yhi⟩).tx, .string (joinL a ⟨ytx, ylo, yhi⟩).lo, .string (joinL a ⟨ytx, ylo, yhi⟩).hi]) ∧ Below W.heap.size W w') := Lib.hid (fun a W => rone_any a ⟨ytx, ylo, yhi⟩ W)
            clear HM1
            cases n with
            | zero =>
              have HAL : Hid (allL (M ++ [⟨ytx, ylo, yhi⟩]) = joinL ⟨ytx, ylo, yhi⟩ ⟨ytx, ylo, yhi⟩) := Lib.hid (by rw [all_snoc, if_pos (List.eq_nil_of_length_eq_zero HNM.out)])
              replace HON := Lib.hid (HON.out ⟨ytx, ylo, yhi⟩)
              try dsimp only at HON
              have hz0 : ((0 : Nat) : Int) = 0 := rfl
              have cBCr0 := BCr.out.c 0 _ rfl; have fBCr0 := BCr.out.f 0 (by simp); have lBCr := BCr.out.lt; have cBAr0 := BAr.out.c 0 _ rfl; have fBAr0 := BAr.out.f 0 (by simp); have cBAr1 := BAr.out.c 1 _ rfl; have fBAr1 := BAr.out.f 1 (by simp); have cBAr2 := BAr.out.c 2 _ rfl; have fBAr2 := BAr.out.f 2 (by simp); have lBAr := BAr.out.lt
              go_upto_region 13 with (fail)
              clear cBCr0 fBCr0 lBCr; clear cBAr0 fBAr0 cBAr1 fBAr1 cBAr2 fBAr2 lBAr
              have BAq : Hid (Box (((wr.setCell ⟨ga, 0, none⟩ (.int .i64 ytx)).setCell ⟨ga, 1, none⟩ (.string ylo)).setCell ⟨ga, 2, none⟩ (.string yhi)) ga [.int .i64 ytx, .string ylo, .string yhi]) := Lib.hid (((BAr.out.set 0 (.int .i64 ytx) (by simp)).set 1 (.string ylo) (by simp)).set 2 (.string yhi) (by simp))
              have BCq := Lib.hid (((BCr.out.other ⟨ga, 0, none⟩ (.int .i64 ytx) (by show ga ≠ w.heap.size; omega)).other ⟨ga, 1, none⟩ (.string ylo) (by show ga ≠ w.heap.size; omega)).other ⟨ga, 2, none⟩ (.string yhi) (by show ga ≠ w.heap.size; omega))
              have BRq := Lib.hid (((BRr.out.other ⟨ga, 0, none⟩ (.int .i64 ytx) (by show ga ≠ w.heap.size + 1; omega)).other ⟨ga, 1, none⟩ (.string ylo) (by show ga ≠ w.heap.size + 1; omega)).other ⟨ga, 2, none⟩ (.string yhi) (by show ga ≠ w.heap.size + 1; omega))
              have HFq := Lib.hid (below_set (g := ga) (j := 2) (v := .string yhi) (below_set (g := ga) (j := 1) (v := .string ylo) (below_set (g := ga) (j := 0) (v := .int .i64 ytx) HFr.out (by omega)) (by omega)) (by omega))
              replace g0 : (((wr.setCell ⟨ga, 0, none⟩ (.int .i64 ytx)).setCell ⟨ga, 1, none⟩ (.string ylo)).setCell ⟨ga, 2, none⟩ (.string yhi)).cell? ⟨b0, off + j * 3, none⟩ = _ := (World.cell?_of_block (a := ⟨b0, off + j * 3, none⟩) ((heap_setCell_other _ ⟨ga, 2, none⟩ b0 _ (by show b0 ≠ ga; omega)).trans ((heap_setCell_other _ ⟨ga, 1, none⟩ b0 _ (by show b0 ≠ ga; omega)).trans (heap_setCell_other wr ⟨ga, 0, none⟩ b0 _ (by show b0 ≠ ga; omega))))).trans g0
              replace g1 : (((wr.setCell ⟨ga, 0, none⟩ (.int .i64 ytx)).setCell ⟨ga, 1, none⟩ (.string ylo)).setCell ⟨ga, 2, none⟩ (.string yhi)).cell? ⟨b0, off + j * 3 + 1, none⟩ = _ := (World.cell?_of_block (a := ⟨b0, off + j * 3 + 1, none⟩) ((heap_setCell_other _ ⟨ga, 2, none⟩ b0 _ (by show b0 ≠ ga; omega)).trans ((heap_setCell_other _ ⟨ga, 1, none⟩ b0 _ (by show b0 ≠ ga; omega)).trans (heap_setCell_other wr ⟨ga, 0, none⟩ b0 _ (by show b0 ≠ ga; omega))))).trans g1
              replace g2 : (((wr.setCell ⟨ga, 0, none⟩ (.int .i64 ytx)).setCell ⟨ga, 1, none⟩ (.string ylo)).setCell ⟨ga, 2, none⟩ (.string yhi)).cell? ⟨b0, off + j * 3 + 2, none⟩ = _ := (World.cell?_of_block (a := ⟨b0, off + j * 3 + 2, none⟩) ((heap_setCell_other _ ⟨ga, 2, none⟩ b0 _ (by show b0 ≠ ga; omega)).trans ((heap_setCell_other _ ⟨ga, 1, none⟩ b0 _ (by show b0 ≠ ga; omega)).trans (heap_setCell_other wr ⟨ga, 0, none⟩ b0 _ (by show b0 ≠ ga; omega))))).trans g2
              clear HFr BCr BRr BAr
              generalize ((wr.setCell ⟨ga, 0, none⟩ (.int .i64 ytx)).setCell ⟨ga, 1, none⟩ (.string ylo)).setCell ⟨ga, 2, none⟩ (.string yhi) = wq at *
              refine stage_begin (S := fun (L' : Array Bool) (w' : World) => (w'.cell? ⟨w.heap.size, 0, none⟩ = some (.slice (some ⟨b0, off, none⟩) l.length c) ∧ w'.cell? ⟨b0, off + j * 3, none⟩ = some (.int .i64 ytx) ∧ w'.cell? ⟨b0, off + j * 3 + 1, none⟩ = some (.string ylo) ∧ w'.cell? ⟨b0, off + j * 3 + 2, none⟩ = some (.string yhi)) ∧ (L'.getD 7 false = false → w'.cell? ⟨ga, 0, none⟩ = some (.int .i64 ytx) ∧ w'.cell? ⟨ga, 1, none⟩ = some (.string ylo) ∧ w'.cell? ⟨ga, 2, none⟩ = some (.string yhi))) (by kernel_rfl) ?_
              have hdx := below_drewN (Below.refl wq.heap.size wq) 1
              have HFx := Lib.hid (HFq.out.trans (hdx.mono HFq.out.size))
              have BCx := Lib.hid BCq.out.drew
              have BRx := Lib.hid BRq.out.drew
              have BAx := Lib.hid BAq.out.drew
              have y0 : wq.drew.cell? ⟨b0, off + j * 3, none⟩ = some (.int .i64 ytx) := g0
              have y1 : wq.drew.cell? ⟨b0, off + j * 3 + 1, none⟩ = some (.string ylo) := g1
              have y2 : wq.drew.cell? ⟨b0, off + j * 3 + 2, none⟩ = some (.string yhi) := g2
              replace HFx : Hid (Below w.heap.size w wq.drew) := HFx
              clear HFq BCq BRq BAq g0 g1 g2 hdx
              generalize wq.drew = we at *
              have hS1 : we.cell? ⟨ga, 0, none⟩ = some (.int .i64 ytx) ∧ we.cell? ⟨ga, 1, none⟩ = some (.string ylo) ∧ we.cell? ⟨ga, 2, none⟩ = some (.string yhi) := ⟨BAx.out.c 0 _ rfl, BAx.out.c 1 _ rfl, BAx.out.c 2 _ rfl⟩
              have hS0 : (fun w' : World => w'.cell? ⟨w.heap.size, 0, none⟩ = some (.slice (some ⟨b0, off, none⟩) l.length c) ∧ w'.cell? ⟨b0, off + j * 3, none⟩ = some (.int .i64 ytx) ∧ w'.cell? ⟨b0, off + j * 3 + 1, none⟩ = some (.string ylo) ∧ w'.cell? ⟨b0, off + j * 3 + 2, none⟩ = some (.string yhi)) we := ⟨BCx.out.c 0 _ rfl, y0, y1, y2⟩
              refine stage_take (i := 0) (oi := { dst := some 44, op := Go.Op.load 26 (Go.Operand.tmp 9), type := 26, pos := "ref.go:169", after := #[], guard := none }) (v := ?_) (T := fun w' : World => w'.cell? ⟨ga, 0, none⟩ = some (.int .i64 ytx) ∧ w'.cell? ⟨ga, 1, none⟩ = some (.string ylo) ∧ w'.cell? ⟨ga, 2, none⟩ = some (.string yhi)) rfl (by kernel_rfl) (by kernel_rfl) (by kernel_rfl) (by kernel_rfl) (fun _ _ _ h => h) (fun L' w' hW hS => hS.2 (not_yet hW (by kernel_rfl))) (fun L' w' hS => ⟨hS.1, fun h => hS.2 (by rw [getD_set_ne false (by decide)]; exact h)⟩) (Or.inl ⟨by rfl, ?_⟩) (hS1) (⟨hS0, fun _ => hS1⟩) ?_
              rotate_left 1
              · intro w9 hS9; obtain ⟨z0, z1, z2⟩ := hS9; go_simp; (try with_reducible rfl)
              try simp only [Act.put, List.setIfInBounds_toArray, List.set_cons_zero, List.set_cons_succ]
              refine stage_take (i := 1) (oi := { dst := some 45, op := Go.Op.fieldAddr 24 (Go.Operand.tmp 3) 0, type := 0, pos := "ref.go:169", after := #[], guard := none }) (v := ?_) (T := fun _ => True) rfl (by kernel_rfl) (by kernel_rfl) (by kernel_rfl) (by kernel_rfl) (fun _ _ _ h => h) (fun L' w' hW hS => trivial) (fun L' w' hS => ⟨hS.1, fun h => hS.2 (by rw [getD_set_ne false (by decide)]; exact h)⟩) (Or.inl ⟨by rfl, ?_⟩) trivial (⟨hS0, fun _ => hS1⟩) ?_
              rotate_left 1
              · intro w9 _; go_simp; (try with_reducible rfl)
              try simp only [Act.put, List.setIfInBounds_toArray, List.set_cons_zero, List.set_cons_succ]
              refine stage_take (i := 2) (oi := { dst := some 46, op := Go.Op.load 22 (Go.Operand.tmp 45), type := 22, pos := "ref.go:169", after := #[{ on := 1, ground := Go.Ground.data }], guard := none }) (v := ?_) (T := fun w' : World => w'.cell? ⟨w.heap.size, 0, none⟩ = some (.slice (some ⟨b0, off, none⟩) l.length c) ∧ w'.cell? ⟨b0, off + j * 3, none⟩ = some (.int .i64 ytx) ∧ w'.cell? ⟨b0, off + j * 3 + 1, none⟩ = some (.string ylo) ∧ w'.cell? ⟨b0, off + j * 3 + 2, none⟩ = some (.string yhi)) rfl (by kernel_rfl) (by kernel_rfl) (by kernel_rfl) (by kernel_rfl) (fun _ _ _ h => h) (fun L' w' hW hS => hS.1) (fun L' w' hS => ⟨hS.1, fun h => hS.2 (by rw [getD_set_ne false (by decide)]; exact h)⟩) (Or.inl ⟨by rfl, ?_⟩) (hS0) (⟨hS0, fun _ => hS1⟩) ?_
              rotate_left 1
              · intro w9 hS9; obtain ⟨z0, z1, z2, z3⟩ := hS9; go_simp; (try with_reducible rfl)
              try simp only [Act.put, List.setIfInBounds_toArray, List.set_cons_zero, List.set_cons_succ]
              refine stage_take (i := 3) (oi := { dst := some 47, op := Go.Op.move (Go.Operand.tmp 10), type := 3, pos := "ref.go:169", after := #[], guard := none }) (v := ?_) (T := fun _ => True) rfl (by kernel_rfl) (by kernel_rfl) (by kernel_rfl) (by kernel_rfl) (fun _ _ _ h => h) (fun L' w' hW hS => trivial) (fun L' w' hS => ⟨hS.1, fun h => hS.2 (by rw [getD_set_ne false (by decide)]; exact h)⟩) (Or.inl ⟨by rfl, ?_⟩) trivial (⟨hS0, fun _ => hS1⟩) ?_
              rotate_left 1
              · intro w9 _; go_simp; (try with_reducible rfl)
              try simp only [Act.put, List.setIfInBounds_toArray, List.set_cons_zero, List.set_cons_succ]
              refine stage_take (i := 4) (oi := { dst := some 48, op := Go.Op.indexAddr 22 (Go.Operand.tmp 46) (Go.Operand.tmp 47), type := 0, pos := "ref.go:169", after := #[{ on := 2, ground := Go.Ground.data }, { on := 3, ground := Go.Ground.data }], guard := none }) (v := ?_) (T := fun _ => True) rfl (by kernel_rfl) (by kernel_rfl) (by kernel_rfl) (by kernel_rfl) (fun _ _ _ h => h) (fun L' w' hW hS => trivial) (fun L' w' hS => ⟨hS.1, fun h => hS.2 (by rw [getD_set_ne false (by decide)]; exact h)⟩) (Or.inl ⟨by rfl, ?_⟩) trivial (⟨hS0, fun _ => hS1⟩) ?_
              rotate_left 1
              · intro w9 _; go_simp; (try with_reducible rfl)
              try simp only [Act.put, List.setIfInBounds_toArray, List.set_cons_zero, List.set_cons_succ]
              refine stage_take (i := 5) (oi := { dst := some 49, op := Go.Op.load 26 (Go.Operand.tmp 48), type := 26, pos := "ref.go:169", after := #[{ on := 4, ground := Go.Ground.data }], guard := none }) (v := ?_) (T := fun w' : World => w'.cell? ⟨w.heap.size, 0, none⟩ = some (.slice (some ⟨b0, off, none⟩) l.length c) ∧ w'.cell? ⟨b0, off + j * 3, none⟩ = some (.int .i64 ytx) ∧ w'.cell? ⟨b0, off + j * 3 + 1, none⟩ = some (.string ylo) ∧ w'.cell? ⟨b0, off + j * 3 + 2, none⟩ = some (.string yhi)) rfl (by kernel_rfl) (by kernel_rfl) (by kernel_rfl) (by kernel_rfl) (fun _ _ _ h => h) (fun L' w' hW hS => hS.1) (fun L' w' hS => ⟨hS.1, fun h => hS.2 (by rw [getD_set_ne false (by decide)]; exact h)⟩) (Or.inl ⟨by rfl, ?_⟩) (hS0) (⟨hS0, fun _ => hS1⟩) ?_
              rotate_left 1
              · intro w9 hS9; obtain ⟨z0, z1, z2, z3⟩ := hS9; go_simp; (try with_reducible rfl)
              try simp only [Act.put, List.setIfInBounds_toArray, List.set_cons_zero, List.set_cons_succ]
              clear hS0 hS1
              refine stage_all (rs := [6]) (by kernel_rfl) (by simp) (fun i0 hi0 => ?_)
              obtain rfl : i0 = 6 := by simpa using hi0
              refine stage_step (S := fun (L' : Array Bool) (w' : World) => (w'.cell? ⟨w.heap.size, 0, none⟩ = some (.slice (some ⟨b0, off, none⟩) l.length c) ∧ w'.cell? ⟨b0, off + j * 3, none⟩ = some (.int .i64 ytx) ∧ w'.cell? ⟨b0, off + j * 3 + 1, none⟩ = some (.string ylo) ∧ w'.cell? ⟨b0, off + j * 3 + 2, none⟩ = some (.string yhi)) ∧ (L'.getD 7 false = false → w'.cell? ⟨ga, 0, none⟩ = some (.int .i64 ytx) ∧ w'.cell? ⟨ga, 1, none⟩ = some (.string ylo) ∧ w'.cell? ⟨ga, 2, none⟩ = some (.string yhi))) (o := { dst := some 50, op := Go.Op.call { callee := Go.Callee.value (Go.Operand.func 41), args := #[Go.Operand.tmp 44, Go.Operand.tmp 49], argTypes := #[26, 26] }, type := 26, pos := "ref.go:169", after := #[{ on := 0, ground := Go.Ground.data }, { on := 5, ground := Go.Ground.data }], guard := none }) (by rfl) (fun K2 hK => ?_)
              go_simp
              go_wp2_with (go_at_call 41; (with_reducible refine (HON.out _).mono ?_); rintro e w3 ⟨rfl, h3⟩)
              replace BCx := Lib.hid (BCx.out.below h3 BCx.out.lt); replace BRx := Lib.hid (BRx.out.below h3 BRx.out.lt); replace BAx := Lib.hid (BAx.out.below h3 BAx.out.lt); replace HFx := Lib.hid (below_step' HFx.out h3)
              replace y0 := (h3.cell (p := ⟨b0, off + j * 3, none⟩) (World.block_lt_of_cell? _ _ y0)).trans y0
              replace y1 := (h3.cell (p := ⟨b0, off + j * 3 + 1, none⟩) (World.block_lt_of_cell? _ _ y1)).trans y1
              replace y2 := (h3.cell (p := ⟨b0, off + j * 3 + 2, none⟩) (World.block_lt_of_cell? _ _ y2)).trans y2
              clear h3
              refine hK.out _ _ (⟨⟨BCx.out.c 0 _ rfl, y0, y1, y2⟩, fun _ => ⟨BAx.out.c 0 _ rfl, BAx.out.c 1 _ rfl, BAx.out.c 2 _ rfl⟩⟩) ?_
              clear hK K2
              try simp only [Act.put, List.setIfInBounds_toArray, List.set_cons_zero, List.set_cons_succ]
              refine stage_all (rs := [7]) (by kernel_rfl) (by simp) (fun i0 hi0 => ?_)
              obtain rfl : i0 = 7 := by simpa using hi0
              refine stage_step (S := fun (L' : Array Bool) (w' : World) => (w'.cell? ⟨w.heap.size, 0, none⟩ = some (.slice (some ⟨b0, off, none⟩) l.length c) ∧ w'.cell? ⟨b0, off + j * 3, none⟩ = some (.int .i64 ytx) ∧ w'.cell? ⟨b0, off + j * 3 + 1, none⟩ = some (.string ylo) ∧ w'.cell? ⟨b0, off + j * 3 + 2, none⟩ = some (.string yhi)) ∧ (L'.getD 7 false = false → w'.cell? ⟨ga, 0, none⟩ = some (.int .i64 ytx) ∧ w'.cell? ⟨ga, 1, none⟩ = some (.string ylo) ∧ w'.cell? ⟨ga, 2, none⟩ = some (.string yhi))) (o := { dst := none, op := Go.Op.store 26 (Go.Operand.tmp 9) (Go.Operand.tmp 50), type := 0, pos := "ref.go:169", after := #[{ on := 6, ground := Go.Ground.data }, { on := 6, ground := Go.Ground.chain }, { on := 0, ground := Go.Ground.phase }, { on := 1, ground := Go.Ground.phase }, { on := 2, ground := Go.Ground.phase }, { on := 3, ground := Go.Ground.phase }, { on := 4, ground := Go.Ground.phase }, { on := 5, ground := Go.Ground.phase }, { on := 6, ground := Go.Ground.phase }], guard := none }) (by rfl) (fun K2 hK => ?_)
              obtain ⟨nx, hnx⟩ : ∃ nx, nx = joinL ⟨ytx, ylo, yhi⟩ ⟨ytx, ylo, yhi⟩ := ⟨_, rfl⟩
              rw [← hnx]
              replace hnx := Lib.hid hnx
              have cBAx0 := BAx.out.c 0 _ rfl; have fBAx0 := BAx.out.f 0 (by simp); have cBAx1 := BAx.out.c 1 _ rfl; have fBAx1 := BAx.out.f 1 (by simp); have cBAx2 := BAx.out.c 2 _ rfl; have fBAx2 := BAx.out.f 2 (by simp); have lBAx := BAx.out.lt
              go_simp
              clear cBAx0 fBAx0 cBAx1 fBAx1 cBAx2 fBAx2 lBAx
              have BA7 : Hid (Box (((w3.setCell ⟨ga, 0, none⟩ (.int .i64 nx.tx)).setCell ⟨ga, 1, none⟩ (.string nx.lo)).setCell ⟨ga, 2, none⟩ (.string nx.hi)) ga [.int .i64 nx.tx, .string nx.lo, .string nx.hi]) := Lib.hid (((BAx.out.set 0 (.int .i64 nx.tx) (by simp)).set 1 (.string nx.lo) (by simp)).set 2 (.string nx.hi) (by simp))
              have BC7 := Lib.hid (((BCx.out.other ⟨ga, 0, none⟩ (.int .i64 nx.tx) (by show ga ≠ w.heap.size; omega)).other ⟨ga, 1, none⟩ (.string nx.lo) (by show ga ≠ w.heap.size; omega)).other ⟨ga, 2, none⟩ (.string nx.hi) (by show ga ≠ w.heap.size; omega))
              have BR7 := Lib.hid (((BRx.out.other ⟨ga, 0, none⟩ (.int .i64 nx.tx) (by show ga ≠ w.heap.size + 1; omega)).other ⟨ga, 1, none⟩ (.string nx.lo) (by show ga ≠ w.heap.size + 1; omega)).other ⟨ga, 2, none⟩ (.string nx.hi) (by show ga ≠ w.heap.size + 1; omega))
              have HF7 := Lib.hid (below_set (g := ga) (j := 2) (v := .string nx.hi) (below_set (g := ga) (j := 1) (v := .string nx.lo) (below_set (g := ga) (j := 0) (v := .int .i64 nx.tx) HFx.out (by omega)) (by omega)) (by omega))
              have y0z : (((w3.setCell ⟨ga, 0, none⟩ (.int .i64 nx.tx)).setCell ⟨ga, 1, none⟩ (.string nx.lo)).setCell ⟨ga, 2, none⟩ (.string nx.hi)).cell? ⟨b0, off + j * 3, none⟩ = _ := (World.cell?_of_block (a := ⟨b0, off + j * 3, none⟩) ((heap_setCell_other _ ⟨ga, 2, none⟩ b0 _ (by show b0 ≠ ga; omega)).trans ((heap_setCell_other _ ⟨ga, 1, none⟩ b0 _ (by show b0 ≠ ga; omega)).trans (heap_setCell_other w3 ⟨ga, 0, none⟩ b0 _ (by show b0 ≠ ga; omega))))).trans y0
              have y1z : (((w3.setCell ⟨ga, 0, none⟩ (.int .i64 nx.tx)).setCell ⟨ga, 1, none⟩ (.string nx.lo)).setCell ⟨ga, 2, none⟩ (.string nx.hi)).cell? ⟨b0, off + j * 3 + 1, none⟩ = _ := (World.cell?_of_block (a := ⟨b0, off + j * 3 + 1, none⟩) ((heap_setCell_other _ ⟨ga, 2, none⟩ b0 _ (by show b0 ≠ ga; omega)).trans ((heap_setCell_other _ ⟨ga, 1, none⟩ b0 _ (by show b0 ≠ ga; omega)).trans (heap_setCell_other w3 ⟨ga, 0, none⟩ b0 _ (by show b0 ≠ ga; omega))))).trans y1
              have y2z : (((w3.setCell ⟨ga, 0, none⟩ (.int .i64 nx.tx)).setCell ⟨ga, 1, none⟩ (.string nx.lo)).setCell ⟨ga, 2, none⟩ (.string nx.hi)).cell? ⟨b0, off + j * 3 + 2, none⟩ = _ := (World.cell?_of_block (a := ⟨b0, off + j * 3 + 2, none⟩) ((heap_setCell_other _ ⟨ga, 2, none⟩ b0 _ (by show b0 ≠ ga; omega)).trans ((heap_setCell_other _ ⟨ga, 1, none⟩ b0 _ (by show b0 ≠ ga; omega)).trans (heap_setCell_other w3 ⟨ga, 0, none⟩ b0 _ (by show b0 ≠ ga; omega))))).trans y2
              refine hK.out _ _ (⟨⟨BC7.out.c 0 _ rfl, y0z, y1z, y2z⟩, fun h => by simp at h⟩) ?_
              clear hK K2
              try simp only [Act.put, List.setIfInBounds_toArray, List.set_cons_zero, List.set_cons_succ]
              generalize ((w3.setCell ⟨ga, 0, none⟩ (.int .i64 nx.tx)).setCell ⟨ga, 1, none⟩ (.string nx.lo)).setCell ⟨ga, 2, none⟩ (.string nx.hi) = w7 at *
              refine stage_done (by kernel_rfl) ?_ _
              go_wp2_with fail
              go_roundw
              case rel => exact ⟨j + 1, by omega, by go_num, M ++ [⟨ytx, ylo, yhi⟩], 0 + 1, nx, by go_num, HM2, Lib.hid (by rw [List.length_append, HNM.out]; rfl), Lib.hid (by rw [HAL.out, hnx.out]), HF7, BC7, BR7, BA7⟩
              case measure => simp [Lib.intOf]; omega

            | succ n =>
              have HAL : Hid (allL (M ++ [⟨ytx, ylo, yhi⟩]) = joinL acc ⟨ytx, ylo, yhi⟩) := Lib.hid (by rw [all_snoc, if_neg (fun h => by have := HNM.out; rw [h] at this; simp at this), HAr.out])
              replace HON := Lib.hid (HON.out acc)
              have hnz : (((n + 1 : Nat) : Int) == 0) = false := beq_false_of_ne (by omega)
              have hnz2 : ¬ (((n + 1 : Nat) : Int) = 0) := by omega
              have cBCr0 := BCr.out.c 0 _ rfl; have fBCr0 := BCr.out.f 0 (by simp); have lBCr := BCr.out.lt; have cBAr0 := BAr.out.c 0 _ rfl; have fBAr0 := BAr.out.f 0 (by simp); have cBAr1 := BAr.out.c 1 _ rfl; have fBAr1 := BAr.out.f 1 (by simp); have cBAr2 := BAr.out.c 2 _ rfl; have fBAr2 := BAr.out.f 2 (by simp); have lBAr := BAr.out.lt
              go_upto_region 13 with (fail)
              clear cBCr0 fBCr0 lBCr; clear cBAr0 fBAr0 cBAr1 fBAr1 cBAr2 fBAr2 lBAr
              have HFq := HFr
              have BCq := BCr
              have BRq := BRr
              have BAq := BAr
              clear HFr BCr BRr BAr
              generalize wr = wq at *
              refine stage_begin (S := fun (L' : Array Bool) (w' : World) => (w'.cell? ⟨w.heap.size, 0, none⟩ = some (.slice (some ⟨b0, off, none⟩) l.length c) ∧ w'.cell? ⟨b0, off + j * 3, none⟩ = some (.int .i64 ytx) ∧ w'.cell? ⟨b0, off + j * 3 + 1, none⟩ = some (.string ylo) ∧ w'.cell? ⟨b0, off + j * 3 + 2, none⟩ = some (.string yhi)) ∧ (L'.getD 7 false = false → w'.cell? ⟨ga, 0, none⟩ = some (.int .i64 acc.tx) ∧ w'.cell? ⟨ga, 1, none⟩ = some (.string acc.lo) ∧ w'.cell? ⟨ga, 2, none⟩ = some (.string acc.hi))) (by kernel_rfl) ?_
              have hdx := below_drewN (Below.refl wq.heap.size wq) 1
              have HFx := Lib.hid (HFq.out.trans (hdx.mono HFq.out.size))
              have BCx := Lib.hid BCq.out.drew
              have BRx := Lib.hid BRq.out.drew
              have BAx := Lib.hid BAq.out.drew
              have y0 : wq.drew.cell? ⟨b0, off + j * 3, none⟩ = some (.int .i64 ytx) := g0
              have y1 : wq.drew.cell? ⟨b0, off + j * 3 + 1, none⟩ = some (.string ylo) := g1
              have y2 : wq.drew.cell? ⟨b0, off + j * 3 + 2, none⟩ = some (.string yhi) := g2
              replace HFx : Hid (Below w.heap.size w wq.drew) := HFx
              clear HFq BCq BRq BAq g0 g1 g2 hdx
              generalize wq.drew = we at *
              have hS1 : we.cell? ⟨ga, 0, none⟩ = some (.int .i64 acc.tx) ∧ we.cell? ⟨ga, 1, none⟩ = some (.string acc.lo) ∧ we.cell? ⟨ga, 2, none⟩ = some (.string acc.hi) := ⟨BAx.out.c 0 _ rfl, BAx.out.c 1 _ rfl, BAx.out.c 2 _ rfl⟩
              have hS0 : (fun w' : World => w'.cell? ⟨w.heap.size, 0, none⟩ = some (.slice (some ⟨b0, off, none⟩) l.length c) ∧ w'.cell? ⟨b0, off + j * 3, none⟩ = some (.int .i64 ytx) ∧ w'.cell? ⟨b0, off + j * 3 + 1, none⟩ = some (.string ylo) ∧ w'.cell? ⟨b0, off + j * 3 + 2, none⟩ = some (.string yhi)) we := ⟨BCx.out.c 0 _ rfl, y0, y1, y2⟩
              refine stage_take (i := 0) (oi := { dst := some 44, op := Go.Op.load 26 (Go.Operand.tmp 9), type := 26, pos := "ref.go:169", after := #[], guard := none }) (v := ?_) (T := fun w' : World => w'.cell? ⟨ga, 0, none⟩ = some (.int .i64 acc.tx) ∧ w'.cell? ⟨ga, 1, none⟩ = some (.string acc.lo) ∧ w'.cell? ⟨ga, 2, none⟩ = some (.string acc.hi)) rfl (by kernel_rfl) (by kernel_rfl) (by kernel_rfl) (by kernel_rfl) (fun _ _ _ h => h) (fun L' w' hW hS => hS.2 (not_yet hW (by kernel_rfl))) (fun L' w' hS => ⟨hS.1, fun h => hS.2 (by rw [getD_set_ne false (by decide)]; exact h)⟩) (Or.inl ⟨by rfl, ?_⟩) (hS1) (⟨hS0, fun _ => hS1⟩) ?_
              rotate_left 1
              · intro w9 hS9; obtain ⟨z0, z1, z2⟩ := hS9; go_simp; (try with_reducible rfl)
              try simp only [Act.put, List.setIfInBounds_toArray, List.set_cons_zero, List.set_cons_succ]
              refine stage_take (i := 1) (oi := { dst := some 45, op := Go.Op.fieldAddr 24 (Go.Operand.tmp 3) 0, type := 0, pos := "ref.go:169", after := #[], guard := none }) (v := ?_) (T := fun _ => True) rfl (by kernel_rfl) (by kernel_rfl) (by kernel_rfl) (by kernel_rfl) (fun _ _ _ h => h) (fun L' w' hW hS => trivial) (fun L' w' hS => ⟨hS.1, fun h => hS.2 (by rw [getD_set_ne false (by decide)]; exact h)⟩) (Or.inl ⟨by rfl, ?_⟩) trivial (⟨hS0, fun _ => hS1⟩) ?_
              rotate_left 1
              · intro w9 _; go_simp; (try with_reducible rfl)
              try simp only [Act.put, List.setIfInBounds_toArray, List.set_cons_zero, List.set_cons_succ]
              refine stage_take (i := 2) (oi := { dst := some 46, op := Go.Op.load 22 (Go.Operand.tmp 45), type := 22, pos := "ref.go:169", after := #[{ on := 1, ground := Go.Ground.data }], guard := none }) (v := ?_) (T := fun w' : World => w'.cell? ⟨w.heap.size, 0, none⟩ = some (.slice (some ⟨b0, off, none⟩) l.length c) ∧ w'.cell? ⟨b0, off + j * 3, none⟩ = some (.int .i64 ytx) ∧ w'.cell? ⟨b0, off + j * 3 + 1, none⟩ = some (.string ylo) ∧ w'.cell? ⟨b0, off + j * 3 + 2, none⟩ = some (.string yhi)) rfl (by kernel_rfl) (by kernel_rfl) (by kernel_rfl) (by kernel_rfl) (fun _ _ _ h => h) (fun L' w' hW hS => hS.1) (fun L' w' hS => ⟨hS.1, fun h => hS.2 (by rw [getD_set_ne false (by decide)]; exact h)⟩) (Or.inl ⟨by rfl, ?_⟩) (hS0) (⟨hS0, fun _ => hS1⟩) ?_
              rotate_left 1
              · intro w9 hS9; obtain ⟨z0, z1, z2, z3⟩ := hS9; go_simp; (try with_reducible rfl)
              try simp only [Act.put, List.setIfInBounds_toArray, List.set_cons_zero, List.set_cons_succ]
              refine stage_take (i := 3) (oi := { dst := some 47, op := Go.Op.move (Go.Operand.tmp 10), type := 3, pos := "ref.go:169", after := #[], guard := none }) (v := ?_) (T := fun _ => True) rfl (by kernel_rfl) (by kernel_rfl) (by kernel_rfl) (by kernel_rfl) (fun _ _ _ h => h) (fun L' w' hW hS => trivial) (fun L' w' hS => ⟨hS.1, fun h => hS.2 (by rw [getD_set_ne false (by decide)]; exact h)⟩) (Or.inl ⟨by rfl, ?_⟩) trivial (⟨hS0, fun _ => hS1⟩) ?_
              rotate_left 1
              · intro w9 _; go_simp; (try with_reducible rfl)
              try simp only [Act.put, List.setIfInBounds_toArray, List.set_cons_zero, List.set_cons_succ]
              refine stage_take (i := 4) (oi := { dst := some 48, op := Go.Op.indexAddr 22 (Go.Operand.tmp 46) (Go.Operand.tmp 47), type := 0, pos := "ref.go:169", after := #[{ on := 2, ground := Go.Ground.data }, { on := 3, ground := Go.Ground.data }], guard := none }) (v := ?_) (T := fun _ => True) rfl (by kernel_rfl) (by kernel_rfl) (by kernel_rfl) (by kernel_rfl) (fun _ _ _ h => h) (fun L' w' hW hS => trivial) (fun L' w' hS => ⟨hS.1, fun h => hS.2 (by rw [getD_set_ne false (by decide)]; exact h)⟩) (Or.inl ⟨by rfl, ?_⟩) trivial (⟨hS0, fun _ => hS1⟩) ?_
              rotate_left 1
              · intro w9 _; go_simp; (try with_reducible rfl)
              try simp only [Act.put, List.setIfInBounds_toArray, List.set_cons_zero, List.set_cons_succ]
              refine stage_take (i := 5) (oi := { dst := some 49, op := Go.Op.load 26 (Go.Operand.tmp 48), type := 26, pos := "ref.go:169", after := #[{ on := 4, ground := Go.Ground.data }], guard := none }) (v := ?_) (T := fun w' : World => w'.cell? ⟨w.heap.size, 0, none⟩ = some (.slice (some ⟨b0, off, none⟩) l.length c) ∧ w'.cell? ⟨b0, off + j * 3, none⟩ = some (.int .i64 ytx) ∧ w'.cell? ⟨b0, off + j * 3 + 1, none⟩ = some (.string ylo) ∧ w'.cell? ⟨b0, off + j * 3 + 2, none⟩ = some (.string yhi)) rfl (by kernel_rfl) (by kernel_rfl) (by kernel_rfl) (by kernel_rfl) (fun _ _ _ h => h) (fun L' w' hW hS => hS.1) (fun L' w' hS => ⟨hS.1, fun h => hS.2 (by rw [getD_set_ne false (by decide)]; exact h)⟩) (Or.inl ⟨by rfl, ?_⟩) (hS0) (⟨hS0, fun _ => hS1⟩) ?_
              rotate_left 1
              · intro w9 hS9; obtain ⟨z0, z1, z2, z3⟩ := hS9; go_simp; (try with_reducible rfl)
              try simp only [Act.put, List.setIfInBounds_toArray, List.set_cons_zero, List.set_cons_succ]
              clear hS0 hS1
              refine stage_all (rs := [6]) (by kernel_rfl) (by simp) (fun i0 hi0 => ?_)
              obtain rfl : i0 = 6 := by simpa using hi0
              refine stage_step (S := fun (L' : Array Bool) (w' : World) => (w'.cell? ⟨w.heap.size, 0, none⟩ = some (.slice (some ⟨b0, off, none⟩) l.length c) ∧ w'.cell? ⟨b0, off + j * 3, none⟩ = some (.int .i64 ytx) ∧ w'.cell? ⟨b0, off + j * 3 + 1, none⟩ = some (.string ylo) ∧ w'.cell? ⟨b0, off + j * 3 + 2, none⟩ = some (.string yhi)) ∧ (L'.getD 7 false = false → w'.cell? ⟨ga, 0, none⟩ = some (.int .i64 acc.tx) ∧ w'.cell? ⟨ga, 1, none⟩ = some (.string acc.lo) ∧ w'.cell? ⟨ga, 2, none⟩ = some (.string acc.hi))) (o := { dst := some 50, op := Go.Op.call { callee := Go.Callee.value (Go.Operand.func 41), args := #[Go.Operand.tmp 44, Go.Operand.tmp 49], argTypes := #[26, 26] }, type := 26, pos := "ref.go:169", after := #[{ on := 0, ground := Go.Ground.data }, { on := 5, ground := Go.Ground.data }], guard := none }) (by rfl) (fun K2 hK => ?_)
              go_simp
              go_wp2_with (go_at_call 41; (with_reducible refine (HON.out _).mono ?_); rintro e w3 ⟨rfl, h3⟩)
              replace BCx := Lib.hid (BCx.out.below h3 BCx.out.lt); replace BRx := Lib.hid (BRx.out.below h3 BRx.out.lt); replace BAx := Lib.hid (BAx.out.below h3 BAx.out.lt); replace HFx := Lib.hid (below_step' HFx.out h3)
              replace y0 := (h3.cell (p := ⟨b0, off + j * 3, none⟩) (World.block_lt_of_cell? _ _ y0)).trans y0
              replace y1 := (h3.cell (p := ⟨b0, off + j * 3 + 1, none⟩) (World.block_lt_of_cell? _ _ y1)).trans y1
              replace y2 := (h3.cell (p := ⟨b0, off + j * 3 + 2, none⟩) (World.block_lt_of_cell? _ _ y2)).trans y2
              clear h3
              refine hK.out _ _ (⟨⟨BCx.out.c 0 _ rfl, y0, y1, y2⟩, fun _ => ⟨BAx.out.c 0 _ rfl, BAx.out.c 1 _ rfl, BAx.out.c 2 _ rfl⟩⟩) ?_
              clear hK K2
              try simp only [Act.put, List.setIfInBounds_toArray, List.set_cons_zero, List.set_cons_succ]
              refine stage_all (rs := [7]) (by kernel_rfl) (by simp) (fun i0 hi0 => ?_)
              obtain rfl : i0 = 7 := by simpa using hi0
              refine stage_step (S := fun (L' : Array Bool) (w' : World) => (w'.cell? ⟨w.heap.size, 0, none⟩ = some (.slice (some ⟨b0, off, none⟩) l.length c) ∧ w'.cell? ⟨b0, off + j * 3, none⟩ = some (.int .i64 ytx) ∧ w'.cell? ⟨b0, off + j * 3 + 1, none⟩ = some (.string ylo) ∧ w'.cell? ⟨b0, off + j * 3 + 2, none⟩ = some (.string yhi)) ∧ (L'.getD 7 false = false → w'.cell? ⟨ga, 0, none⟩ = some (.int .i64 acc.tx) ∧ w'.cell? ⟨ga, 1, none⟩ = some (.string acc.lo) ∧ w'.cell? ⟨ga, 2, none⟩ = some (.string acc.hi))) (o := { dst := none, op := Go.Op.store 26 (Go.Operand.tmp 9) (Go.Operand.tmp 50), type := 0, pos := "ref.go:169", after := #[{ on := 6, ground := Go.Ground.data }, { on := 6, ground := Go.Ground.chain }, { on := 0, ground := Go.Ground.phase }, { on := 1, ground := Go.Ground.phase }, { on := 2, ground := Go.Ground.phase }, { on := 3, ground := Go.Ground.phase }, { on := 4, ground := Go.Ground.phase }, { on := 5, ground := Go.Ground.phase }, { on := 6, ground := Go.Ground.phase }], guard := none }) (by rfl) (fun K2 hK => ?_)
              obtain ⟨nx, hnx⟩ : ∃ nx, nx = joinL acc ⟨ytx, ylo, yhi⟩ := ⟨_, rfl⟩
              rw [← hnx]
              replace hnx := Lib.hid hnx
              have cBAx0 := BAx.out.c 0 _ rfl; have fBAx0 := BAx.out.f 0 (by simp); have cBAx1 := BAx.out.c 1 _ rfl; have fBAx1 := BAx.out.f 1 (by simp); have cBAx2 := BAx.out.c 2 _ rfl; have fBAx2 := BAx.out.f 2 (by simp); have lBAx := BAx.out.lt
              go_simp
              clear cBAx0 fBAx0 cBAx1 fBAx1 cBAx2 fBAx2 lBAx
              have BA7 : Hid (Box (((w3.setCell ⟨ga, 0, none⟩ (.int .i64 nx.tx)).setCell ⟨ga, 1, none⟩ (.string nx.lo)).setCell ⟨ga, 2, none⟩ (.string nx.hi)) ga [.int .i64 nx.tx, .string nx.lo, .string nx.hi]) := Lib.hid (((BAx.out.set 0 (.int .i64 nx.tx) (by simp)).set 1 (.string nx.lo) (by simp)).set 2 (.string nx.hi) (by simp))
              have BC7 := Lib.hid (((BCx.out.other ⟨ga, 0, none⟩ (.int .i64 nx.tx) (by show ga ≠ w.heap.size; omega)).other ⟨ga, 1, none⟩ (.string nx.lo) (by show ga ≠ w.heap.size; omega)).other ⟨ga, 2, none⟩ (.string nx.hi) (by show ga ≠ w.heap.size; omega))
              have BR7 := Lib.hid (((BRx.out.other ⟨ga, 0, none⟩ (.int .i64 nx.tx) (by show ga ≠ w.heap.size + 1; omega)).other ⟨ga, 1, none⟩ (.string nx.lo) (by show ga ≠ w.heap.size + 1; omega)).other ⟨ga, 2, none⟩ (.string nx.hi) (by show ga ≠ w.heap.size + 1; omega))
              have HF7 := Lib.hid (below_set (g := ga) (j := 2) (v := .string nx.hi) (below_set (g := ga) (j := 1) (v := .string nx.lo) (below_set (g := ga) (j := 0) (v := .int .i64 nx.tx) HFx.out (by omega)) (by omega)) (by omega))
              have y0z : (((w3.setCell ⟨ga, 0, none⟩ (.int .i64 nx.tx)).setCell ⟨ga, 1, none⟩ (.string nx.lo)).setCell ⟨ga, 2, none⟩ (.string nx.hi)).cell? ⟨b0, off + j * 3, none⟩ = _ := (World.cell?_of_block (a := ⟨b0, off + j * 3, none⟩) ((heap_setCell_other _ ⟨ga, 2, none⟩ b0 _ (by show b0 ≠ ga; omega)).trans ((heap_setCell_other _ ⟨ga, 1, none⟩ b0 _ (by show b0 ≠ ga; omega)).trans (heap_setCell_other w3 ⟨ga, 0, none⟩ b0 _ (by show b0 ≠ ga; omega))))).trans y0
              have y1z : (((w3.setCell ⟨ga, 0, none⟩ (.int .i64 nx.tx)).setCell ⟨ga, 1, none⟩ (.string nx.lo)).setCell ⟨ga, 2, none⟩ (.string nx.hi)).cell? ⟨b0, off + j * 3 + 1, none⟩ = _ := (World.cell?_of_block (a := ⟨b0, off + j * 3 + 1, none⟩) ((heap_setCell_other _ ⟨ga, 2, none⟩ b0 _ (by show b0 ≠ ga; omega)).trans ((heap_setCell_other _ ⟨ga, 1, none⟩ b0 _ (by show b0 ≠ ga; omega)).trans (heap_setCell_other w3 ⟨ga, 0, none⟩ b0 _ (by show b0 ≠ ga; omega))))).trans y1
              have y2z : (((w3.setCell ⟨ga, 0, none⟩ (.int .i64 nx.tx)).setCell ⟨ga, 1, none⟩ (.string nx.lo)).setCell ⟨ga, 2, none⟩ (.string nx.hi)).cell? ⟨b0, off + j * 3 + 2, none⟩ = _ := (World.cell?_of_block (a := ⟨b0, off + j * 3 + 2, none⟩) ((heap_setCell_other _ ⟨ga, 2, none⟩ b0 _ (by show b0 ≠ ga; omega)).trans ((heap_setCell_other _ ⟨ga, 1, none⟩ b0 _ (by show b0 ≠ ga; omega)).trans (heap_setCell_other w3 ⟨ga, 0, none⟩ b0 _ (by show b0 ≠ ga; omega))))).trans y2
              refine hK.out _ _ (⟨⟨BC7.out.c 0 _ rfl, y0z, y1z, y2z⟩, fun h => by simp at h⟩) ?_
              clear hK K2
              try simp only [Act.put, List.setIfInBounds_toArray, List.set_cons_zero, List.set_cons_succ]
              generalize ((w3.setCell ⟨ga, 0, none⟩ (.int .i64 nx.tx)).setCell ⟨ga, 1, none⟩ (.string nx.lo)).setCell ⟨ga, 2, none⟩ (.string nx.hi) = w7 at *
              refine stage_done (by kernel_rfl) ?_ _
              go_wp2_with fail
              go_roundw
              case rel => exact ⟨j + 1, by omega, by go_num, M ++ [⟨ytx, ylo, yhi⟩], (n + 1) + 1, nx, by go_num, HM2, Lib.hid (by rw [List.length_append, HNM.out]; rfl), Lib.hid (by rw [HAL.out, hnx.out]), HF7, BC7, BR7, BA7⟩
              case measure => simp [Lib.intOf]; omega

          · have HM2 : Hid (mineL (l.take (j + 1)) t = M) := Lib.hid (by rw [HM1.out, if_neg htx, List.append_nil])
            have ht1 : (ytx == t) = false := by simpa using htx
            have ht2 : (ytx != t) = true := by simpa using htx
            clear HM1
            have cBCr0 := BCr.out.c 0 _ rfl; have fBCr0 := BCr.out.f 0 (by simp); have lBCr := BCr.out.lt
            go_wp2_with fail
            go_roundw
            case rel => exact ⟨j + 1, by omega, by go_num, M, n, acc, rfl, HM2, HNM, HAr, HFr, BCr, BRr, BAr⟩
            case measure => simp [Lib.intOf]; omega
        · obtain rfl : j = l.length := by omega
          rw [List.take_length] at HMr
          by_cases hle : (n : Int) ≤ m
          · have EE : Hid (g = (l, 0)) := Lib.hid (by rw [E4.out, HMr.out, HNM.out, if_pos hle])
            clear E4 ED2 HINC HMr HNM HAr BAr
            have how := rlown_any A c l wr (RW.out.below HFr.out) hn hl
            have hzr : w.heap.size + 2 ≤ wr.heap.size := BRr.out.lt
            have cBCr0 := BCr.out.c 0 _ rfl; have fBCr0 := BCr.out.f 0 (by simp); have lBCr := BCr.out.lt
            go_wp2_with (go_at_call 39; (with_reducible refine how.mono ?_); rintro e w3 ⟨v3, rfl, hv3, h3⟩; clear cBCr0 fBCr0 lBCr; replace BRr := Lib.hid (BRr.out.below h3 BRr.out.lt); replace HFr := Lib.hid (below_step' HFr.out h3); (have HV3 := Lib.hid (hv3.mono (M := w.heap.size + 2) hzr)); (obtain ⟨A3, c3, rfl, _⟩ := hv3); clear h3; have cBRr0 := BRr.out.c 0 _ rfl; have fBRr0 := BRr.out.f 0 (by simp); have lBRr := BRr.out.lt)
            clear cBRr0 fBRr0 lBRr
            have HX := Lib.hid (below_set (g := w.heap.size + 1) (j := 0) (v := .slice A3 l.length c3) HFr.out (by omega))
            have BZ : Hid (Box (w3.setCell ⟨w.heap.size + 1, 0, none⟩ (.slice A3 l.length c3)) (w.heap.size + 1) [.slice A3 l.length c3]) := Lib.hid (BRr.out.set 0 (.slice A3 l.length c3) (by simp))
            have HV : Hid (SlB encL 3 w.heap.size (w3.setCell ⟨w.heap.size + 1, 0, none⟩ (.slice A3 l.length c3)) (.slice A3 l.length c3) g.1) := Lib.hid (by rw [EE.out]; exact (HV3.out.set ⟨w.heap.size + 1, 0, none⟩ _ (Nat.lt_succ_self _)).mono (by omega))
            generalize w3.setCell ⟨w.heap.size + 1, 0, none⟩ (.slice A3 l.length c3) = wz at *
            have cBZ0 := BZ.out.c 0 _ rfl
            refine bodyPost_ret (v := .tuple #[.agg #[.slice A3 l.length c3], .int .i64 0]) (by simp [results, Try.results23, go_sem, cBZ0]) rfl ?_
            refine ⟨_, ?_, HV.out, HX.out⟩
            rw [EE.out]

          · have hIO : Inc (othersL l t) := HINC.out.filter _
            have EE : Hid (g = (putB (othersL l t) acc, 0)) := Lib.hid (by rw [E4.out, HMr.out, HNM.out, if_neg hle, HAr.out, put_same acc hIO])
            clear E4 HINC HMr HNM HAr hIO
            have hol : (othersL l t).length ≤ 512 := Nat.le_trans (others_len l t) h512
            have hdr := rldrop_own A c l t wr (RW.out.below HFr.out) hl
            rw [ED2.out] at hdr
            dsimp only at hdr
            clear ED2 RW
            generalize othersL l t = O at *
            have hzr : w.heap.size + 2 ≤ wr.heap.size := BRr.out.lt
            have cBCr0 := BCr.out.c 0 _ rfl; have fBCr0 := BCr.out.f 0 (by simp); have lBCr := BCr.out.lt
            go_upto_region 17 with (fail)
            go_upto_region 18 with (go_at_call 22; (with_reducible refine hdr.mono ?_); rintro e w3 ⟨v3, rfl, hv3, h3⟩; clear cBCr0 fBCr0 lBCr; replace BRr := Lib.hid (BRr.out.below h3 BRr.out.lt); replace BAr := Lib.hid (BAr.out.below h3 BAr.out.lt); replace HFr := Lib.hid (below_step' HFr.out h3); (obtain ⟨N3, hN3, ho3⟩ := hv3); (obtain ⟨A3, c3, rfl, _, _⟩ := own_slice ho3); clear h3)
            have BTx := Lib.hid (Box.new w3 #[.slice A3 O.length c3] 24)
            have hb := (Below.refl _ w3).alloc (Nat.le_refl _) (.cells #[.slice A3 O.length c3] 24)
            have HO4 := Lib.hid (ho3.alloc (.cells #[.slice A3 O.length c3] 24))
            replace BRr := Lib.hid (BRr.out.below hb BRr.out.lt); replace BAr := Lib.hid (BAr.out.below hb BAr.out.lt); replace HFr := Lib.hid (below_step' HFr.out hb)
            clear hb ho3
            generalize w3.alloc (.cells #[.slice A3 O.length c3] 24) = w4 at *
            generalize w3.heap.size = gt at *
            have hpu := rlput_own acc HO4.out (by omega)
            have hzr4 : w.heap.size + 2 ≤ w4.heap.size := BRr.out.lt
            clear HO4
            have cBTx0 := BTx.out.c 0 _ rfl; have fBTx0 := BTx.out.f 0 (by simp); have lBTx := BTx.out.lt; have cBAr0 := BAr.out.c 0 _ rfl; have fBAr0 := BAr.out.f 0 (by simp); have cBAr1 := BAr.out.c 1 _ rfl; have fBAr1 := BAr.out.f 1 (by simp); have cBAr2 := BAr.out.c 2 _ rfl; have fBAr2 := BAr.out.f 2 (by simp); have lBAr := BAr.out.lt
            go_wp2_with (go_at_call 42; (with_reducible refine hpu.mono ?_); rintro e w5 ⟨v5, rfl, hv5, h5⟩; clear cBTx0 fBTx0 lBTx; clear cBAr0 fBAr0 cBAr1 fBAr1 cBAr2 fBAr2 lBAr; replace BRr := Lib.hid (BRr.out.below h5 BRr.out.lt); replace HFr := Lib.hid (below_step' HFr.out h5); (have HV5 := Lib.hid (hv5.mono (M := w.heap.size + 2) hzr4)); (obtain ⟨A5, c5, rfl, _⟩ := hv5); clear h5; have cBRr0 := BRr.out.c 0 _ rfl; have fBRr0 := BRr.out.f 0 (by simp); have lBRr := BRr.out.lt)
            clear cBRr0 fBRr0 lBRr
            have HX := Lib.hid (below_set (g := w.heap.size + 1) (j := 0) (v := .slice A5 (putB O acc).length c5) HFr.out (by omega))
            have BZ : Hid (Box (w5.setCell ⟨w.heap.size + 1, 0, none⟩ (.slice A5 (putB O acc).length c5)) (w.heap.size + 1) [.slice A5 (putB O acc).length c5]) := Lib.hid (BRr.out.set 0 (.slice A5 (putB O acc).length c5) (by simp))
            have HV : Hid (SlB encL 3 w.heap.size (w5.setCell ⟨w.heap.size + 1, 0, none⟩ (.slice A5 (putB O acc).length c5)) (.slice A5 (putB O acc).length c5) g.1) := Lib.hid (by rw [EE.out]; exact (HV5.out.set ⟨w.heap.size + 1, 0, none⟩ _ (Nat.lt_succ_self _)).mono (by omega))
            generalize w5.setCell ⟨w.heap.size + 1, 0, none⟩ (.slice A5 (putB O acc).length c5) = wz at *
            have cBZ0 := BZ.out.c 0 _ rfl
            refine bodyPost_ret (v := .tuple #[.agg #[.slice A5 (putB O acc).length c5], .int .i64 0]) (by simp [results, Try.results23, go_sem, cBZ0]) rfl ?_
            refine ⟨_, ?_, HV.out, HX.out⟩
            rw [EE.out]

  · have EE := Lib.hid (E1.out (by trivial))
    clear E1 E2 CK RW ED
    have cBR0 := BR.out.c 0 _ rfl; have fBR0 := BR.out.f 0 (by simp); have lBR := BR.out.lt
    go_wp2_with fail
    clear cBR0 fBR0 lBR
    have HX := Lib.hid (below_set (g := w.heap.size + 1) (j := 0) (v := .slice none 0 0) HF.out (by omega))
    have BZ : Hid (Box (w1.setCell ⟨w.heap.size + 1, 0, none⟩ (.slice none 0 0)) (w.heap.size + 1) [.slice none 0 0]) := Lib.hid (BR.out.set 0 (.slice none 0 0) (by simp))
    have HV : Hid (SlB encL 3 w.heap.size (w1.setCell ⟨w.heap.size + 1, 0, none⟩ (.slice none 0 0)) (.slice none 0 0) g.1) := Lib.hid (by rw [EE.out]; exact SlB.nil _)
    generalize w1.setCell ⟨w.heap.size + 1, 0, none⟩ (.slice none 0 0) = wz at *
    have cBZ0 := BZ.out.c 0 _ rfl
    refine bodyPost_ret (v := .tuple #[.agg #[.slice none 0 0], .int .i64 9]) (by simp [results, Try.results23, go_sem, cBZ0]) rfl ?_
    refine ⟨_, ?_, HV.out, HX.out⟩
    rw [EE.out]

end Go.Proofs.Ytdiclnkkddnncaa
