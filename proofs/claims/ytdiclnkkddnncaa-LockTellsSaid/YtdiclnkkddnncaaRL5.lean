/- The page's locks: Read, Drop. -/
import Derived.Test.YtdiclnkkddnncaaRL4
import Derived.Test.YtdiclnkkddnncaaReadW
import Derived.Test.YtdiclnkkddnncaaDropW
namespace Go.Proofs.Ytdiclnkkddnncaa
open Go.RowKit
open Go.Shelf
set_option linter.unusedVariables false
set_option linter.unusedSimpArgs false
theorem step_app {P : Program} {ops : Array Oper} {o : Oper} {a : Act} {w : World} {K : Act → World → Prop} {Q : Exit → Act → World → Prop} {E : Prop}
    (hg : o.guard = none) (s x : Operand) (t : TypeId) (hop : o.op = Op.call { callee := Callee.builtin Builtin.append, args := #[s, x], argTypes := #[t, t] })
    (v u : Value) (hs : a.eval s = v) (hx : a.eval x = u) {v' : Value} {w' : World} (hr : (Builtin.append_ #[t, t] o.type #[v, u]).run P w = .ok v' w') (hK : K (a.put o.dst v') w') :
    if Region.wanted o (yielded ops a.tmps) = true then Oper.wp P o a w K Q else E := by
  have hw : Region.wanted o (yielded ops a.tmps) = true := by simp [Region.wanted, hg]
  rw [if_pos hw]
  unfold Oper.wp
  simp [execOp, hop, resolve, invoke, builtin, hs, hx, hr, Result.andThen]
  exact hK
set_option maxHeartbeats 4000000 in
set_option maxRecDepth 100000 in
theorem rlread_any (A : Option Addr) (c : Nat) (l : List Lk) (t : Int) (k : ByteArray) (w : World) (HR : RowE encL 3 w A l) (hn : A = none → c = 0) (hl : l.length * 40 ≤ 140737488351232) (hk : k.size ≤ 140737488351232) :
    Calls Try.prog 19 #[.agg #[.slice A l.length c], .int .i64 t, .string k] w fun e w' => ∃ v, e = .returned (.tuple #[.agg #[v], .int .i64 (addL l (keyL t k)).2]) ∧ SlB encL 3 w.heap.size w' v (addL l (keyL t k)).1 ∧ Below w.heap.size w w' := by
  have BC := Lib.hid ((Box.new w #[.slice A l.length c] 24).alloc (.cells #[.slice none 0 0] 24))
  have BR := Lib.hid (Box.new (w.alloc (.cells #[.slice A l.length c] 24)) #[.slice none 0 0] 24)
  have h0 : Below w.heap.size w ((w.alloc (.cells #[.slice A l.length c] 24)).alloc (.cells #[.slice none 0 0] 24)) := (by (repeat (first | (with_reducible exact Below.refl _ _) | apply below_alloc _ (Nat.le_refl _) | refine below_set ?_ (by first | exact Nat.le_refl _ | omega) | apply below_drewN | refine below_step ?_ HB)))
  have had := rladd_any A c l (keyL t k) _ (HR.below h0) hn hl
  obtain ⟨g, hg⟩ : ∃ g, g = addL l (keyL t k) := ⟨_, rfl⟩
  rw [← hg] at had ⊢
  have HF := Lib.hid h0
  have EE : Hid (g = g) := Lib.hid rfl
  have hsz : ¬ (9223372036854775807 < k.size + 1) := by omega
  simp only [World.size_alloc] at BR
  clear h0 HR hg
  dsimp only [keyL] at had
  go_enter Try.func19, Try.ntmps19
  have cBC0 := BC.out.c 0 _ rfl; have fBC0 := BC.out.f 0 (by simp); have lBC := BC.out.lt
  go_wp2_with fail
  clear cBC0 fBC0 lBC
  generalize (w.alloc (.cells #[.slice A l.length c] 24)).alloc (.cells #[.slice none 0 0] 24) = w0 at *
  have hz0 : w.heap.size + 2 ≤ w0.heap.size := BR.out.lt
  refine had.mono ?_; rintro e w1 ⟨v1, rfl, hv1, h1⟩
  have HV1 := Lib.hid (hv1.mono hz0)
  obtain ⟨A1, c1, rfl, _⟩ := hv1
  replace BR := Lib.hid (BR.out.below h1 BR.out.lt); replace HF := Lib.hid (below_step' HF.out h1)
  clear had h1
  have cBR0 := BR.out.c 0 _ rfl; have fBR0 := BR.out.f 0 (by simp); have lBR := BR.out.lt
  go_wp2_with fail
  clear cBR0 fBR0 lBR
  have HX := Lib.hid (below_set (g := w.heap.size + 1) (j := 0) (v := .slice A1 g.1.length c1) HF.out (by omega))
  have BZ := Lib.hid (BR.out.set 0 (.slice A1 g.1.length c1) (by simp))
  have HV := Lib.hid ((HV1.out.set ⟨w.heap.size + 1, 0, none⟩ (.slice A1 g.1.length c1) (by show w.heap.size + 1 < w.heap.size + 2; omega)).mono (M := w.heap.size) (by omega))
  generalize w1.setCell ⟨w.heap.size + 1, 0, none⟩ (.slice A1 g.1.length c1) = wz at *
  have cBZ0 := BZ.out.c 0 _ rfl
  refine bodyPost_ret (v := .tuple #[.agg #[.slice A1 g.1.length c1], .int .i64 g.2]) (by simp [results, Try.results19, go_sem, cBZ0]) rfl ?_
  exact ⟨_, rfl, HV.out, HX.out⟩
set_option maxHeartbeats 4000000 in
set_option maxRecDepth 100000 in
theorem rldrop_own (A : Option Addr) (c : Nat) (l : List Lk) (t : Int) (w : World) (HR : RowE encL 3 w A l) (hl : l.length * 40 ≤ 140737488351232) :
    Calls Try.prog 22 #[.agg #[.slice A l.length c], .int .i64 t] w fun e w' => ∃ v, e = .returned (.tuple #[.agg #[v], .int .i64 (dropL l t).2]) ∧ (∃ N, w.heap.size ≤ N ∧ w'.ownsRow N 26 3 v (dropL l t).1.length ((dropL l t).1.flatMap encL)) ∧ Below w.heap.size w w' := by
  obtain ⟨iS, hiS1, hiS2, hiS3, hiS4⟩ := infoK
  obtain ⟨g, hg⟩ : ∃ g, g = dropL l t := ⟨_, rfl⟩
  rw [← hg]
  have E1 : Hid (chkL l = 9 → g = ([], 9)) := Lib.hid (fun h => by rw [hg]; unfold dropL; rw [if_pos (by simp [h]), h])
  have E2 : Hid (chkL l = 0 → g = (l.filter (fun y => !(y.tx == t)), 0)) := Lib.hid (fun h => by rw [hg]; unfold dropL; rw [if_neg (by simp [h])])
  have CK := Lib.hid (fun h : chkL l = 0 => (chkL_iff l).1 h)
  have C9 := chkL_or l
  have BC := Lib.hid ((Box.new w #[.slice A l.length c] 24).alloc (.cells #[.slice none 0 0] 24))
  have BR := Lib.hid (Box.new (w.alloc (.cells #[.slice A l.length c] 24)) #[.slice none 0 0] 24)
  have h0 : Below w.heap.size w ((w.alloc (.cells #[.slice A l.length c] 24)).alloc (.cells #[.slice none 0 0] 24)) := (by (repeat (first | (with_reducible exact Below.refl _ _) | apply below_alloc _ (Nat.le_refl _) | refine below_set ?_ (by first | exact Nat.le_refl _ | omega) | apply below_drewN | refine below_step ?_ HB)))
  have RW := Lib.hid HR
  have HF := Lib.hid h0
  have hck := rlcheck_any A c l _ (HR.below h0) (by omega)
  simp only [World.size_alloc] at BR
  clear h0 HR hg
  generalize chkL l = kc at *
  go_enter Try.func22, Try.ntmps22
  go_wp2_with fail
  generalize (w.alloc (.cells #[.slice A l.length c] 24)).alloc (.cells #[.slice none 0 0] 24) = w0 at *
  refine hck.mono ?_; rintro e w1 ⟨rfl, h1⟩
  replace BC := Lib.hid (BC.out.below h1 BC.out.lt); replace BR := Lib.hid (BR.out.below h1 BR.out.lt); replace HF := Lib.hid (below_step' HF.out h1)
  clear hck h1
  rcases C9 with rfl | rfl
  · obtain ⟨h512, _, _⟩ := CK.out (by trivial)
    have E3 := Lib.hid (E2.out (by trivial))
    clear E1 E2 CK
    have hz1 : w.heap.size + 2 ≤ w1.heap.size := BR.out.lt
    go_upto_region 5 with (fail)
    have BOx := Lib.hid (Box.new w1 #[.slice none 0 0] 24)
    have hb := (Below.refl _ w1).alloc (Nat.le_refl _) (.cells #[.slice none 0 0] 24)
    replace BC := Lib.hid (BC.out.below hb BC.out.lt); replace BR := Lib.hid (BR.out.below hb BR.out.lt); replace HF := Lib.hid (below_step' HF.out hb)
    clear hb
    generalize w1.alloc (.cells #[.slice none 0 0] 24) = wa at *
    generalize w1.heap.size = go at *
    go_wp2_with fail
    go_loopw [7] (fun s7 wr => ∃ j : Nat, j ≤ l.length ∧ s7 = .int .i64 j ∧ Hid (Below w.heap.size w wr) ∧ Hid (Box wr w.heap.size [.slice A l.length c]) ∧ Hid (Box wr (w.heap.size + 1) [.slice none 0 0]) ∧ ∃ (R : List Lk) (vr : Value), Hid (R = (l.take j).filter (fun y => !(y.tx == t))) ∧ Hid (Box wr go [vr]) ∧ Hid (wr.ownsRow (go + 1) 26 3 vr R.length (R.flatMap encL))) (fun s7 _ => l.length - (Lib.intOf s7).toNat)
    case atStart => exact ⟨0, Nat.zero_le _, rfl, HF, BC, BR, [], .slice none 0 0, Lib.hid rfl, BOx, Lib.hid (World.ownsRow_nil _ _ _ _)⟩
    case round =>
      clear HF BC BR BOx
      obtain ⟨j, hj, rfl, HFr, BCr, BRr, R, vr, HRR, BOr, HOr⟩ := hrel
      obtain ⟨Ar, cr, rfl, _, _⟩ := own_slice HOr.out
      have hRl : R.length ≤ 512 := by
        rw [HRR.out]
        exact Nat.le_trans (List.length_filter_le _ _) (by rw [List.length_take]; omega)
      by_cases hlt : j < l.length
      · obtain ⟨y, hy⟩ : ∃ y, l[j]? = some y := ⟨_, List.getElem?_eq_getElem hlt⟩
        obtain ⟨b0, off, rfl, hb0, g0, g1, g2⟩ := RW.out.tri hy HFr.out
        have HR2 : Hid ((l.take (j + 1)).filter (fun y => !(y.tx == t)) = R ++ (if (!(y.tx == t)) = true then [y] else [])) := Lib.hid (by rw [filt_snoc hy (fun y => !(y.tx == t)), HRR.out])
        clear hy HRR
        obtain ⟨ytx, ylo, yhi⟩ := y
        dsimp only at g0 g1 g2
        try dsimp only at HR2
        have hji : (j : Int) < (l.length : Int) := by omega
        have hbg : b0 < w.heap.size := hb0
        by_cases htx : ytx = t
        · subst htx
          have cBCr0 := BCr.out.c 0 _ rfl; have fBCr0 := BCr.out.f 0 (by simp); have lBCr := BCr.out.lt
          go_wp2_with fail
          go_roundw
          case rel => exact ⟨j + 1, by omega, by go_num, HFr, BCr, BRr, R, _, Lib.hid (by rw [HR2.out]; simp), BOr, HOr⟩
          case measure => simp [Lib.intOf]; omega
        · have ht1 : (ytx == t) = false := by simpa using htx
          have cBCr0 := BCr.out.c 0 _ rfl; have fBCr0 := BCr.out.f 0 (by simp); have lBCr := BCr.out.lt
          go_upto_region 8 with (fail)
          clear cBCr0 fBCr0 lBCr
          refine stage_begin (S := fun (L' : Array Bool) (w' : World) => (w'.cell? ⟨w.heap.size, 0, none⟩ = some (.slice (some ⟨b0, off, none⟩) l.length c) ∧ w'.cell? ⟨b0, off + j * 3, none⟩ = some (.int .i64 ytx) ∧ w'.cell? ⟨b0, off + j * 3 + 1, none⟩ = some (.string ylo) ∧ w'.cell? ⟨b0, off + j * 3 + 2, none⟩ = some (.string yhi)) ∧ (L'.getD 10 false = false → w'.cell? ⟨go, 0, none⟩ = some (.slice Ar R.length cr))) (by kernel_rfl) ?_
          have HFx : Hid (Below w.heap.size w wr.drew) := Lib.hid (below_drewN HFr.out 1)
          have BCx := Lib.hid BCr.out.drew
          have BRx := Lib.hid BRr.out.drew
          have BOx := Lib.hid BOr.out.drew
          have y0 : wr.drew.cell? ⟨b0, off + j * 3, none⟩ = some (.int .i64 ytx) := g0
          have y1 : wr.drew.cell? ⟨b0, off + j * 3 + 1, none⟩ = some (.string ylo) := g1
          have y2 : wr.drew.cell? ⟨b0, off + j * 3 + 2, none⟩ = some (.string yhi) := g2
          have HO : Hid (wr.drew.ownsRow (go + 1) 26 3 (.slice Ar R.length cr) R.length (R.flatMap encL)) := HOr
          clear HFr BCr BRr BOr g0 g1 g2 HOr
          generalize wr.drew = wd at *
          have hS1 := BOx.out.c 0 _ rfl
          have hS0 : (fun w' : World => w'.cell? ⟨w.heap.size, 0, none⟩ = some (.slice (some ⟨b0, off, none⟩) l.length c) ∧ w'.cell? ⟨b0, off + j * 3, none⟩ = some (.int .i64 ytx) ∧ w'.cell? ⟨b0, off + j * 3 + 1, none⟩ = some (.string ylo) ∧ w'.cell? ⟨b0, off + j * 3 + 2, none⟩ = some (.string yhi)) wd := ⟨BCx.out.c 0 _ rfl, y0, y1, y2⟩
          refine stage_take (i := 0) (oi := { dst := some 27, op := Go.Op.fieldAddr 24 (Go.Operand.tmp 6) 0, type := 0, pos := "ref.go:146", after := #[], guard := none }) (v := ?_) (T := fun _ => True) rfl (by kernel_rfl) (by kernel_rfl) (by kernel_rfl) (by kernel_rfl) (fun _ _ _ h => h) (fun L' w' hW hS => trivial) (fun L' w' hS => ⟨hS.1, fun h => hS.2 (by rw [getD_set_ne false (by decide)]; exact h)⟩) (Or.inl ⟨by rfl, ?_⟩) trivial (⟨hS0, fun _ => hS1⟩) ?_
          rotate_left 1
          · intro w9 _; go_simp; (try with_reducible rfl)
          try simp only [Act.put, List.setIfInBounds_toArray, List.set_cons_zero, List.set_cons_succ]
          refine stage_take (i := 1) (oi := { dst := some 28, op := Go.Op.load 22 (Go.Operand.tmp 27), type := 22, pos := "ref.go:146", after := #[{ on := 0, ground := Go.Ground.data }], guard := none }) (v := ?_) (T := fun w' : World => w'.cell? ⟨go, 0, none⟩ = some (.slice Ar R.length cr)) rfl (by kernel_rfl) (by kernel_rfl) (by kernel_rfl) (by kernel_rfl) (fun _ _ _ h => h) (fun L' w' hW hS => hS.2 (not_yet hW (by kernel_rfl))) (fun L' w' hS => ⟨hS.1, fun h => hS.2 (by rw [getD_set_ne false (by decide)]; exact h)⟩) (Or.inl ⟨by rfl, ?_⟩) (hS1) (⟨hS0, fun _ => hS1⟩) ?_
          rotate_left 1
          · intro w9 hS9; obtain z0 := hS9; go_simp; (try with_reducible rfl)
          try simp only [Act.put, List.setIfInBounds_toArray, List.set_cons_zero, List.set_cons_succ]
          refine stage_take (i := 2) (oi := { dst := some 29, op := Go.Op.fieldAddr 24 (Go.Operand.tmp 2) 0, type := 0, pos := "ref.go:146", after := #[], guard := none }) (v := ?_) (T := fun _ => True) rfl (by kernel_rfl) (by kernel_rfl) (by kernel_rfl) (by kernel_rfl) (fun _ _ _ h => h) (fun L' w' hW hS => trivial) (fun L' w' hS => ⟨hS.1, fun h => hS.2 (by rw [getD_set_ne false (by decide)]; exact h)⟩) (Or.inl ⟨by rfl, ?_⟩) trivial (⟨hS0, fun _ => hS1⟩) ?_
          rotate_left 1
          · intro w9 _; go_simp; (try with_reducible rfl)
          try simp only [Act.put, List.setIfInBounds_toArray, List.set_cons_zero, List.set_cons_succ]
          refine stage_take (i := 3) (oi := { dst := some 30, op := Go.Op.load 22 (Go.Operand.tmp 29), type := 22, pos := "ref.go:146", after := #[{ on := 2, ground := Go.Ground.data }], guard := none }) (v := ?_) (T := fun w' : World => w'.cell? ⟨w.heap.size, 0, none⟩ = some (.slice (some ⟨b0, off, none⟩) l.length c) ∧ w'.cell? ⟨b0, off + j * 3, none⟩ = some (.int .i64 ytx) ∧ w'.cell? ⟨b0, off + j * 3 + 1, none⟩ = some (.string ylo) ∧ w'.cell? ⟨b0, off + j * 3 + 2, none⟩ = some (.string yhi)) rfl (by kernel_rfl) (by kernel_rfl) (by kernel_rfl) (by kernel_rfl) (fun _ _ _ h => h) (fun L' w' hW hS => hS.1) (fun L' w' hS => ⟨hS.1, fun h => hS.2 (by rw [getD_set_ne false (by decide)]; exact h)⟩) (Or.inl ⟨by rfl, ?_⟩) (hS0) (⟨hS0, fun _ => hS1⟩) ?_
          rotate_left 1
          · intro w9 hS9; obtain ⟨z0, z1, z2, z3⟩ := hS9; go_simp; (try with_reducible rfl)
          try simp only [Act.put, List.setIfInBounds_toArray, List.set_cons_zero, List.set_cons_succ]
          refine stage_take (i := 4) (oi := { dst := some 31, op := Go.Op.move (Go.Operand.tmp 7), type := 3, pos := "ref.go:146", after := #[], guard := none }) (v := ?_) (T := fun _ => True) rfl (by kernel_rfl) (by kernel_rfl) (by kernel_rfl) (by kernel_rfl) (fun _ _ _ h => h) (fun L' w' hW hS => trivial) (fun L' w' hS => ⟨hS.1, fun h => hS.2 (by rw [getD_set_ne false (by decide)]; exact h)⟩) (Or.inl ⟨by rfl, ?_⟩) trivial (⟨hS0, fun _ => hS1⟩) ?_
          rotate_left 1
          · intro w9 _; go_simp; (try with_reducible rfl)
          try simp only [Act.put, List.setIfInBounds_toArray, List.set_cons_zero, List.set_cons_succ]
          refine stage_take (i := 5) (oi := { dst := some 32, op := Go.Op.indexAddr 22 (Go.Operand.tmp 30) (Go.Operand.tmp 31), type := 0, pos := "ref.go:146", after := #[{ on := 3, ground := Go.Ground.data }, { on := 4, ground := Go.Ground.data }], guard := none }) (v := ?_) (T := fun _ => True) rfl (by kernel_rfl) (by kernel_rfl) (by kernel_rfl) (by kernel_rfl) (fun _ _ _ h => h) (fun L' w' hW hS => trivial) (fun L' w' hS => ⟨hS.1, fun h => hS.2 (by rw [getD_set_ne false (by decide)]; exact h)⟩) (Or.inl ⟨by rfl, ?_⟩) trivial (⟨hS0, fun _ => hS1⟩) ?_
          rotate_left 1
          · intro w9 _; go_simp; (try with_reducible rfl)
          try simp only [Act.put, List.setIfInBounds_toArray, List.set_cons_zero, List.set_cons_succ]
          refine stage_take (i := 6) (oi := { dst := some 33, op := Go.Op.load 26 (Go.Operand.tmp 32), type := 26, pos := "ref.go:146", after := #[{ on := 5, ground := Go.Ground.data }], guard := none }) (v := ?_) (T := fun w' : World => w'.cell? ⟨w.heap.size, 0, none⟩ = some (.slice (some ⟨b0, off, none⟩) l.length c) ∧ w'.cell? ⟨b0, off + j * 3, none⟩ = some (.int .i64 ytx) ∧ w'.cell? ⟨b0, off + j * 3 + 1, none⟩ = some (.string ylo) ∧ w'.cell? ⟨b0, off + j * 3 + 2, none⟩ = some (.string yhi)) rfl (by kernel_rfl) (by kernel_rfl) (by kernel_rfl) (by kernel_rfl) (fun _ _ _ h => h) (fun L' w' hW hS => hS.1) (fun L' w' hS => ⟨hS.1, fun h => hS.2 (by rw [getD_set_ne false (by decide)]; exact h)⟩) (Or.inl ⟨by rfl, ?_⟩) (hS0) (⟨hS0, fun _ => hS1⟩) ?_
          rotate_left 1
          · intro w9 hS9; obtain ⟨z0, z1, z2, z3⟩ := hS9; go_simp; (try with_reducible rfl)
          try simp only [Act.put, List.setIfInBounds_toArray, List.set_cons_zero, List.set_cons_succ]
          clear hS0 hS1
          refine stage_all (rs := [7]) (by kernel_rfl) (by simp) (fun i0 hi0 => ?_)
          obtain rfl : i0 = 7 := by simpa using hi0
          refine stage_step (S := fun (L' : Array Bool) (w' : World) => (w'.cell? ⟨w.heap.size, 0, none⟩ = some (.slice (some ⟨b0, off, none⟩) l.length c) ∧ w'.cell? ⟨b0, off + j * 3, none⟩ = some (.int .i64 ytx) ∧ w'.cell? ⟨b0, off + j * 3 + 1, none⟩ = some (.string ylo) ∧ w'.cell? ⟨b0, off + j * 3 + 2, none⟩ = some (.string yhi)) ∧ (L'.getD 10 false = false → w'.cell? ⟨go, 0, none⟩ = some (.slice Ar R.length cr))) (o := { dst := some 34, op := Go.Op.buildSlice 22 1 #[(0, Go.Operand.tmp 33)], type := 22, pos := "ref.go:146", after := #[{ on := 6, ground := Go.Ground.data }], guard := none }) (by rfl) (fun K2 hK => ?_)
          go_simp
          have N8 := heap_alloc_new wd (.cells #[.int .i64 ytx, .string ylo, .string yhi] 26)
          have hz3 : go + 1 ≤ wd.heap.size := BOx.out.lt
          have h2 := (Below.refl wd.heap.size wd).alloc (Nat.le_refl _) (.cells #[.int .i64 ytx, .string ylo, .string yhi] 26)
          replace BCx := Lib.hid (BCx.out.below h2 BCx.out.lt); replace BRx := Lib.hid (BRx.out.below h2 BRx.out.lt); replace BOx := Lib.hid (BOx.out.below h2 BOx.out.lt); replace HFx := Lib.hid (below_step' HFx.out h2)
          replace HO := Lib.hid (own_below HO.out h2)
          replace y0 : (wd.alloc (.cells #[.int .i64 ytx, .string ylo, .string yhi] 26)).cell? ⟨b0, off + j * 3, none⟩ = _ := (h2.cell (p := ⟨b0, off + j * 3, none⟩) (World.block_lt_of_cell? _ _ y0)).trans y0
          replace y1 : (wd.alloc (.cells #[.int .i64 ytx, .string ylo, .string yhi] 26)).cell? ⟨b0, off + j * 3 + 1, none⟩ = _ := (h2.cell (p := ⟨b0, off + j * 3 + 1, none⟩) (World.block_lt_of_cell? _ _ y1)).trans y1
          replace y2 : (wd.alloc (.cells #[.int .i64 ytx, .string ylo, .string yhi] 26)).cell? ⟨b0, off + j * 3 + 2, none⟩ = _ := (h2.cell (p := ⟨b0, off + j * 3 + 2, none⟩) (World.block_lt_of_cell? _ _ y2)).trans y2
          clear h2
          refine hK.out _ _ (⟨⟨BCx.out.c 0 _ rfl, y0, y1, y2⟩, fun _ => BOx.out.c 0 _ rfl⟩) ?_
          clear hK K2
          try simp only [Act.put, List.setIfInBounds_toArray, List.set_cons_zero, List.set_cons_succ]
          have hz4 : go + 1 ≤ (wd.alloc (.cells #[.int .i64 ytx, .string ylo, .string yhi] 26)).heap.size := BOx.out.lt
          generalize wd.alloc (.cells #[.int .i64 ytx, .string ylo, .string yhi] 26) = w8 at *
          generalize wd.heap.size = g8 at *
          refine stage_all (rs := [8]) (by kernel_rfl) (by simp) (fun i0 hi0 => ?_)
          obtain rfl : i0 = 8 := by simpa using hi0
          refine stage_step (S := fun (L' : Array Bool) (w' : World) => (w'.cell? ⟨w.heap.size, 0, none⟩ = some (.slice (some ⟨b0, off, none⟩) l.length c) ∧ w'.cell? ⟨b0, off + j * 3, none⟩ = some (.int .i64 ytx) ∧ w'.cell? ⟨b0, off + j * 3 + 1, none⟩ = some (.string ylo) ∧ w'.cell? ⟨b0, off + j * 3 + 2, none⟩ = some (.string yhi)) ∧ (L'.getD 10 false = false → w'.cell? ⟨go, 0, none⟩ = some (.slice Ar R.length cr))) (o := { dst := some 35, op := Go.Op.call { callee := Go.Callee.builtin Go.Builtin.append, args := #[Go.Operand.tmp 28, Go.Operand.tmp 34], argTypes := #[22, 22] }, type := 22, pos := "ref.go:146", after := #[{ on := 1, ground := Go.Ground.data }, { on := 7, ground := Go.Ground.data }], guard := none }) (by rfl) (fun K2 hK => ?_)
          obtain ⟨v2, w9, hrun, ho2, hb2⟩ := app_lks w8 22 (go + 1) (.slice Ar R.length cr) R.length (R.flatMap encL) HO.out (some ⟨g8, 0, none⟩) 1 1 [⟨ytx, ylo, yhi⟩] rfl (RowE.lit encL_len N8 (by simp [encL])) (fun h => by cases h) (by simp; omega) hz4
          refine step_app rfl _ _ 22 rfl _ _ rfl rfl hrun ?_
          replace HFx := Lib.hid (HFx.out.trans (hb2.mono (by omega)))
          replace BCx := Lib.hid (BCx.out.below hb2 (by omega))
          replace BRx := Lib.hid (BRx.out.below hb2 (by omega))
          replace BOx := Lib.hid (BOx.out.below hb2 (by omega))
          replace y0 : w9.cell? ⟨b0, off + j * 3, none⟩ = _ := (hb2.cell (p := ⟨b0, off + j * 3, none⟩) (by show b0 < go + 1; omega)).trans y0
          replace y1 : w9.cell? ⟨b0, off + j * 3 + 1, none⟩ = _ := (hb2.cell (p := ⟨b0, off + j * 3 + 1, none⟩) (by show b0 < go + 1; omega)).trans y1
          replace y2 : w9.cell? ⟨b0, off + j * 3 + 2, none⟩ = _ := (hb2.cell (p := ⟨b0, off + j * 3 + 2, none⟩) (by show b0 < go + 1; omega)).trans y2
          obtain ⟨A2, c2, rfl, _, _⟩ := own_slice ho2
          have HO2 : Hid (w9.ownsRow (go + 1) 26 3 (.slice A2 (R.length + 1) c2) (R ++ [(⟨ytx, ylo, yhi⟩ : Lk)]).length ((R ++ [(⟨ytx, ylo, yhi⟩ : Lk)]).flatMap encL)) := Lib.hid (by rw [List.flatMap_append, List.length_append]; exact ho2)
          simp only [List.length_cons, List.length_nil, Nat.zero_add]
          clear ho2 hb2 hrun HO N8
          refine hK.out _ _ (⟨⟨BCx.out.c 0 _ rfl, y0, y1, y2⟩, fun _ => BOx.out.c 0 _ rfl⟩) ?_
          clear hK K2
          try simp only [Act.put, List.setIfInBounds_toArray, List.set_cons_zero, List.set_cons_succ]
          refine stage_take (i := 9) (oi := { dst := some 36, op := Go.Op.fieldAddr 24 (Go.Operand.tmp 6) 0, type := 0, pos := "ref.go:146", after := #[{ on := 0, ground := Go.Ground.phase }, { on := 1, ground := Go.Ground.phase }, { on := 2, ground := Go.Ground.phase }, { on := 3, ground := Go.Ground.phase }, { on := 4, ground := Go.Ground.phase }, { on := 5, ground := Go.Ground.phase }, { on := 6, ground := Go.Ground.phase }, { on := 7, ground := Go.Ground.phase }, { on := 8, ground := Go.Ground.phase }], guard := none }) (v := ?_) (T := fun _ => True) rfl (by kernel_rfl) (by kernel_rfl) (by kernel_rfl) (by kernel_rfl) (fun _ _ _ h => h) (fun L' w' hW hS => trivial) (fun L' w' hS => ⟨hS.1, fun h => hS.2 (by rw [getD_set_ne false (by decide)]; exact h)⟩) (Or.inl ⟨by rfl, ?_⟩) trivial (⟨⟨BCx.out.c 0 _ rfl, y0, y1, y2⟩, fun _ => BOx.out.c 0 _ rfl⟩) ?_
          rotate_left 1
          · intro w9 _; go_simp; (try with_reducible rfl)
          try simp only [Act.put, List.setIfInBounds_toArray, List.set_cons_zero, List.set_cons_succ]
          refine stage_all (rs := [10]) (by kernel_rfl) (by simp) (fun i0 hi0 => ?_)
          obtain rfl : i0 = 10 := by simpa using hi0
          refine stage_step (S := fun (L' : Array Bool) (w' : World) => (w'.cell? ⟨w.heap.size, 0, none⟩ = some (.slice (some ⟨b0, off, none⟩) l.length c) ∧ w'.cell? ⟨b0, off + j * 3, none⟩ = some (.int .i64 ytx) ∧ w'.cell? ⟨b0, off + j * 3 + 1, none⟩ = some (.string ylo) ∧ w'.cell? ⟨b0, off + j * 3 + 2, none⟩ = some (.string yhi)) ∧ (L'.getD 10 false = false → w'.cell? ⟨go, 0, none⟩ = some (.slice Ar R.length cr))) (o := { dst := none, op := Go.Op.store 22 (Go.Operand.tmp 36) (Go.Operand.tmp 35), type := 0, pos := "ref.go:146", after := #[{ on := 9, ground := Go.Ground.data }, { on := 8, ground := Go.Ground.data }, { on := 8, ground := Go.Ground.chain }, { on := 0, ground := Go.Ground.phase }, { on := 1, ground := Go.Ground.phase }, { on := 2, ground := Go.Ground.phase }, { on := 3, ground := Go.Ground.phase }, { on := 4, ground := Go.Ground.phase }, { on := 5, ground := Go.Ground.phase }, { on := 6, ground := Go.Ground.phase }, { on := 7, ground := Go.Ground.phase }, { on := 8, ground := Go.Ground.phase }], guard := none }) (by rfl) (fun K2 hK => ?_)
          have cBOx0 := BOx.out.c 0 _ rfl; have fBOx0 := BOx.out.f 0 (by simp); have lBOx := BOx.out.lt
          go_simp
          clear cBOx0 fBOx0 lBOx
          replace HFx := Lib.hid (below_set (g := go) (j := 0) (v := (.slice A2 (R.length + 1) c2)) HFx.out (by omega))
          replace BOx : Hid (Box (w9.setCell ⟨go, 0, none⟩ (.slice A2 (R.length + 1) c2)) (go) [(.slice A2 (R.length + 1) c2)]) := Lib.hid (BOx.out.set 0 _ (by simp))
          replace BCx := Lib.hid (BCx.out.other ⟨go, 0, none⟩ (.slice A2 (R.length + 1) c2) (by show go ≠ w.heap.size; omega))
          replace BRx := Lib.hid (BRx.out.other ⟨go, 0, none⟩ (.slice A2 (R.length + 1) c2) (by show go ≠ w.heap.size + 1; omega))
          replace HO2 := Lib.hid (own_set HO2.out ⟨go, 0, none⟩ (.slice A2 (R.length + 1) c2) (by show go < go + 1; omega))
          replace y0 : (w9.setCell ⟨go, 0, none⟩ (.slice A2 (R.length + 1) c2)).cell? ⟨b0, off + j * 3, none⟩ = _ := (World.cell?_of_block (a := ⟨b0, off + j * 3, none⟩) (heap_setCell_other w9 ⟨go, 0, none⟩ b0 (.slice A2 (R.length + 1) c2) (by show b0 ≠ go; omega))).trans y0
          replace y1 : (w9.setCell ⟨go, 0, none⟩ (.slice A2 (R.length + 1) c2)).cell? ⟨b0, off + j * 3 + 1, none⟩ = _ := (World.cell?_of_block (a := ⟨b0, off + j * 3 + 1, none⟩) (heap_setCell_other w9 ⟨go, 0, none⟩ b0 (.slice A2 (R.length + 1) c2) (by show b0 ≠ go; omega))).trans y1
          replace y2 : (w9.setCell ⟨go, 0, none⟩ (.slice A2 (R.length + 1) c2)).cell? ⟨b0, off + j * 3 + 2, none⟩ = _ := (World.cell?_of_block (a := ⟨b0, off + j * 3 + 2, none⟩) (heap_setCell_other w9 ⟨go, 0, none⟩ b0 (.slice A2 (R.length + 1) c2) (by show b0 ≠ go; omega))).trans y2
          refine hK.out _ _ (⟨⟨BCx.out.c 0 _ rfl, y0, y1, y2⟩, fun h => by simp at h⟩) ?_
          clear hK K2
          try simp only [Act.put, List.setIfInBounds_toArray, List.set_cons_zero, List.set_cons_succ]
          generalize w9.setCell ⟨go, 0, none⟩ (.slice A2 (R.length + 1) c2) = w10 at *
          refine stage_done (by kernel_rfl) ?_ _
          go_wp2_with fail
          go_roundw
          case rel => exact ⟨j + 1, by omega, by go_num, HFx, BCx, BRx, R ++ [(⟨ytx, ylo, yhi⟩ : Lk)], _, Lib.hid (by rw [HR2.out, ht1]; rfl), BOx, HO2⟩
          case measure => simp [Lib.intOf]; omega
      · obtain rfl : j = l.length := by omega
        rw [List.take_length] at HRR
        have EE : Hid (g = (R, 0)) := Lib.hid (by rw [E3.out, HRR.out])
        clear HRR
        have cBCr0 := BCr.out.c 0 _ rfl; have fBCr0 := BCr.out.f 0 (by simp); have lBCr := BCr.out.lt; have cBRr0 := BRr.out.c 0 _ rfl; have fBRr0 := BRr.out.f 0 (by simp); have lBRr := BRr.out.lt; have cBOr0 := BOr.out.c 0 _ rfl; have fBOr0 := BOr.out.f 0 (by simp); have lBOr := BOr.out.lt
        go_wp2_with fail
        clear cBCr0 fBCr0 lBCr; clear cBRr0 fBRr0 lBRr; clear cBOr0 fBOr0 lBOr
        have HX := Lib.hid (below_set (g := w.heap.size + 1) (j := 0) (v := .slice Ar R.length cr) HFr.out (by omega))
        have BZ : Hid (Box (wr.setCell ⟨w.heap.size + 1, 0, none⟩ (.slice Ar R.length cr)) (w.heap.size + 1) [.slice Ar R.length cr]) := Lib.hid (BRr.out.set 0 (.slice Ar R.length cr) (by simp))
        have HV : Hid (∃ N, w.heap.size ≤ N ∧ (wr.setCell ⟨w.heap.size + 1, 0, none⟩ (.slice Ar R.length cr)).ownsRow N 26 3 (.slice Ar R.length cr) g.1.length (g.1.flatMap encL)) := Lib.hid (by rw [EE.out]; exact ⟨go + 1, by omega, own_set HOr.out ⟨w.heap.size + 1, 0, none⟩ _ (by show w.heap.size + 1 < go + 1; omega)⟩)
        generalize wr.setCell ⟨w.heap.size + 1, 0, none⟩ (.slice Ar R.length cr) = wz at *
        have cBZ0 := BZ.out.c 0 _ rfl
        refine bodyPost_ret (v := .tuple #[.agg #[.slice Ar R.length cr], .int .i64 0]) (by simp [results, Try.results22, go_sem, cBZ0]) rfl ?_
        refine ⟨_, ?_, HV.out, HX.out⟩
        rw [EE.out]

  · have EE := Lib.hid (E1.out (by trivial))
    clear E1 E2 CK RW
    have cBR0 := BR.out.c 0 _ rfl; have fBR0 := BR.out.f 0 (by simp); have lBR := BR.out.lt
    go_wp2_with fail
    clear cBR0 fBR0 lBR
    have HX := Lib.hid (below_set (g := w.heap.size + 1) (j := 0) (v := .slice none 0 0) HF.out (by omega))
    have BZ : Hid (Box (w1.setCell ⟨w.heap.size + 1, 0, none⟩ (.slice none 0 0)) (w.heap.size + 1) [.slice none 0 0]) := Lib.hid (BR.out.set 0 (.slice none 0 0) (by simp))
    have HV : Hid (∃ N, w.heap.size ≤ N ∧ (w1.setCell ⟨w.heap.size + 1, 0, none⟩ (.slice none 0 0)).ownsRow N 26 3 (.slice none 0 0) g.1.length (g.1.flatMap encL)) := Lib.hid (by rw [EE.out]; exact ⟨_, Nat.le_refl _, World.ownsRow_nil _ _ _ _⟩)
    generalize w1.setCell ⟨w.heap.size + 1, 0, none⟩ (.slice none 0 0) = wz at *
    have cBZ0 := BZ.out.c 0 _ rfl
    refine bodyPost_ret (v := .tuple #[.agg #[.slice none 0 0], .int .i64 9]) (by simp [results, Try.results22, go_sem, cBZ0]) rfl ?_
    refine ⟨_, ?_, HV.out, HX.out⟩
    rw [EE.out]
theorem rldrop_any (A : Option Addr) (c : Nat) (l : List Lk) (t : Int) (w : World) (HR : RowE encL 3 w A l) (hl : l.length * 40 ≤ 140737488351232) :
    Calls Try.prog 22 #[.agg #[.slice A l.length c], .int .i64 t] w fun e w' => ∃ v, e = .returned (.tuple #[.agg #[v], .int .i64 (dropL l t).2]) ∧ SlB encL 3 w.heap.size w' v (dropL l t).1 ∧ Below w.heap.size w w' := by
  refine (rldrop_own A c l t w HR hl).mono ?_
  rintro e w' ⟨v, he, ⟨N, hN, ho⟩, hb⟩
  exact ⟨v, he, SlB.of_own encL_len (by decide) hN ho, hb⟩

end Go.Proofs.Ytdiclnkkddnncaa
