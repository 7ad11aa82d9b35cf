/- Alike chains. -/
import Derived.Test.YtpkacnoimdjckaaAlike
import Derived.Test.YtpkacnoimdjckaaOfG
namespace Go.Proofs.Ytpkacnoimdjckaa
open Go.RowKit
open Go.Shelf
set_option linter.unusedVariables false
set_option linter.unusedSimpArgs false
set_option maxHeartbeats 4000000 in
set_option maxRecDepth 100000 in
theorem sameStrings_same (A B : Option Addr) (c d : Nat) (l : List ByteArray) (w : World) (HA : RowE encS 1 w A l) (HB : RowE encS 1 w B l) (hl : l.length ≤ 140737488355328) :
    Calls Try.prog 33 #[.slice A l.length c, .slice B l.length d] w fun e w' => e = .returned (.bool true) ∧ Below w.heap.size w w' := by
  have RA := Lib.hid HA
  have RB := Lib.hid HB
  clear HA HB
  go_enter Try.func33, Try.ntmps33
  go_wp2
  go_loopw [5] (fun i wr => ∃ j : Nat, j ≤ l.length ∧ i = .int .i64 j ∧ Hid (Below w.heap.size w wr)) (fun i _ => l.length - (Lib.intOf i).toNat)
  case atStart => exact ⟨0, Nat.zero_le _, rfl, Lib.hid (Below.refl _ _)⟩
  case round =>
    obtain ⟨j, hj, rfl, HF⟩ := hrel
    by_cases hlt : j < l.length
    · obtain ⟨x, hx⟩ : ∃ x, l[j]? = some x := ⟨_, List.getElem?_eq_getElem hlt⟩
      obtain ⟨b0, off, rfl, hb0, hc⟩ := RA.out.atE hx HF.out
      obtain ⟨b1, off1, rfl, hb1, hd⟩ := RB.out.atE hx HF.out
      have g0 := hc 0 _ rfl
      have e0 := hd 0 _ rfl
      simp only [Nat.add_zero, Nat.mul_one] at g0 e0
      clear hx hc hd
      have i1 : (j : Int) < (l.length : Int) := by omega
      go_wp2_with fail
      go_quiet (fail)
      go_wp2
      go_roundw
      case rel => exact ⟨j + 1, by omega, by go_num, Lib.hid (below_drewN HF.out _)⟩
      case measure => simp [Lib.intOf]; omega
    · obtain rfl : j = l.length := by omega
      go_wp2
      go_ret
      exact ⟨rfl, HF.out⟩
set_option maxHeartbeats 4000000 in
set_option maxRecDepth 100000 in
theorem galike_same (A1 A2 B1 B2 : Option Addr) (c1 c2 d1 d2 : Nat) (ks : List ByteArray) (ls : List (List Ver)) (w : World) (HA1 : RowE encS 1 w A1 ks) (HA2 : RowL w A2 ls) (HB1 : RowE encS 1 w B1 ks) (HB2 : RowL w B2 ls) (hk : ks.length ≤ 140737488351232) (hl : ls.length ≤ 140737488351232) (hls : ∀ l ∈ ls, l.length ≤ 140737488351232) :
    Calls Try.prog 12 #[.agg #[.slice A1 ks.length c1, .slice A2 ls.length c2], .agg #[.slice B1 ks.length d1, .slice B2 ls.length d2]] w fun e w' => e = .returned (.int .i64 0) ∧ Below w.heap.size w w' := by
  have h0 : Below w.heap.size w ((w.alloc (.cells #[.slice A1 ks.length c1, .slice A2 ls.length c2] 28)).alloc (.cells #[.slice B1 ks.length d1, .slice B2 ls.length d2] 25)) := (by (repeat (first | (with_reducible exact Below.refl _ _) | apply below_alloc _ (Nat.le_refl _) | refine below_set ?_ (by first | exact Nat.le_refl _ | omega) | apply below_drewN | refine below_step ?_ HB)))
  have BA := Lib.hid ((Box.new w #[.slice A1 ks.length c1, .slice A2 ls.length c2] 28).alloc (.cells #[.slice B1 ks.length d1, .slice B2 ls.length d2] 25))
  have BB := Lib.hid (Box.new (w.alloc (.cells #[.slice A1 ks.length c1, .slice A2 ls.length c2] 28)) #[.slice B1 ks.length d1, .slice B2 ls.length d2] 25)
  have HF := Lib.hid h0
  have RA := Lib.hid HA2
  have RB := Lib.hid HB2
  have HLS := Lib.hid hls
  simp only [World.size_alloc] at BB
  have hss := sameStrings_same A1 B1 c1 d1 ks _ (HA1.below h0) (HB1.below h0) (by omega)
  clear h0 HA1 HA2 HB1 HB2 hls
  go_enter Try.func12, Try.ntmps12
  have cBA0 := BA.out.c 0 _ rfl; have fBA0 := BA.out.f 0 (by simp); have cBA1 := BA.out.c 1 _ rfl; have fBA1 := BA.out.f 1 (by simp); have lBA := BA.out.lt; have cBB0 := BB.out.c 0 _ rfl; have fBB0 := BB.out.f 0 (by simp); have cBB1 := BB.out.c 1 _ rfl; have fBB1 := BB.out.f 1 (by simp); have lBB := BB.out.lt
  go_wp2_with fail
  clear cBA0 fBA0 cBA1 fBA1 lBA; clear cBB0 fBB0 cBB1 fBB1 lBB
  generalize (w.alloc (.cells #[.slice A1 ks.length c1, .slice A2 ls.length c2] 28)).alloc (.cells #[.slice B1 ks.length d1, .slice B2 ls.length d2] 25) = w0 at *
  refine hss.mono ?_; rintro e w1 ⟨rfl, h1⟩
  replace BA := Lib.hid (BA.out.below h1 BA.out.lt); replace BB := Lib.hid (BB.out.below h1 BB.out.lt); replace HF := Lib.hid (below_step' HF.out h1)
  clear hss h1
  have cBA0 := BA.out.c 0 _ rfl; have fBA0 := BA.out.f 0 (by simp); have cBA1 := BA.out.c 1 _ rfl; have fBA1 := BA.out.f 1 (by simp); have lBA := BA.out.lt; have cBB0 := BB.out.c 0 _ rfl; have fBB0 := BB.out.f 0 (by simp); have cBB1 := BB.out.c 1 _ rfl; have fBB1 := BB.out.f 1 (by simp); have lBB := BB.out.lt
  go_wp2_with fail
  clear cBA0 fBA0 cBA1 fBA1 lBA; clear cBB0 fBB0 cBB1 fBB1 lBB
  go_loopw [5] (fun s5 wr => ∃ j : Nat, j ≤ ls.length ∧ s5 = .int .i64 j ∧ Hid (Below w.heap.size w wr) ∧ Hid (Box wr w.heap.size [.slice A1 ks.length c1, .slice A2 ls.length c2]) ∧ Hid (Box wr (w.heap.size + 1) [.slice B1 ks.length d1, .slice B2 ls.length d2])) (fun s5 _ => ls.length - (Lib.intOf s5).toNat)
  case atStart => exact ⟨0, Nat.zero_le _, rfl, HF, BA, BB⟩
  case round =>
    obtain ⟨j, hj, rfl, HFr, BAr, BBr⟩ := hrel
    clear HF BA BB
    by_cases hlt : j < ls.length
    · obtain ⟨l, hl0⟩ : ∃ l, ls[j]? = some l := ⟨_, List.getElem?_eq_getElem hlt⟩
      obtain ⟨ba, oa, va, rfl, hba, hca, Aa, ca, rfl, _, hra, _⟩ := RA.out j l hl0
      obtain ⟨bb, ob, vb, rfl, hbb, hcb, Ab, cb, rfl, _, hrb, _⟩ := RB.out j l hl0
      have ga : wr.cell? ⟨ba, oa + j, none⟩ = some (.slice Aa l.length ca) := (HFr.out.cell (p := ⟨ba, oa + j, none⟩) hba).trans hca
      have gb : wr.cell? ⟨bb, ob + j, none⟩ = some (.slice Ab l.length cb) := (HFr.out.cell (p := ⟨bb, ob + j, none⟩) hbb).trans hcb
      have hji : (j : Int) < (ls.length : Int) := by omega
      have hll := HLS.out l (List.mem_of_getElem? hl0)
      clear hca hcb hl0
      have cBAr0 := BAr.out.c 0 _ rfl; have fBAr0 := BAr.out.f 0 (by simp); have cBAr1 := BAr.out.c 1 _ rfl; have fBAr1 := BAr.out.f 1 (by simp); have lBAr := BAr.out.lt; have cBBr0 := BBr.out.c 0 _ rfl; have fBBr0 := BBr.out.f 0 (by simp); have cBBr1 := BBr.out.c 1 _ rfl; have fBBr1 := BBr.out.f 1 (by simp); have lBBr := BBr.out.lt
      go_upto_region 6 with (fail)
      clear cBAr0 fBAr0 cBAr1 fBAr1 lBAr; clear cBBr0 fBBr0 cBBr1 fBBr1 lBBr
      refine stage_begin (S := fun (L' : Array Bool) (w' : World) => w'.cell? ⟨w.heap.size, 1, none⟩ = some (.slice (some ⟨ba, oa, none⟩) ls.length c2) ∧ w'.cell? ⟨w.heap.size + 1, 1, none⟩ = some (.slice (some ⟨bb, ob, none⟩) ls.length d2) ∧ w'.cell? ⟨ba, oa + j, none⟩ = some (.slice Aa l.length ca) ∧ w'.cell? ⟨bb, ob + j, none⟩ = some (.slice Ab l.length cb)) (by kernel_rfl) ?_
      have HFx : Hid (Below w.heap.size w wr.drew) := Lib.hid (below_drewN HFr.out 1)
      have BAx := Lib.hid BAr.out.drew
      have BBx := Lib.hid BBr.out.drew
      have hS0 : (fun w' : World => w'.cell? ⟨w.heap.size, 1, none⟩ = some (.slice (some ⟨ba, oa, none⟩) ls.length c2) ∧ w'.cell? ⟨w.heap.size + 1, 1, none⟩ = some (.slice (some ⟨bb, ob, none⟩) ls.length d2) ∧ w'.cell? ⟨ba, oa + j, none⟩ = some (.slice Aa l.length ca) ∧ w'.cell? ⟨bb, ob + j, none⟩ = some (.slice Ab l.length cb)) wr.drew := ⟨BAx.out.c 1 _ rfl, BBx.out.c 1 _ rfl, ga, gb⟩
      have hal := alike_same Aa Ab ca cb l wr.drew (hra.below HFx.out) (hrb.below HFx.out) (by omega)
      clear ga gb HFr BAr BBr
      generalize wr.drew = wd at *
      refine stage_take (i := 0) (oi := { dst := some 28, op := Go.Op.fieldAddr 28 (Go.Operand.tmp 2) 1, type := 0, pos := "law.go:30", after := #[], guard := none }) (v := ?_) (T := fun _ => True) rfl (by kernel_rfl) (by kernel_rfl) (by kernel_rfl) (by kernel_rfl) (fun _ _ _ h => h) (fun L' w' hW hS => trivial) (fun L' w' hS => hS) (Or.inl ⟨by rfl, ?_⟩) trivial (hS0) ?_
      rotate_left 1
      · intro w9 _; go_simp; (try with_reducible rfl)
      try simp only [Act.put, List.setIfInBounds_toArray, List.set_cons_zero, List.set_cons_succ]
      refine stage_take (i := 1) (oi := { dst := some 29, op := Go.Op.load 26 (Go.Operand.tmp 28), type := 26, pos := "law.go:30", after := #[{ on := 0, ground := Go.Ground.data }], guard := none }) (v := ?_) (T := fun w' : World => w'.cell? ⟨w.heap.size, 1, none⟩ = some (.slice (some ⟨ba, oa, none⟩) ls.length c2) ∧ w'.cell? ⟨w.heap.size + 1, 1, none⟩ = some (.slice (some ⟨bb, ob, none⟩) ls.length d2) ∧ w'.cell? ⟨ba, oa + j, none⟩ = some (.slice Aa l.length ca) ∧ w'.cell? ⟨bb, ob + j, none⟩ = some (.slice Ab l.length cb)) rfl (by kernel_rfl) (by kernel_rfl) (by kernel_rfl) (by kernel_rfl) (fun _ _ _ h => h) (fun L' w' hW hS => hS) (fun L' w' hS => hS) (Or.inl ⟨by rfl, ?_⟩) (hS0) (hS0) ?_
      rotate_left 1
      · intro w9 hS9; obtain ⟨z0, z1, z2, z3⟩ := hS9; go_simp; (try with_reducible rfl)
      try simp only [Act.put, List.setIfInBounds_toArray, List.set_cons_zero, List.set_cons_succ]
      refine stage_take (i := 2) (oi := { dst := some 30, op := Go.Op.move (Go.Operand.tmp 5), type := 3, pos := "law.go:30", after := #[], guard := none }) (v := ?_) (T := fun _ => True) rfl (by kernel_rfl) (by kernel_rfl) (by kernel_rfl) (by kernel_rfl) (fun _ _ _ h => h) (fun L' w' hW hS => trivial) (fun L' w' hS => hS) (Or.inl ⟨by rfl, ?_⟩) trivial (hS0) ?_
      rotate_left 1
      · intro w9 _; go_simp; (try with_reducible rfl)
      try simp only [Act.put, List.setIfInBounds_toArray, List.set_cons_zero, List.set_cons_succ]
      refine stage_take (i := 3) (oi := { dst := some 31, op := Go.Op.indexAddr 26 (Go.Operand.tmp 29) (Go.Operand.tmp 30), type := 0, pos := "law.go:30", after := #[{ on := 1, ground := Go.Ground.data }, { on := 2, ground := Go.Ground.data }], guard := none }) (v := ?_) (T := fun _ => True) rfl (by kernel_rfl) (by kernel_rfl) (by kernel_rfl) (by kernel_rfl) (fun _ _ _ h => h) (fun L' w' hW hS => trivial) (fun L' w' hS => hS) (Or.inl ⟨by rfl, ?_⟩) trivial (hS0) ?_
      rotate_left 1
      · intro w9 _; go_simp; (try with_reducible rfl)
      try simp only [Act.put, List.setIfInBounds_toArray, List.set_cons_zero, List.set_cons_succ]
      refine stage_take (i := 4) (oi := { dst := some 32, op := Go.Op.load 44 (Go.Operand.tmp 31), type := 44, pos := "law.go:30", after := #[{ on := 3, ground := Go.Ground.data }], guard := none }) (v := ?_) (T := fun w' : World => w'.cell? ⟨w.heap.size, 1, none⟩ = some (.slice (some ⟨ba, oa, none⟩) ls.length c2) ∧ w'.cell? ⟨w.heap.size + 1, 1, none⟩ = some (.slice (some ⟨bb, ob, none⟩) ls.length d2) ∧ w'.cell? ⟨ba, oa + j, none⟩ = some (.slice Aa l.length ca) ∧ w'.cell? ⟨bb, ob + j, none⟩ = some (.slice Ab l.length cb)) rfl (by kernel_rfl) (by kernel_rfl) (by kernel_rfl) (by kernel_rfl) (fun _ _ _ h => h) (fun L' w' hW hS => hS) (fun L' w' hS => hS) (Or.inl ⟨by rfl, ?_⟩) (hS0) (hS0) ?_
      rotate_left 1
      · intro w9 hS9; obtain ⟨z0, z1, z2, z3⟩ := hS9; go_simp; (try with_reducible rfl)
      try simp only [Act.put, List.setIfInBounds_toArray, List.set_cons_zero, List.set_cons_succ]
      refine stage_take (i := 5) (oi := { dst := some 33, op := Go.Op.fieldAddr 25 (Go.Operand.tmp 3) 1, type := 0, pos := "law.go:30", after := #[], guard := none }) (v := ?_) (T := fun _ => True) rfl (by kernel_rfl) (by kernel_rfl) (by kernel_rfl) (by kernel_rfl) (fun _ _ _ h => h) (fun L' w' hW hS => trivial) (fun L' w' hS => hS) (Or.inl ⟨by rfl, ?_⟩) trivial (hS0) ?_
      rotate_left 1
      · intro w9 _; go_simp; (try with_reducible rfl)
      try simp only [Act.put, List.setIfInBounds_toArray, List.set_cons_zero, List.set_cons_succ]
      refine stage_take (i := 6) (oi := { dst := some 34, op := Go.Op.load 23 (Go.Operand.tmp 33), type := 23, pos := "law.go:30", after := #[{ on := 5, ground := Go.Ground.data }], guard := none }) (v := ?_) (T := fun w' : World => w'.cell? ⟨w.heap.size, 1, none⟩ = some (.slice (some ⟨ba, oa, none⟩) ls.length c2) ∧ w'.cell? ⟨w.heap.size + 1, 1, none⟩ = some (.slice (some ⟨bb, ob, none⟩) ls.length d2) ∧ w'.cell? ⟨ba, oa + j, none⟩ = some (.slice Aa l.length ca) ∧ w'.cell? ⟨bb, ob + j, none⟩ = some (.slice Ab l.length cb)) rfl (by kernel_rfl) (by kernel_rfl) (by kernel_rfl) (by kernel_rfl) (fun _ _ _ h => h) (fun L' w' hW hS => hS) (fun L' w' hS => hS) (Or.inl ⟨by rfl, ?_⟩) (hS0) (hS0) ?_
      rotate_left 1
      · intro w9 hS9; obtain ⟨z0, z1, z2, z3⟩ := hS9; go_simp; (try with_reducible rfl)
      try simp only [Act.put, List.setIfInBounds_toArray, List.set_cons_zero, List.set_cons_succ]
      refine stage_take (i := 7) (oi := { dst := some 35, op := Go.Op.move (Go.Operand.tmp 5), type := 3, pos := "law.go:30", after := #[], guard := none }) (v := ?_) (T := fun _ => True) rfl (by kernel_rfl) (by kernel_rfl) (by kernel_rfl) (by kernel_rfl) (fun _ _ _ h => h) (fun L' w' hW hS => trivial) (fun L' w' hS => hS) (Or.inl ⟨by rfl, ?_⟩) trivial (hS0) ?_
      rotate_left 1
      · intro w9 _; go_simp; (try with_reducible rfl)
      try simp only [Act.put, List.setIfInBounds_toArray, List.set_cons_zero, List.set_cons_succ]
      refine stage_take (i := 8) (oi := { dst := some 36, op := Go.Op.indexAddr 23 (Go.Operand.tmp 34) (Go.Operand.tmp 35), type := 0, pos := "law.go:30", after := #[{ on := 6, ground := Go.Ground.data }, { on := 7, ground := Go.Ground.data }], guard := none }) (v := ?_) (T := fun _ => True) rfl (by kernel_rfl) (by kernel_rfl) (by kernel_rfl) (by kernel_rfl) (fun _ _ _ h => h) (fun L' w' hW hS => trivial) (fun L' w' hS => hS) (Or.inl ⟨by rfl, ?_⟩) trivial (hS0) ?_
      rotate_left 1
      · intro w9 _; go_simp; (try with_reducible rfl)
      try simp only [Act.put, List.setIfInBounds_toArray, List.set_cons_zero, List.set_cons_succ]
      refine stage_take (i := 9) (oi := { dst := some 37, op := Go.Op.load 39 (Go.Operand.tmp 36), type := 39, pos := "law.go:30", after := #[{ on := 8, ground := Go.Ground.data }], guard := none }) (v := ?_) (T := fun w' : World => w'.cell? ⟨w.heap.size, 1, none⟩ = some (.slice (some ⟨ba, oa, none⟩) ls.length c2) ∧ w'.cell? ⟨w.heap.size + 1, 1, none⟩ = some (.slice (some ⟨bb, ob, none⟩) ls.length d2) ∧ w'.cell? ⟨ba, oa + j, none⟩ = some (.slice Aa l.length ca) ∧ w'.cell? ⟨bb, ob + j, none⟩ = some (.slice Ab l.length cb)) rfl (by kernel_rfl) (by kernel_rfl) (by kernel_rfl) (by kernel_rfl) (fun _ _ _ h => h) (fun L' w' hW hS => hS) (fun L' w' hS => hS) (Or.inl ⟨by rfl, ?_⟩) (hS0) (hS0) ?_
      rotate_left 1
      · intro w9 hS9; obtain ⟨z0, z1, z2, z3⟩ := hS9; go_simp; (try with_reducible rfl)
      try simp only [Act.put, List.setIfInBounds_toArray, List.set_cons_zero, List.set_cons_succ]
      refine stage_all (rs := [10]) (by kernel_rfl) (by simp) (fun i0 hi0 => ?_)
      obtain rfl : i0 = 10 := by simpa using hi0
      refine stage_step (S := fun (L' : Array Bool) (w' : World) => w'.cell? ⟨w.heap.size, 1, none⟩ = some (.slice (some ⟨ba, oa, none⟩) ls.length c2) ∧ w'.cell? ⟨w.heap.size + 1, 1, none⟩ = some (.slice (some ⟨bb, ob, none⟩) ls.length d2) ∧ w'.cell? ⟨ba, oa + j, none⟩ = some (.slice Aa l.length ca) ∧ w'.cell? ⟨bb, ob + j, none⟩ = some (.slice Ab l.length cb)) (o := { dst := some 38, op := Go.Op.call { callee := Go.Callee.value (Go.Operand.func 34), args := #[Go.Operand.tmp 32, Go.Operand.tmp 37], argTypes := #[44, 39] }, type := 3, pos := "law.go:30", after := #[{ on := 4, ground := Go.Ground.data }, { on := 9, ground := Go.Ground.data }], guard := none }) (by rfl) (fun K2 hK => ?_)
      go_simp
      go_wp2_with (go_at_call 34; (with_reducible refine hal.mono ?_); rintro e w2 ⟨rfl, h2⟩)
      have hS2 : (fun w' : World => w'.cell? ⟨w.heap.size, 1, none⟩ = some (.slice (some ⟨ba, oa, none⟩) ls.length c2) ∧ w'.cell? ⟨w.heap.size + 1, 1, none⟩ = some (.slice (some ⟨bb, ob, none⟩) ls.length d2) ∧ w'.cell? ⟨ba, oa + j, none⟩ = some (.slice Aa l.length ca) ∧ w'.cell? ⟨bb, ob + j, none⟩ = some (.slice Ab l.length cb)) w2 := ⟨(h2.cell (World.block_lt_of_cell? _ _ hS0.1)).trans hS0.1, (h2.cell (World.block_lt_of_cell? _ _ hS0.2.1)).trans hS0.2.1, (h2.cell (World.block_lt_of_cell? _ _ hS0.2.2.1)).trans hS0.2.2.1, (h2.cell (World.block_lt_of_cell? _ _ hS0.2.2.2)).trans hS0.2.2.2⟩
      replace BAx := Lib.hid (BAx.out.below h2 BAx.out.lt); replace BBx := Lib.hid (BBx.out.below h2 BBx.out.lt); replace HFx := Lib.hid (below_step' HFx.out h2)
      clear hal h2 hS0
      refine hK.out _ _ (hS2) ?_
      clear hK K2
      try simp only [Act.put, List.setIfInBounds_toArray, List.set_cons_zero, List.set_cons_succ]
      refine stage_take (i := 11) (oi := { dst := some 39, op := Go.Op.binOp Go.BinOp.neq 3 (Go.Operand.tmp 38) (Go.Operand.const (Go.Value.int Go.IntKind.i64 0)) 3, type := 4, pos := "law.go:30", after := #[{ on := 10, ground := Go.Ground.data }], guard := none }) (v := ?_) (T := fun _ => True) rfl (by kernel_rfl) (by kernel_rfl) (by kernel_rfl) (by kernel_rfl) (fun _ _ _ h => h) (fun L' w' hW hS => trivial) (fun L' w' hS => hS) (Or.inl ⟨by rfl, ?_⟩) trivial (hS2) ?_
      rotate_left 1
      · intro w9 _; go_simp; (try with_reducible rfl)
      try simp only [Act.put, List.setIfInBounds_toArray, List.set_cons_zero, List.set_cons_succ]
      refine stage_done (by kernel_rfl) ?_ _
      clear hS2
      go_wp2_with fail
      go_roundw
      case rel => exact ⟨j + 1, by omega, by go_num, HFx, BAx, BBx⟩
      case measure => simp [Lib.intOf]; omega
    · obtain rfl : j = ls.length := by omega
      have cBAr0 := BAr.out.c 0 _ rfl; have fBAr0 := BAr.out.f 0 (by simp); have cBAr1 := BAr.out.c 1 _ rfl; have fBAr1 := BAr.out.f 1 (by simp); have lBAr := BAr.out.lt; have cBBr0 := BBr.out.c 0 _ rfl; have fBBr0 := BBr.out.f 0 (by simp); have cBBr1 := BBr.out.c 1 _ rfl; have fBBr1 := BBr.out.f 1 (by simp); have lBBr := BBr.out.lt
      go_wp2_with fail
      go_ret
      exact ⟨rfl, HFr.out⟩
end Go.Proofs.Ytpkacnoimdjckaa
