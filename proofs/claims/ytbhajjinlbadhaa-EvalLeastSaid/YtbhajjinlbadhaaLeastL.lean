/- The law EvalLeast: its walk. -/
import Derived.Test.YtbhajjinlbadhaaAliveE
import Derived.Test.YtbhajjinlbadhaaLeastP
import Derived.Test.YtbhajjinlbadhaaTail
import Derived.Deep.RegionHeld3
namespace Go.Proofs.Ytbhajjinlbadhaa
open Go.RowKit
open Go.Shelf
set_option linter.unusedVariables false
set_option linter.unusedSimpArgs false
attribute [local go_sem high] eqVal
theorem cell_set_ne {W : World} {p a : Addr} {u v : Value} (hne : a.block ≠ p.block) (h : W.cell? a = some v) : (W.setCell p u).cell? a = some v := (World.cell?_of_block (a := a) (heap_setCell_other W p a.block u hne)).trans h
theorem cell_set_drew {W : World} {p a : Addr} {u v : Value} (hne : a.block ≠ p.block) (h : W.cell? a = some v) : (W.setCell p u).drew.cell? a = some v := cell_set_ne hne h
theorem held_drew {P : Program} {id : Nat} {ops : Array Oper} {Q : Exit → Act → World → Prop} {S : World → Prop} {a : Act} {w : World} (hm : P.follows .mixedOrders = true)
    (h : wpAnyH P .any ops Q S ops.size (Array.replicate ops.size false) a w.drew) : (Code.region id ops true).wp P Q a w := wp_region_held hm h
theorem below_drew {B : Nat} {w W : World} (h : Below B w W) : Below B w W.drew := ⟨h.os, h.tape, h.output, h.size, h.block⟩
set_option maxHeartbeats 8000000 in
set_option maxRecDepth 100000 in
theorem least_law (A : Option Addr) (c : Nat) (l : List V) (w : World) (HR : RowE encU 3 w A l) (hn : A = none → c = 0) (hl : l.length ≤ 4398046510976) :
    Calls Try.prog 4 #[.slice A l.length c] w fun e w' => e = .returned (.bool true) ∧ Below w.heap.size w w' := by
  have RL := Lib.hid HR
  obtain ⟨P1, P2, P3⟩ := fold_end l
  have HP1 := Lib.hid P1
  have HP2 := Lib.hid P2
  have HP3 := Lib.hid P3
  have hfa := fun W h => foldB_any 21 (.inl rfl) A c l W h hn hl
  have hfb := fun W h => foldB_any 22 (.inr rfl) A c l W h hn hl
  clear HR P1 P2 P3
  generalize hva : foldB 21 l = va at *
  generalize hvb : foldB 22 l = vb at *
  clear hva hvb
  go_enter Try.func4, Try.ntmps4
  go_wp2_with fail
  refine (alive_any _).mono ?_; rintro e w1 ⟨rfl, h1⟩
  have HF := Lib.hid h1
  replace RL := Lib.hid (RL.out.below h1)
  clear h1
  go_wp2_with fail
  refine (hfa _ RL.out).mono ?_; rintro e w2 ⟨rfl, h2⟩
  have BA := Lib.hid (Box.new w2 #[.int .i64 va.k, .int .i64 va.n, .string va.s] 23)
  replace RL := Lib.hid (RL.out.below (Below.alloc h2 h2.size (.cells #[.int .i64 va.k, .int .i64 va.n, .string va.s] 23)))
  replace HF := Lib.hid (below_step' HF.out (Below.alloc h2 h2.size (.cells #[.int .i64 va.k, .int .i64 va.n, .string va.s] 23)))
  clear h2 hfa
  go_wp2_with fail
  refine (hfb _ RL.out).mono ?_; rintro e w3 ⟨rfl, h3⟩
  have BB := Lib.hid (Box.new w3 #[.int .i64 vb.k, .int .i64 vb.n, .string vb.s] 23)
  replace BA := Lib.hid ((BA.out.step h3).alloc (.cells #[.int .i64 vb.k, .int .i64 vb.n, .string vb.s] 23))
  replace RL := Lib.hid (RL.out.below (Below.alloc h3 h3.size (.cells #[.int .i64 vb.k, .int .i64 vb.n, .string vb.s] 23)))
  replace HF := Lib.hid (below_step' HF.out (Below.alloc h3 h3.size (.cells #[.int .i64 vb.k, .int .i64 vb.n, .string vb.s] 23)))
  clear h3 hfb
  go_upto_region 7 with ((with_reducible refine (num08_any _ _).mono ?_); rintro e wn ⟨rfl, rfl⟩)
  generalize w2.heap.size = ba at *
  generalize w3.heap.size = bb at *
  generalize w3.alloc (.cells #[.int .i64 vb.k, .int .i64 vb.n, .string vb.s] 23) = w4 at *
  go_wp2_with fail
  have HI := Lib.hid (Box.new w4 #[.bool false, .bool false] 35)
  have H45 := Lib.hid ((Below.refl w4.heap.size w4).alloc (Nat.le_refl _) (.cells #[.bool false, .bool false] 35))
  have hba := BA.out.lt
  have hbb := BB.out.lt
  have hzi := HF.out.size
  generalize hbi : w4.heap.size = bi at *
  generalize w4.alloc (.cells #[.bool false, .bool false] 35) = w5 at *
  have HBI0 := Lib.hid hbi
  clear hbi
  go_loopw [8, 9] (fun s8 s9 wr => ∃ j : Nat, j ≤ l.length ∧ s9 = .int .i64 j ∧ s8 = .bool (someV (l.take j)) ∧ Hid (Below bi w4 wr) ∧ Hid (Box wr bi [.bool (inV (l.take j) va), .bool (inV (l.take j) vb)])) (fun _ s9 _ => l.length - (Lib.intOf s9).toNat)
  case atStart => exact ⟨0, Nat.zero_le _, rfl, by simp [someV, knownV], H45, by simpa [inV, knownV] using HI⟩
  case round =>
    obtain ⟨j, hj, rfl, rfl, HFr, HB⟩ := hrel
    clear HI H45
    have hb4 : Below w4.heap.size w4 wr := by rw [HBI0.out]; exact HFr.out
    have BAr := Lib.hid (BA.out.step hb4)
    have BBr := Lib.hid (BB.out.step hb4)
    have hbr := HB.out.lt
    by_cases hlt : j < l.length
    · obtain ⟨x, hx⟩ : ∃ x, l[j]? = some x := ⟨_, List.getElem?_eq_getElem hlt⟩
      obtain ⟨b0, off, rfl, hb0, hc⟩ := RL.out.atE hx hb4
      have g0 := hc 0 _ rfl
      have g1 := hc 1 _ rfl
      have g2 := hc 2 _ rfl
      simp only [Nat.add_zero] at g0
      have hb0' : b0 < bi := by have := HBI0.out; omega
      have hb0r : b0 < wr.heap.size := World.block_lt_of_cell? _ _ g0
      clear hc hb4
      by_cases hk : x.k = 0
      · obtain ⟨e1, e2⟩ := in_skip hx hk va
        have e3 := (in_skip hx hk vb).1
        have E1 := Lib.hid e1
        have E2 := Lib.hid e2
        have E3 := Lib.hid e3
        clear e1 e2 e3 hx
        go_wp2
        go_roundw
        case rel => exact ⟨j + 1, by omega, by go_num, by rw [E2.out], HFr, by rw [E1.out, E3.out]; exact HB⟩
        case measure => simp [Lib.intOf]; omega
      · obtain ⟨e1, e2⟩ := in_take hx hk va
        have e3 := (in_take hx hk vb).1
        have E1 := Lib.hid e1
        have E2 := Lib.hid e2
        have E3 := Lib.hid e3
        have ho := HP3.out x (List.mem_of_getElem? hx) hk
        have hsa : x.same va = sameB x.k x.n x.s va.k va.n va.s := rfl
        have hsb : x.same vb = sameB x.k x.n x.s vb.k vb.n vb.s := rfl
        rw [hsa] at E1
        rw [hsb] at E3
        have hod1 := fun W => order_any x.k x.n x.s va.k va.n va.s W
        have hod2 := fun W => order_any x.k x.n x.s vb.k vb.n vb.s W
        rw [show vorder ⟨x.k, x.n, x.s⟩ ⟨va.k, va.n, va.s⟩ = vorder x va from rfl] at hod1
        rw [show vorder ⟨x.k, x.n, x.s⟩ ⟨vb.k, vb.n, vb.s⟩ = vorder x vb from rfl] at hod2
        obtain ⟨ho1, ho2⟩ := ho
        generalize vorder x va = o1 at *
        generalize vorder x vb = o2 at *
        have O1 := Lib.hid hod1
        have O2 := Lib.hid hod2
        have ho1' : decide (o1 < 0) = false := decide_eq_false (by omega)
        have ho2' : decide (0 < o2) = false := decide_eq_false (by omega)
        clear e1 e2 e3 hx hod1 hod2 hsa hsb ho1 ho2
        have hk' : (x.k == 0) = false := by simpa using hk
        obtain ⟨xk, xn, xs⟩ := x
        obtain ⟨ak, an, at_⟩ := va
        obtain ⟨bk, bn, bt_⟩ := vb
        dsimp only at *
        generalize hs0 : sameB xk xn xs ak an at_ = s0 at *
        generalize hs1 : sameB xk xn xs bk bn bt_ = s1 at *
        generalize inV (l.take j) ⟨ak, an, at_⟩ = i0 at *
        generalize inV (l.take j) ⟨bk, bn, bt_⟩ = i1 at *
        have cBAr0 := BAr.out.c 0 _ rfl; have fBAr0 := BAr.out.f 0 (by simp); have cBAr1 := BAr.out.c 1 _ rfl; have fBAr1 := BAr.out.f 1 (by simp); have cBAr2 := BAr.out.c 2 _ rfl; have fBAr2 := BAr.out.f 2 (by simp); have lBAr := BAr.out.lt; have cBBr0 := BBr.out.c 0 _ rfl; have fBBr0 := BBr.out.f 0 (by simp); have cBBr1 := BBr.out.c 1 _ rfl; have fBBr1 := BBr.out.f 1 (by simp); have cBBr2 := BBr.out.c 2 _ rfl; have fBBr2 := BBr.out.f 2 (by simp); have lBBr := BBr.out.lt; have cHB0 := HB.out.c 0 _ rfl; have fHB0 := HB.out.f 0 (by simp); have cHB1 := HB.out.c 1 _ rfl; have fHB1 := HB.out.f 1 (by simp); have lHB := HB.out.lt
        go_upto_region 13 with (fail)
        have n1 : b0 ≠ bi := by omega
        have n2 : ba ≠ bi := by omega
        have n3 : bb ≠ bi := by omega
        have hj0 : (0 : Int) ≤ (j : Int) := by omega
        have hj1 : (j : Int) < (l.length : Int) := by omega
        go_cut [50] (fun s50 wx => Hid (Below bi w4 wx) ∧ Hid (Box wx bi [.bool (i0 || s0), .bool (i1 || s1)]))
        case first =>
          cases i0 <;> cases i1
          case true.true =>
            refine held_drew (S := fun w' : World => w'.cell? ⟨b0, off + j * 3, none⟩ = some (.int .i64 xk) ∧ w'.cell? ⟨b0, off + j * 3 + 1, none⟩ = some (.int .i64 xn) ∧ w'.cell? ⟨b0, off + j * 3 + 2, none⟩ = some (.string xs) ∧ w'.cell? ⟨ba, 0, none⟩ = some (.int .i64 ak) ∧ w'.cell? ⟨ba, 1, none⟩ = some (.int .i64 an) ∧ w'.cell? ⟨ba, 2, none⟩ = some (.string at_) ∧ w'.cell? ⟨bb, 0, none⟩ = some (.int .i64 bk) ∧ w'.cell? ⟨bb, 1, none⟩ = some (.int .i64 bn) ∧ w'.cell? ⟨bb, 2, none⟩ = some (.string bt_) ∧ w'.cell? ⟨bi, 0, none⟩ = some (.bool true) ∧ w'.cell? ⟨bi, 1, none⟩ = some (.bool true)) (by kernel_rfl) ?_
            have hS : (fun w' : World => w'.cell? ⟨b0, off + j * 3, none⟩ = some (.int .i64 xk) ∧ w'.cell? ⟨b0, off + j * 3 + 1, none⟩ = some (.int .i64 xn) ∧ w'.cell? ⟨b0, off + j * 3 + 2, none⟩ = some (.string xs) ∧ w'.cell? ⟨ba, 0, none⟩ = some (.int .i64 ak) ∧ w'.cell? ⟨ba, 1, none⟩ = some (.int .i64 an) ∧ w'.cell? ⟨ba, 2, none⟩ = some (.string at_) ∧ w'.cell? ⟨bb, 0, none⟩ = some (.int .i64 bk) ∧ w'.cell? ⟨bb, 1, none⟩ = some (.int .i64 bn) ∧ w'.cell? ⟨bb, 2, none⟩ = some (.string bt_) ∧ w'.cell? ⟨bi, 0, none⟩ = some (.bool true) ∧ w'.cell? ⟨bi, 1, none⟩ = some (.bool true)) wr.drew := ⟨g0, g1, g2, cBAr0, cBAr1, cBAr2, cBBr0, cBBr1, cBBr2, cHB0, cHB1⟩
            refine wpAnyH_take (i := 0) (oi := { dst := some 41, op := Op.indexAddr 35 (Operand.tmp 7) (Operand.const (Value.int IntKind.i64 0)), type := 0, pos := "law.go:108", after := #[], guard := none }) (v := ?_) rfl (by kernel_rfl) (by kernel_rfl) (by kernel_rfl) (fun _ _ _ h => h) (Or.inl ⟨by rfl, ?_⟩) hS ?_
            rotate_left 1
            · intro w9 hS9; obtain ⟨z0, z1, z2, z3, z4, z5, z6, z7, z8, z9, z10⟩ := hS9; go_simp; (try with_reducible rfl)
            simp only [Act.put, List.setIfInBounds_toArray, List.set_cons_zero, List.set_cons_succ]
            refine wpAnyH_take (i := 1) (oi := { dst := some 42, op := Op.load 4 (Operand.tmp 41), type := 4, pos := "law.go:108", after := #[{ on := 0, ground := Ground.data }], guard := none }) (v := ?_) rfl (by kernel_rfl) (by kernel_rfl) (by kernel_rfl) (fun _ _ _ h => h) (Or.inl ⟨by rfl, ?_⟩) hS ?_
            rotate_left 1
            · intro w9 hS9; obtain ⟨z0, z1, z2, z3, z4, z5, z6, z7, z8, z9, z10⟩ := hS9; go_simp; (try with_reducible rfl)
            simp only [Act.put, List.setIfInBounds_toArray, List.set_cons_zero, List.set_cons_succ]
            refine wpAnyH_take (i := 2) (oi := { dst := some 43, op := Op.move (Operand.tmp 42), type := 4, pos := "law.go:108", after := #[{ on := 1, ground := Ground.data }], guard := none }) (v := ?_) rfl (by kernel_rfl) (by kernel_rfl) (by kernel_rfl) (fun _ _ _ h => h) (Or.inl ⟨by rfl, ?_⟩) hS ?_
            rotate_left 1
            · intro w9 hS9; obtain ⟨z0, z1, z2, z3, z4, z5, z6, z7, z8, z9, z10⟩ := hS9; go_simp; (try with_reducible rfl)
            simp only [Act.put, List.setIfInBounds_toArray, List.set_cons_zero, List.set_cons_succ]
            refine wpAnyH_take (i := 3) (oi := { dst := some 44, op := Op.move (Operand.tmp 0), type := 27, pos := "law.go:108", after := #[{ on := 2, ground := Ground.guard }], guard := some (2, false) }) (v := undef) rfl (by kernel_rfl) (by kernel_rfl) (by kernel_rfl) (fun _ _ _ h => h) (Or.inr ⟨by rfl, rfl⟩) hS ?_
            simp only [Act.put, List.setIfInBounds_toArray, List.set_cons_zero, List.set_cons_succ]
            refine wpAnyH_take (i := 4) (oi := { dst := some 45, op := Op.move (Operand.tmp 9), type := 3, pos := "law.go:108", after := #[{ on := 2, ground := Ground.guard }], guard := some (2, false) }) (v := undef) rfl (by kernel_rfl) (by kernel_rfl) (by kernel_rfl) (fun _ _ _ h => h) (Or.inr ⟨by rfl, rfl⟩) hS ?_
            simp only [Act.put, List.setIfInBounds_toArray, List.set_cons_zero, List.set_cons_succ]
            refine wpAnyH_take (i := 5) (oi := { dst := some 46, op := Op.indexAddr 27 (Operand.tmp 44) (Operand.tmp 45), type := 0, pos := "law.go:108", after := #[{ on := 3, ground := Ground.data }, { on := 4, ground := Ground.data }, { on := 2, ground := Ground.guard }], guard := some (2, false) }) (v := undef) rfl (by kernel_rfl) (by kernel_rfl) (by kernel_rfl) (fun _ _ _ h => h) (Or.inr ⟨by rfl, rfl⟩) hS ?_
            simp only [Act.put, List.setIfInBounds_toArray, List.set_cons_zero, List.set_cons_succ]
            refine wpAnyH_take (i := 6) (oi := { dst := some 47, op := Op.load 23 (Operand.tmp 46), type := 23, pos := "law.go:108", after := #[{ on := 5, ground := Ground.data }, { on := 2, ground := Ground.guard }], guard := some (2, false) }) (v := undef) rfl (by kernel_rfl) (by kernel_rfl) (by kernel_rfl) (fun _ _ _ h => h) (Or.inr ⟨by rfl, rfl⟩) hS ?_
            simp only [Act.put, List.setIfInBounds_toArray, List.set_cons_zero, List.set_cons_succ]
            refine wpAnyH_take (i := 7) (oi := { dst := some 48, op := Op.load 23 (Operand.tmp 3), type := 23, pos := "law.go:108", after := #[{ on := 2, ground := Ground.guard }], guard := some (2, false) }) (v := undef) rfl (by kernel_rfl) (by kernel_rfl) (by kernel_rfl) (fun _ _ _ h => h) (Or.inr ⟨by rfl, rfl⟩) hS ?_
            simp only [Act.put, List.setIfInBounds_toArray, List.set_cons_zero, List.set_cons_succ]
            refine wpAnyH_take (i := 8) (oi := { dst := some 49, op := Op.binOp BinOp.eql 23 (Operand.tmp 47) (Operand.tmp 48) 23, type := 4, pos := "law.go:108", after := #[{ on := 6, ground := Ground.data }, { on := 7, ground := Ground.data }, { on := 2, ground := Ground.guard }], guard := some (2, false) }) (v := undef) rfl (by kernel_rfl) (by kernel_rfl) (by kernel_rfl) (fun _ _ _ h => h) (Or.inr ⟨by rfl, rfl⟩) hS ?_
            simp only [Act.put, List.setIfInBounds_toArray, List.set_cons_zero, List.set_cons_succ]
            refine wpAnyH_take (i := 9) (oi := { dst := some 50, op := Op.pick (Operand.tmp 43) (Operand.const (Value.bool true)) (Operand.tmp 49), type := 4, pos := "law.go:108", after := #[{ on := 2, ground := Ground.data }, { on := 8, ground := Ground.data }], guard := none }) (v := ?_) rfl (by kernel_rfl) (by kernel_rfl) (by kernel_rfl) (fun _ _ _ h => h) (Or.inl ⟨by rfl, ?_⟩) hS ?_
            rotate_left 1
            · intro w9 hS9; obtain ⟨z0, z1, z2, z3, z4, z5, z6, z7, z8, z9, z10⟩ := hS9; go_simp; (try with_reducible rfl)
            simp only [Act.put, List.setIfInBounds_toArray, List.set_cons_zero, List.set_cons_succ]
            refine wpAnyH_take (i := 10) (oi := { dst := some 51, op := Op.indexAddr 35 (Operand.tmp 7) (Operand.const (Value.int IntKind.i64 1)), type := 0, pos := "law.go:108", after := #[], guard := none }) (v := ?_) rfl (by kernel_rfl) (by kernel_rfl) (by kernel_rfl) (fun _ _ _ h => h) (Or.inl ⟨by rfl, ?_⟩) hS ?_
            rotate_left 1
            · intro w9 hS9; obtain ⟨z0, z1, z2, z3, z4, z5, z6, z7, z8, z9, z10⟩ := hS9; go_simp; (try with_reducible rfl)
            simp only [Act.put, List.setIfInBounds_toArray, List.set_cons_zero, List.set_cons_succ]
            refine wpAnyH_take (i := 11) (oi := { dst := some 52, op := Op.load 4 (Operand.tmp 51), type := 4, pos := "law.go:108", after := #[{ on := 10, ground := Ground.data }], guard := none }) (v := ?_) rfl (by kernel_rfl) (by kernel_rfl) (by kernel_rfl) (fun _ _ _ h => h) (Or.inl ⟨by rfl, ?_⟩) hS ?_
            rotate_left 1
            · intro w9 hS9; obtain ⟨z0, z1, z2, z3, z4, z5, z6, z7, z8, z9, z10⟩ := hS9; go_simp; (try with_reducible rfl)
            simp only [Act.put, List.setIfInBounds_toArray, List.set_cons_zero, List.set_cons_succ]
            refine wpAnyH_take (i := 12) (oi := { dst := some 53, op := Op.move (Operand.tmp 52), type := 4, pos := "law.go:108", after := #[{ on := 11, ground := Ground.data }, { on := 2, ground := Ground.chain }], guard := none }) (v := ?_) rfl (by kernel_rfl) (by kernel_rfl) (by kernel_rfl) (fun _ _ _ h => h) (Or.inl ⟨by rfl, ?_⟩) hS ?_
            rotate_left 1
            · intro w9 hS9; obtain ⟨z0, z1, z2, z3, z4, z5, z6, z7, z8, z9, z10⟩ := hS9; go_simp; (try with_reducible rfl)
            simp only [Act.put, List.setIfInBounds_toArray, List.set_cons_zero, List.set_cons_succ]
            refine wpAnyH_take (i := 13) (oi := { dst := some 54, op := Op.move (Operand.tmp 0), type := 27, pos := "law.go:108", after := #[{ on := 12, ground := Ground.guard }], guard := some (12, false) }) (v := undef) rfl (by kernel_rfl) (by kernel_rfl) (by kernel_rfl) (fun _ _ _ h => h) (Or.inr ⟨by rfl, rfl⟩) hS ?_
            simp only [Act.put, List.setIfInBounds_toArray, List.set_cons_zero, List.set_cons_succ]
            refine wpAnyH_take (i := 14) (oi := { dst := some 55, op := Op.move (Operand.tmp 9), type := 3, pos := "law.go:108", after := #[{ on := 12, ground := Ground.guard }], guard := some (12, false) }) (v := undef) rfl (by kernel_rfl) (by kernel_rfl) (by kernel_rfl) (fun _ _ _ h => h) (Or.inr ⟨by rfl, rfl⟩) hS ?_
            simp only [Act.put, List.setIfInBounds_toArray, List.set_cons_zero, List.set_cons_succ]
            refine wpAnyH_take (i := 15) (oi := { dst := some 56, op := Op.indexAddr 27 (Operand.tmp 54) (Operand.tmp 55), type := 0, pos := "law.go:108", after := #[{ on := 13, ground := Ground.data }, { on := 14, ground := Ground.data }, { on := 12, ground := Ground.guard }], guard := some (12, false) }) (v := undef) rfl (by kernel_rfl) (by kernel_rfl) (by kernel_rfl) (fun _ _ _ h => h) (Or.inr ⟨by rfl, rfl⟩) hS ?_
            simp only [Act.put, List.setIfInBounds_toArray, List.set_cons_zero, List.set_cons_succ]
            refine wpAnyH_take (i := 16) (oi := { dst := some 57, op := Op.load 23 (Operand.tmp 56), type := 23, pos := "law.go:108", after := #[{ on := 15, ground := Ground.data }, { on := 12, ground := Ground.guard }], guard := some (12, false) }) (v := undef) rfl (by kernel_rfl) (by kernel_rfl) (by kernel_rfl) (fun _ _ _ h => h) (Or.inr ⟨by rfl, rfl⟩) hS ?_
            simp only [Act.put, List.setIfInBounds_toArray, List.set_cons_zero, List.set_cons_succ]
            refine wpAnyH_take (i := 17) (oi := { dst := some 58, op := Op.load 23 (Operand.tmp 5), type := 23, pos := "law.go:108", after := #[{ on := 12, ground := Ground.guard }], guard := some (12, false) }) (v := undef) rfl (by kernel_rfl) (by kernel_rfl) (by kernel_rfl) (fun _ _ _ h => h) (Or.inr ⟨by rfl, rfl⟩) hS ?_
            simp only [Act.put, List.setIfInBounds_toArray, List.set_cons_zero, List.set_cons_succ]
            refine wpAnyH_take (i := 18) (oi := { dst := some 59, op := Op.binOp BinOp.eql 23 (Operand.tmp 57) (Operand.tmp 58) 23, type := 4, pos := "law.go:108", after := #[{ on := 16, ground := Ground.data }, { on := 17, ground := Ground.data }, { on := 12, ground := Ground.guard }], guard := some (12, false) }) (v := undef) rfl (by kernel_rfl) (by kernel_rfl) (by kernel_rfl) (fun _ _ _ h => h) (Or.inr ⟨by rfl, rfl⟩) hS ?_
            simp only [Act.put, List.setIfInBounds_toArray, List.set_cons_zero, List.set_cons_succ]
            refine wpAnyH_take (i := 19) (oi := { dst := some 60, op := Op.pick (Operand.tmp 53) (Operand.const (Value.bool true)) (Operand.tmp 59), type := 4, pos := "law.go:108", after := #[{ on := 12, ground := Ground.data }, { on := 18, ground := Ground.data }], guard := none }) (v := ?_) rfl (by kernel_rfl) (by kernel_rfl) (by kernel_rfl) (fun _ _ _ h => h) (Or.inl ⟨by rfl, ?_⟩) hS ?_
            rotate_left 1
            · intro w9 hS9; obtain ⟨z0, z1, z2, z3, z4, z5, z6, z7, z8, z9, z10⟩ := hS9; go_simp; (try with_reducible rfl)
            simp only [Act.put, List.setIfInBounds_toArray, List.set_cons_zero, List.set_cons_succ]
            refine wpAnyH_take (i := 20) (oi := { dst := some 61, op := Op.indexAddr 35 (Operand.tmp 7) (Operand.const (Value.int IntKind.i64 0)), type := 0, pos := "law.go:108", after := #[{ on := 0, ground := Ground.phase }, { on := 1, ground := Ground.phase }, { on := 2, ground := Ground.phase }, { on := 3, ground := Ground.phase }, { on := 4, ground := Ground.phase }, { on := 5, ground := Ground.phase }, { on := 6, ground := Ground.phase }, { on := 7, ground := Ground.phase }, { on := 8, ground := Ground.phase }, { on := 9, ground := Ground.phase }, { on := 10, ground := Ground.phase }, { on := 11, ground := Ground.phase }, { on := 12, ground := Ground.textOnly Departure.lateStoresUnsure }, { on := 13, ground := Ground.textOnly Departure.lateStores }, { on := 14, ground := Ground.textOnly Departure.lateStores }, { on := 15, ground := Ground.textOnly Departure.lateStores }, { on := 16, ground := Ground.textOnly Departure.lateStores }, { on := 17, ground := Ground.textOnly Departure.lateStores }, { on := 18, ground := Ground.textOnly Departure.lateStores }, { on := 19, ground := Ground.textOnly Departure.lateStoresUnsure }], guard := none }) (v := ?_) rfl (by kernel_rfl) (by kernel_rfl) (by kernel_rfl) (fun _ _ _ h => h) (Or.inl ⟨by rfl, ?_⟩) hS ?_
            rotate_left 1
            · intro w9 hS9; obtain ⟨z0, z1, z2, z3, z4, z5, z6, z7, z8, z9, z10⟩ := hS9; go_simp; (try with_reducible rfl)
            simp only [Act.put, List.setIfInBounds_toArray, List.set_cons_zero, List.set_cons_succ]
            refine wpAnyH_ready (rs := [21]) (by kernel_rfl) (by simp) ?_
            refine AllReadyH.cons (o := { dst := none, op := Op.store 4 (Operand.tmp 61) (Operand.tmp 50), type := 0, pos := "law.go:108", after := #[{ on := 20, ground := Ground.data }, { on := 9, ground := Ground.data }, { on := 12, ground := Ground.chain }, { on := 0, ground := Ground.phase }, { on := 1, ground := Ground.phase }, { on := 2, ground := Ground.phase }, { on := 3, ground := Ground.phase }, { on := 4, ground := Ground.phase }, { on := 5, ground := Ground.phase }, { on := 6, ground := Ground.phase }, { on := 7, ground := Ground.phase }, { on := 8, ground := Ground.phase }, { on := 9, ground := Ground.phase }, { on := 10, ground := Ground.phase }, { on := 11, ground := Ground.phase }, { on := 12, ground := Ground.textOnly Departure.lateStoresUnsure }, { on := 13, ground := Ground.textOnly Departure.lateStores }, { on := 14, ground := Ground.textOnly Departure.lateStores }, { on := 15, ground := Ground.textOnly Departure.lateStores }, { on := 16, ground := Ground.textOnly Departure.lateStores }, { on := 17, ground := Ground.textOnly Departure.lateStores }, { on := 18, ground := Ground.textOnly Departure.lateStores }, { on := 19, ground := Ground.textOnly Departure.lateStoresUnsure }], guard := none }) rfl (fun K hK => ?_) AllReadyH.nil
            go_simp
            refine hK.out _ _ ?_ (fun hS => ?_)
            · obtain ⟨z0, z1, z2, z3, z4, z5, z6, z7, z8, z9, z10⟩ := hS; exact ⟨by exact cell_set_ne (by first | assumption | (simp; done)) z0, by exact cell_set_ne (by first | assumption | (simp; done)) z1, by exact cell_set_ne (by first | assumption | (simp; done)) z2, by exact cell_set_ne (by first | assumption | (simp; done)) z3, by exact cell_set_ne (by first | assumption | (simp; done)) z4, by exact cell_set_ne (by first | assumption | (simp; done)) z5, by exact cell_set_ne (by first | assumption | (simp; done)) z6, by exact cell_set_ne (by first | assumption | (simp; done)) z7, by exact cell_set_ne (by first | assumption | (simp; done)) z8, by first | exact (HB.out.drew.set 0 _ (by simp)).c 0 _ rfl | exact (HB.out.drew.set 0 _ (by simp)).c 1 _ rfl | exact ((HB.out.drew.set 0 _ (by simp)).set 1 _ (by simp)).c 0 _ rfl | exact ((HB.out.drew.set 0 _ (by simp)).set 1 _ (by simp)).c 1 _ rfl, by first | exact (HB.out.drew.set 0 _ (by simp)).c 0 _ rfl | exact (HB.out.drew.set 0 _ (by simp)).c 1 _ rfl | exact ((HB.out.drew.set 0 _ (by simp)).set 1 _ (by simp)).c 0 _ rfl | exact ((HB.out.drew.set 0 _ (by simp)).set 1 _ (by simp)).c 1 _ rfl⟩
            clear hK K
            try simp only [Act.put, List.setIfInBounds_toArray, List.set_cons_zero, List.set_cons_succ]
            refine wpAnyH_take (i := 22) (oi := { dst := some 62, op := Op.indexAddr 35 (Operand.tmp 7) (Operand.const (Value.int IntKind.i64 1)), type := 0, pos := "law.go:108", after := #[{ on := 0, ground := Ground.phase }, { on := 1, ground := Ground.phase }, { on := 2, ground := Ground.phase }, { on := 3, ground := Ground.phase }, { on := 4, ground := Ground.phase }, { on := 5, ground := Ground.phase }, { on := 6, ground := Ground.phase }, { on := 7, ground := Ground.phase }, { on := 8, ground := Ground.phase }, { on := 9, ground := Ground.phase }, { on := 10, ground := Ground.phase }, { on := 11, ground := Ground.phase }, { on := 12, ground := Ground.phase }, { on := 13, ground := Ground.phase }, { on := 14, ground := Ground.phase }, { on := 15, ground := Ground.phase }, { on := 16, ground := Ground.phase }, { on := 17, ground := Ground.phase }, { on := 18, ground := Ground.phase }, { on := 19, ground := Ground.phase }, { on := 20, ground := Ground.phase }, { on := 21, ground := Ground.phase }], guard := none }) (v := ?_) rfl (by kernel_rfl) (by kernel_rfl) (by kernel_rfl) (fun _ _ _ h => h) (Or.inl ⟨by rfl, ?_⟩) hS ?_
            rotate_left 1
            · intro w9 hS9; obtain ⟨z0, z1, z2, z3, z4, z5, z6, z7, z8, z9, z10⟩ := hS9; go_simp; (try with_reducible rfl)
            simp only [Act.put, List.setIfInBounds_toArray, List.set_cons_zero, List.set_cons_succ]
            refine wpAnyH_ready (rs := [23]) (by kernel_rfl) (by simp) ?_
            refine AllReadyH.cons (o := { dst := none, op := Op.store 4 (Operand.tmp 62) (Operand.tmp 60), type := 0, pos := "law.go:108", after := #[{ on := 22, ground := Ground.data }, { on := 19, ground := Ground.data }, { on := 21, ground := Ground.chain }, { on := 0, ground := Ground.phase }, { on := 1, ground := Ground.phase }, { on := 2, ground := Ground.phase }, { on := 3, ground := Ground.phase }, { on := 4, ground := Ground.phase }, { on := 5, ground := Ground.phase }, { on := 6, ground := Ground.phase }, { on := 7, ground := Ground.phase }, { on := 8, ground := Ground.phase }, { on := 9, ground := Ground.phase }, { on := 10, ground := Ground.phase }, { on := 11, ground := Ground.phase }, { on := 12, ground := Ground.phase }, { on := 13, ground := Ground.phase }, { on := 14, ground := Ground.phase }, { on := 15, ground := Ground.phase }, { on := 16, ground := Ground.phase }, { on := 17, ground := Ground.phase }, { on := 18, ground := Ground.phase }, { on := 19, ground := Ground.phase }, { on := 20, ground := Ground.phase }, { on := 21, ground := Ground.phase }], guard := none }) rfl (fun K hK => ?_) AllReadyH.nil
            go_simp
            refine hK.out _ _ ?_ (fun hS => ?_)
            · obtain ⟨z0, z1, z2, z3, z4, z5, z6, z7, z8, z9, z10⟩ := hS; exact ⟨by exact cell_set_ne (by first | assumption | (simp; done)) z0, by exact cell_set_ne (by first | assumption | (simp; done)) z1, by exact cell_set_ne (by first | assumption | (simp; done)) z2, by exact cell_set_ne (by first | assumption | (simp; done)) z3, by exact cell_set_ne (by first | assumption | (simp; done)) z4, by exact cell_set_ne (by first | assumption | (simp; done)) z5, by exact cell_set_ne (by first | assumption | (simp; done)) z6, by exact cell_set_ne (by first | assumption | (simp; done)) z7, by exact cell_set_ne (by first | assumption | (simp; done)) z8, by first | exact (HB.out.drew.set 0 _ (by simp)).c 0 _ rfl | exact (HB.out.drew.set 0 _ (by simp)).c 1 _ rfl | exact ((HB.out.drew.set 0 _ (by simp)).set 1 _ (by simp)).c 0 _ rfl | exact ((HB.out.drew.set 0 _ (by simp)).set 1 _ (by simp)).c 1 _ rfl, by first | exact (HB.out.drew.set 0 _ (by simp)).c 0 _ rfl | exact (HB.out.drew.set 0 _ (by simp)).c 1 _ rfl | exact ((HB.out.drew.set 0 _ (by simp)).set 1 _ (by simp)).c 0 _ rfl | exact ((HB.out.drew.set 0 _ (by simp)).set 1 _ (by simp)).c 1 _ rfl⟩
            clear hK K
            try simp only [Act.put, List.setIfInBounds_toArray, List.set_cons_zero, List.set_cons_succ]
            refine wpAnyH_done (by kernel_rfl) ?_ _
            go_wp2_with fail
            go_meet
            refine ⟨Lib.hid ?_, Lib.hid ?_⟩
            · exact Below.setCell (p := ⟨bi, 1, none⟩) (Below.setCell (p := ⟨bi, 0, none⟩) (below_drew HFr.out) (Nat.le_refl bi) _) (Nat.le_refl bi) _
            · exact (HB.out.drew.set 0 _ (by simp)).set 1 _ (by simp)
          case true.false =>
            refine held_drew (S := fun w' : World => w'.cell? ⟨b0, off + j * 3, none⟩ = some (.int .i64 xk) ∧ w'.cell? ⟨b0, off + j * 3 + 1, none⟩ = some (.int .i64 xn) ∧ w'.cell? ⟨b0, off + j * 3 + 2, none⟩ = some (.string xs) ∧ w'.cell? ⟨ba, 0, none⟩ = some (.int .i64 ak) ∧ w'.cell? ⟨ba, 1, none⟩ = some (.int .i64 an) ∧ w'.cell? ⟨ba, 2, none⟩ = some (.string at_) ∧ w'.cell? ⟨bb, 0, none⟩ = some (.int .i64 bk) ∧ w'.cell? ⟨bb, 1, none⟩ = some (.int .i64 bn) ∧ w'.cell? ⟨bb, 2, none⟩ = some (.string bt_) ∧ w'.cell? ⟨bi, 0, none⟩ = some (.bool true)) (by kernel_rfl) ?_
            have hS : (fun w' : World => w'.cell? ⟨b0, off + j * 3, none⟩ = some (.int .i64 xk) ∧ w'.cell? ⟨b0, off + j * 3 + 1, none⟩ = some (.int .i64 xn) ∧ w'.cell? ⟨b0, off + j * 3 + 2, none⟩ = some (.string xs) ∧ w'.cell? ⟨ba, 0, none⟩ = some (.int .i64 ak) ∧ w'.cell? ⟨ba, 1, none⟩ = some (.int .i64 an) ∧ w'.cell? ⟨ba, 2, none⟩ = some (.string at_) ∧ w'.cell? ⟨bb, 0, none⟩ = some (.int .i64 bk) ∧ w'.cell? ⟨bb, 1, none⟩ = some (.int .i64 bn) ∧ w'.cell? ⟨bb, 2, none⟩ = some (.string bt_) ∧ w'.cell? ⟨bi, 0, none⟩ = some (.bool true)) wr.drew := ⟨g0, g1, g2, cBAr0, cBAr1, cBAr2, cBBr0, cBBr1, cBBr2, cHB0⟩
            refine wpAnyH_take (i := 0) (oi := { dst := some 41, op := Op.indexAddr 35 (Operand.tmp 7) (Operand.const (Value.int IntKind.i64 0)), type := 0, pos := "law.go:108", after := #[], guard := none }) (v := ?_) rfl (by kernel_rfl) (by kernel_rfl) (by kernel_rfl) (fun _ _ _ h => h) (Or.inl ⟨by rfl, ?_⟩) hS ?_
            rotate_left 1
            · intro w9 hS9; obtain ⟨z0, z1, z2, z3, z4, z5, z6, z7, z8, z9⟩ := hS9; go_simp; (try with_reducible rfl)
            simp only [Act.put, List.setIfInBounds_toArray, List.set_cons_zero, List.set_cons_succ]
            refine wpAnyH_take (i := 1) (oi := { dst := some 42, op := Op.load 4 (Operand.tmp 41), type := 4, pos := "law.go:108", after := #[{ on := 0, ground := Ground.data }], guard := none }) (v := ?_) rfl (by kernel_rfl) (by kernel_rfl) (by kernel_rfl) (fun _ _ _ h => h) (Or.inl ⟨by rfl, ?_⟩) hS ?_
            rotate_left 1
            · intro w9 hS9; obtain ⟨z0, z1, z2, z3, z4, z5, z6, z7, z8, z9⟩ := hS9; go_simp; (try with_reducible rfl)
            simp only [Act.put, List.setIfInBounds_toArray, List.set_cons_zero, List.set_cons_succ]
            refine wpAnyH_take (i := 2) (oi := { dst := some 43, op := Op.move (Operand.tmp 42), type := 4, pos := "law.go:108", after := #[{ on := 1, ground := Ground.data }], guard := none }) (v := ?_) rfl (by kernel_rfl) (by kernel_rfl) (by kernel_rfl) (fun _ _ _ h => h) (Or.inl ⟨by rfl, ?_⟩) hS ?_
            rotate_left 1
            · intro w9 hS9; obtain ⟨z0, z1, z2, z3, z4, z5, z6, z7, z8, z9⟩ := hS9; go_simp; (try with_reducible rfl)
            simp only [Act.put, List.setIfInBounds_toArray, List.set_cons_zero, List.set_cons_succ]
            refine wpAnyH_take (i := 3) (oi := { dst := some 44, op := Op.move (Operand.tmp 0), type := 27, pos := "law.go:108", after := #[{ on := 2, ground := Ground.guard }], guard := some (2, false) }) (v := undef) rfl (by kernel_rfl) (by kernel_rfl) (by kernel_rfl) (fun _ _ _ h => h) (Or.inr ⟨by rfl, rfl⟩) hS ?_
            simp only [Act.put, List.setIfInBounds_toArray, List.set_cons_zero, List.set_cons_succ]
            refine wpAnyH_take (i := 4) (oi := { dst := some 45, op := Op.move (Operand.tmp 9), type := 3, pos := "law.go:108", after := #[{ on := 2, ground := Ground.guard }], guard := some (2, false) }) (v := undef) rfl (by kernel_rfl) (by kernel_rfl) (by kernel_rfl) (fun _ _ _ h => h) (Or.inr ⟨by rfl, rfl⟩) hS ?_
            simp only [Act.put, List.setIfInBounds_toArray, List.set_cons_zero, List.set_cons_succ]
            refine wpAnyH_take (i := 5) (oi := { dst := some 46, op := Op.indexAddr 27 (Operand.tmp 44) (Operand.tmp 45), type := 0, pos := "law.go:108", after := #[{ on := 3, ground := Ground.data }, { on := 4, ground := Ground.data }, { on := 2, ground := Ground.guard }], guard := some (2, false) }) (v := undef) rfl (by kernel_rfl) (by kernel_rfl) (by kernel_rfl) (fun _ _ _ h => h) (Or.inr ⟨by rfl, rfl⟩) hS ?_
            simp only [Act.put, List.setIfInBounds_toArray, List.set_cons_zero, List.set_cons_succ]
            refine wpAnyH_take (i := 6) (oi := { dst := some 47, op := Op.load 23 (Operand.tmp 46), type := 23, pos := "law.go:108", after := #[{ on := 5, ground := Ground.data }, { on := 2, ground := Ground.guard }], guard := some (2, false) }) (v := undef) rfl (by kernel_rfl) (by kernel_rfl) (by kernel_rfl) (fun _ _ _ h => h) (Or.inr ⟨by rfl, rfl⟩) hS ?_
            simp only [Act.put, List.setIfInBounds_toArray, List.set_cons_zero, List.set_cons_succ]
            refine wpAnyH_take (i := 7) (oi := { dst := some 48, op := Op.load 23 (Operand.tmp 3), type := 23, pos := "law.go:108", after := #[{ on := 2, ground := Ground.guard }], guard := some (2, false) }) (v := undef) rfl (by kernel_rfl) (by kernel_rfl) (by kernel_rfl) (fun _ _ _ h => h) (Or.inr ⟨by rfl, rfl⟩) hS ?_
            simp only [Act.put, List.setIfInBounds_toArray, List.set_cons_zero, List.set_cons_succ]
            refine wpAnyH_take (i := 8) (oi := { dst := some 49, op := Op.binOp BinOp.eql 23 (Operand.tmp 47) (Operand.tmp 48) 23, type := 4, pos := "law.go:108", after := #[{ on := 6, ground := Ground.data }, { on := 7, ground := Ground.data }, { on := 2, ground := Ground.guard }], guard := some (2, false) }) (v := undef) rfl (by kernel_rfl) (by kernel_rfl) (by kernel_rfl) (fun _ _ _ h => h) (Or.inr ⟨by rfl, rfl⟩) hS ?_
            simp only [Act.put, List.setIfInBounds_toArray, List.set_cons_zero, List.set_cons_succ]
            refine wpAnyH_take (i := 9) (oi := { dst := some 50, op := Op.pick (Operand.tmp 43) (Operand.const (Value.bool true)) (Operand.tmp 49), type := 4, pos := "law.go:108", after := #[{ on := 2, ground := Ground.data }, { on := 8, ground := Ground.data }], guard := none }) (v := ?_) rfl (by kernel_rfl) (by kernel_rfl) (by kernel_rfl) (fun _ _ _ h => h) (Or.inl ⟨by rfl, ?_⟩) hS ?_
            rotate_left 1
            · intro w9 hS9; obtain ⟨z0, z1, z2, z3, z4, z5, z6, z7, z8, z9⟩ := hS9; go_simp; (try with_reducible rfl)
            simp only [Act.put, List.setIfInBounds_toArray, List.set_cons_zero, List.set_cons_succ]
            refine wpAnyH_take (i := 10) (oi := { dst := some 51, op := Op.indexAddr 35 (Operand.tmp 7) (Operand.const (Value.int IntKind.i64 1)), type := 0, pos := "law.go:108", after := #[], guard := none }) (v := ?_) rfl (by kernel_rfl) (by kernel_rfl) (by kernel_rfl) (fun _ _ _ h => h) (Or.inl ⟨by rfl, ?_⟩) hS ?_
            rotate_left 1
            · intro w9 hS9; obtain ⟨z0, z1, z2, z3, z4, z5, z6, z7, z8, z9⟩ := hS9; go_simp; (try with_reducible rfl)
            simp only [Act.put, List.setIfInBounds_toArray, List.set_cons_zero, List.set_cons_succ]
            refine wpAnyH_ready (rs := [11]) (by kernel_rfl) (by simp) ?_
            refine AllReadyH.cons (o := { dst := some 52, op := Op.load 4 (Operand.tmp 51), type := 4, pos := "law.go:108", after := #[{ on := 10, ground := Ground.data }], guard := none }) rfl (fun K hK => ?_) AllReadyH.nil
            go_simp
            refine hK.out _ _ ?_ (fun hS => ?_)
            · exact hS
            clear hK K
            try simp only [Act.put, List.setIfInBounds_toArray, List.set_cons_zero, List.set_cons_succ]
            refine wpAnyH_take (i := 12) (oi := { dst := some 53, op := Op.move (Operand.tmp 52), type := 4, pos := "law.go:108", after := #[{ on := 11, ground := Ground.data }, { on := 2, ground := Ground.chain }], guard := none }) (v := ?_) rfl (by kernel_rfl) (by kernel_rfl) (by kernel_rfl) (fun _ _ _ h => h) (Or.inl ⟨by rfl, ?_⟩) hS ?_
            rotate_left 1
            · intro w9 hS9; obtain ⟨z0, z1, z2, z3, z4, z5, z6, z7, z8, z9⟩ := hS9; go_simp; (try with_reducible rfl)
            simp only [Act.put, List.setIfInBounds_toArray, List.set_cons_zero, List.set_cons_succ]
            refine wpAnyH_take (i := 13) (oi := { dst := some 54, op := Op.move (Operand.tmp 0), type := 27, pos := "law.go:108", after := #[{ on := 12, ground := Ground.guard }], guard := some (12, false) }) (v := ?_) rfl (by kernel_rfl) (by kernel_rfl) (by kernel_rfl) (fun _ _ _ h => h) (Or.inl ⟨by rfl, ?_⟩) hS ?_
            rotate_left 1
            · intro w9 hS9; obtain ⟨z0, z1, z2, z3, z4, z5, z6, z7, z8, z9⟩ := hS9; go_simp; (try with_reducible rfl)
            simp only [Act.put, List.setIfInBounds_toArray, List.set_cons_zero, List.set_cons_succ]
            refine wpAnyH_take (i := 14) (oi := { dst := some 55, op := Op.move (Operand.tmp 9), type := 3, pos := "law.go:108", after := #[{ on := 12, ground := Ground.guard }], guard := some (12, false) }) (v := ?_) rfl (by kernel_rfl) (by kernel_rfl) (by kernel_rfl) (fun _ _ _ h => h) (Or.inl ⟨by rfl, ?_⟩) hS ?_
            rotate_left 1
            · intro w9 hS9; obtain ⟨z0, z1, z2, z3, z4, z5, z6, z7, z8, z9⟩ := hS9; go_simp; (try with_reducible rfl)
            simp only [Act.put, List.setIfInBounds_toArray, List.set_cons_zero, List.set_cons_succ]
            refine wpAnyH_take (i := 15) (oi := { dst := some 56, op := Op.indexAddr 27 (Operand.tmp 54) (Operand.tmp 55), type := 0, pos := "law.go:108", after := #[{ on := 13, ground := Ground.data }, { on := 14, ground := Ground.data }, { on := 12, ground := Ground.guard }], guard := some (12, false) }) (v := ?_) rfl (by kernel_rfl) (by kernel_rfl) (by kernel_rfl) (fun _ _ _ h => h) (Or.inl ⟨by rfl, ?_⟩) hS ?_
            rotate_left 1
            · intro w9 hS9; obtain ⟨z0, z1, z2, z3, z4, z5, z6, z7, z8, z9⟩ := hS9; go_simp; (try with_reducible rfl)
            simp only [Act.put, List.setIfInBounds_toArray, List.set_cons_zero, List.set_cons_succ]
            refine wpAnyH_take (i := 16) (oi := { dst := some 57, op := Op.load 23 (Operand.tmp 56), type := 23, pos := "law.go:108", after := #[{ on := 15, ground := Ground.data }, { on := 12, ground := Ground.guard }], guard := some (12, false) }) (v := ?_) rfl (by kernel_rfl) (by kernel_rfl) (by kernel_rfl) (fun _ _ _ h => h) (Or.inl ⟨by rfl, ?_⟩) hS ?_
            rotate_left 1
            · intro w9 hS9; obtain ⟨z0, z1, z2, z3, z4, z5, z6, z7, z8, z9⟩ := hS9; go_simp; (try with_reducible rfl)
            simp only [Act.put, List.setIfInBounds_toArray, List.set_cons_zero, List.set_cons_succ]
            refine wpAnyH_take (i := 17) (oi := { dst := some 58, op := Op.load 23 (Operand.tmp 5), type := 23, pos := "law.go:108", after := #[{ on := 12, ground := Ground.guard }], guard := some (12, false) }) (v := ?_) rfl (by kernel_rfl) (by kernel_rfl) (by kernel_rfl) (fun _ _ _ h => h) (Or.inl ⟨by rfl, ?_⟩) hS ?_
            rotate_left 1
            · intro w9 hS9; obtain ⟨z0, z1, z2, z3, z4, z5, z6, z7, z8, z9⟩ := hS9; go_simp; (try with_reducible rfl)
            simp only [Act.put, List.setIfInBounds_toArray, List.set_cons_zero, List.set_cons_succ]
            refine wpAnyH_take (i := 18) (oi := { dst := some 59, op := Op.binOp BinOp.eql 23 (Operand.tmp 57) (Operand.tmp 58) 23, type := 4, pos := "law.go:108", after := #[{ on := 16, ground := Ground.data }, { on := 17, ground := Ground.data }, { on := 12, ground := Ground.guard }], guard := some (12, false) }) (v := ?_) rfl (by kernel_rfl) (by kernel_rfl) (by kernel_rfl) (fun _ _ _ h => h) (Or.inl ⟨by rfl, ?_⟩) hS ?_
            rotate_left 1
            · intro w9 hS9; obtain ⟨z0, z1, z2, z3, z4, z5, z6, z7, z8, z9⟩ := hS9; go_simp; (try with_reducible rfl)
            simp only [Act.put, List.setIfInBounds_toArray, List.set_cons_zero, List.set_cons_succ]
            refine wpAnyH_take (i := 19) (oi := { dst := some 60, op := Op.pick (Operand.tmp 53) (Operand.const (Value.bool true)) (Operand.tmp 59), type := 4, pos := "law.go:108", after := #[{ on := 12, ground := Ground.data }, { on := 18, ground := Ground.data }], guard := none }) (v := ?_) rfl (by kernel_rfl) (by kernel_rfl) (by kernel_rfl) (fun _ _ _ h => h) (Or.inl ⟨by rfl, ?_⟩) hS ?_
            rotate_left 1
            · intro w9 hS9; obtain ⟨z0, z1, z2, z3, z4, z5, z6, z7, z8, z9⟩ := hS9; go_simp; (try with_reducible rfl)
            simp only [Act.put, List.setIfInBounds_toArray, List.set_cons_zero, List.set_cons_succ]
            refine wpAnyH_take (i := 20) (oi := { dst := some 61, op := Op.indexAddr 35 (Operand.tmp 7) (Operand.const (Value.int IntKind.i64 0)), type := 0, pos := "law.go:108", after := #[{ on := 0, ground := Ground.phase }, { on := 1, ground := Ground.phase }, { on := 2, ground := Ground.phase }, { on := 3, ground := Ground.phase }, { on := 4, ground := Ground.phase }, { on := 5, ground := Ground.phase }, { on := 6, ground := Ground.phase }, { on := 7, ground := Ground.phase }, { on := 8, ground := Ground.phase }, { on := 9, ground := Ground.phase }, { on := 10, ground := Ground.phase }, { on := 11, ground := Ground.phase }, { on := 12, ground := Ground.textOnly Departure.lateStoresUnsure }, { on := 13, ground := Ground.textOnly Departure.lateStores }, { on := 14, ground := Ground.textOnly Departure.lateStores }, { on := 15, ground := Ground.textOnly Departure.lateStores }, { on := 16, ground := Ground.textOnly Departure.lateStores }, { on := 17, ground := Ground.textOnly Departure.lateStores }, { on := 18, ground := Ground.textOnly Departure.lateStores }, { on := 19, ground := Ground.textOnly Departure.lateStoresUnsure }], guard := none }) (v := ?_) rfl (by kernel_rfl) (by kernel_rfl) (by kernel_rfl) (fun _ _ _ h => h) (Or.inl ⟨by rfl, ?_⟩) hS ?_
            rotate_left 1
            · intro w9 hS9; obtain ⟨z0, z1, z2, z3, z4, z5, z6, z7, z8, z9⟩ := hS9; go_simp; (try with_reducible rfl)
            simp only [Act.put, List.setIfInBounds_toArray, List.set_cons_zero, List.set_cons_succ]
            refine wpAnyH_ready (rs := [21]) (by kernel_rfl) (by simp) ?_
            refine AllReadyH.cons (o := { dst := none, op := Op.store 4 (Operand.tmp 61) (Operand.tmp 50), type := 0, pos := "law.go:108", after := #[{ on := 20, ground := Ground.data }, { on := 9, ground := Ground.data }, { on := 12, ground := Ground.chain }, { on := 0, ground := Ground.phase }, { on := 1, ground := Ground.phase }, { on := 2, ground := Ground.phase }, { on := 3, ground := Ground.phase }, { on := 4, ground := Ground.phase }, { on := 5, ground := Ground.phase }, { on := 6, ground := Ground.phase }, { on := 7, ground := Ground.phase }, { on := 8, ground := Ground.phase }, { on := 9, ground := Ground.phase }, { on := 10, ground := Ground.phase }, { on := 11, ground := Ground.phase }, { on := 12, ground := Ground.textOnly Departure.lateStoresUnsure }, { on := 13, ground := Ground.textOnly Departure.lateStores }, { on := 14, ground := Ground.textOnly Departure.lateStores }, { on := 15, ground := Ground.textOnly Departure.lateStores }, { on := 16, ground := Ground.textOnly Departure.lateStores }, { on := 17, ground := Ground.textOnly Departure.lateStores }, { on := 18, ground := Ground.textOnly Departure.lateStores }, { on := 19, ground := Ground.textOnly Departure.lateStoresUnsure }], guard := none }) rfl (fun K hK => ?_) AllReadyH.nil
            go_simp
            refine hK.out _ _ ?_ (fun hS => ?_)
            · obtain ⟨z0, z1, z2, z3, z4, z5, z6, z7, z8, z9⟩ := hS; exact ⟨by exact cell_set_ne (by first | assumption | (simp; done)) z0, by exact cell_set_ne (by first | assumption | (simp; done)) z1, by exact cell_set_ne (by first | assumption | (simp; done)) z2, by exact cell_set_ne (by first | assumption | (simp; done)) z3, by exact cell_set_ne (by first | assumption | (simp; done)) z4, by exact cell_set_ne (by first | assumption | (simp; done)) z5, by exact cell_set_ne (by first | assumption | (simp; done)) z6, by exact cell_set_ne (by first | assumption | (simp; done)) z7, by exact cell_set_ne (by first | assumption | (simp; done)) z8, by first | exact (HB.out.drew.set 0 _ (by simp)).c 0 _ rfl | exact (HB.out.drew.set 0 _ (by simp)).c 1 _ rfl | exact ((HB.out.drew.set 0 _ (by simp)).set 1 _ (by simp)).c 0 _ rfl | exact ((HB.out.drew.set 0 _ (by simp)).set 1 _ (by simp)).c 1 _ rfl⟩
            clear hK K
            try simp only [Act.put, List.setIfInBounds_toArray, List.set_cons_zero, List.set_cons_succ]
            refine wpAnyH_take (i := 22) (oi := { dst := some 62, op := Op.indexAddr 35 (Operand.tmp 7) (Operand.const (Value.int IntKind.i64 1)), type := 0, pos := "law.go:108", after := #[{ on := 0, ground := Ground.phase }, { on := 1, ground := Ground.phase }, { on := 2, ground := Ground.phase }, { on := 3, ground := Ground.phase }, { on := 4, ground := Ground.phase }, { on := 5, ground := Ground.phase }, { on := 6, ground := Ground.phase }, { on := 7, ground := Ground.phase }, { on := 8, ground := Ground.phase }, { on := 9, ground := Ground.phase }, { on := 10, ground := Ground.phase }, { on := 11, ground := Ground.phase }, { on := 12, ground := Ground.phase }, { on := 13, ground := Ground.phase }, { on := 14, ground := Ground.phase }, { on := 15, ground := Ground.phase }, { on := 16, ground := Ground.phase }, { on := 17, ground := Ground.phase }, { on := 18, ground := Ground.phase }, { on := 19, ground := Ground.phase }, { on := 20, ground := Ground.phase }, { on := 21, ground := Ground.phase }], guard := none }) (v := ?_) rfl (by kernel_rfl) (by kernel_rfl) (by kernel_rfl) (fun _ _ _ h => h) (Or.inl ⟨by rfl, ?_⟩) hS ?_
            rotate_left 1
            · intro w9 hS9; obtain ⟨z0, z1, z2, z3, z4, z5, z6, z7, z8, z9⟩ := hS9; go_simp; (try with_reducible rfl)
            simp only [Act.put, List.setIfInBounds_toArray, List.set_cons_zero, List.set_cons_succ]
            refine wpAnyH_ready (rs := [23]) (by kernel_rfl) (by simp) ?_
            refine AllReadyH.cons (o := { dst := none, op := Op.store 4 (Operand.tmp 62) (Operand.tmp 60), type := 0, pos := "law.go:108", after := #[{ on := 22, ground := Ground.data }, { on := 19, ground := Ground.data }, { on := 21, ground := Ground.chain }, { on := 0, ground := Ground.phase }, { on := 1, ground := Ground.phase }, { on := 2, ground := Ground.phase }, { on := 3, ground := Ground.phase }, { on := 4, ground := Ground.phase }, { on := 5, ground := Ground.phase }, { on := 6, ground := Ground.phase }, { on := 7, ground := Ground.phase }, { on := 8, ground := Ground.phase }, { on := 9, ground := Ground.phase }, { on := 10, ground := Ground.phase }, { on := 11, ground := Ground.phase }, { on := 12, ground := Ground.phase }, { on := 13, ground := Ground.phase }, { on := 14, ground := Ground.phase }, { on := 15, ground := Ground.phase }, { on := 16, ground := Ground.phase }, { on := 17, ground := Ground.phase }, { on := 18, ground := Ground.phase }, { on := 19, ground := Ground.phase }, { on := 20, ground := Ground.phase }, { on := 21, ground := Ground.phase }], guard := none }) rfl (fun K hK => ?_) AllReadyH.nil
            go_simp
            refine hK.out _ _ ?_ (fun hS => ?_)
            · obtain ⟨z0, z1, z2, z3, z4, z5, z6, z7, z8, z9⟩ := hS; exact ⟨by exact cell_set_ne (by first | assumption | (simp; done)) z0, by exact cell_set_ne (by first | assumption | (simp; done)) z1, by exact cell_set_ne (by first | assumption | (simp; done)) z2, by exact cell_set_ne (by first | assumption | (simp; done)) z3, by exact cell_set_ne (by first | assumption | (simp; done)) z4, by exact cell_set_ne (by first | assumption | (simp; done)) z5, by exact cell_set_ne (by first | assumption | (simp; done)) z6, by exact cell_set_ne (by first | assumption | (simp; done)) z7, by exact cell_set_ne (by first | assumption | (simp; done)) z8, by first | exact (HB.out.drew.set 0 _ (by simp)).c 0 _ rfl | exact (HB.out.drew.set 0 _ (by simp)).c 1 _ rfl | exact ((HB.out.drew.set 0 _ (by simp)).set 1 _ (by simp)).c 0 _ rfl | exact ((HB.out.drew.set 0 _ (by simp)).set 1 _ (by simp)).c 1 _ rfl⟩
            clear hK K
            try simp only [Act.put, List.setIfInBounds_toArray, List.set_cons_zero, List.set_cons_succ]
            refine wpAnyH_done (by kernel_rfl) ?_ _
            go_wp2_with fail
            go_meet
            refine ⟨Lib.hid ?_, Lib.hid ?_⟩
            · exact Below.setCell (p := ⟨bi, 1, none⟩) (Below.setCell (p := ⟨bi, 0, none⟩) (below_drew HFr.out) (Nat.le_refl bi) _) (Nat.le_refl bi) _
            · exact (HB.out.drew.set 0 _ (by simp)).set 1 _ (by simp)
          case false.true =>
            refine held_drew (S := fun w' : World => w'.cell? ⟨b0, off + j * 3, none⟩ = some (.int .i64 xk) ∧ w'.cell? ⟨b0, off + j * 3 + 1, none⟩ = some (.int .i64 xn) ∧ w'.cell? ⟨b0, off + j * 3 + 2, none⟩ = some (.string xs) ∧ w'.cell? ⟨ba, 0, none⟩ = some (.int .i64 ak) ∧ w'.cell? ⟨ba, 1, none⟩ = some (.int .i64 an) ∧ w'.cell? ⟨ba, 2, none⟩ = some (.string at_) ∧ w'.cell? ⟨bb, 0, none⟩ = some (.int .i64 bk) ∧ w'.cell? ⟨bb, 1, none⟩ = some (.int .i64 bn) ∧ w'.cell? ⟨bb, 2, none⟩ = some (.string bt_) ∧ w'.cell? ⟨bi, 1, none⟩ = some (.bool true)) (by kernel_rfl) ?_
            have hS : (fun w' : World => w'.cell? ⟨b0, off + j * 3, none⟩ = some (.int .i64 xk) ∧ w'.cell? ⟨b0, off + j * 3 + 1, none⟩ = some (.int .i64 xn) ∧ w'.cell? ⟨b0, off + j * 3 + 2, none⟩ = some (.string xs) ∧ w'.cell? ⟨ba, 0, none⟩ = some (.int .i64 ak) ∧ w'.cell? ⟨ba, 1, none⟩ = some (.int .i64 an) ∧ w'.cell? ⟨ba, 2, none⟩ = some (.string at_) ∧ w'.cell? ⟨bb, 0, none⟩ = some (.int .i64 bk) ∧ w'.cell? ⟨bb, 1, none⟩ = some (.int .i64 bn) ∧ w'.cell? ⟨bb, 2, none⟩ = some (.string bt_) ∧ w'.cell? ⟨bi, 1, none⟩ = some (.bool true)) wr.drew := ⟨g0, g1, g2, cBAr0, cBAr1, cBAr2, cBBr0, cBBr1, cBBr2, cHB1⟩
            refine wpAnyH_take (i := 0) (oi := { dst := some 41, op := Op.indexAddr 35 (Operand.tmp 7) (Operand.const (Value.int IntKind.i64 0)), type := 0, pos := "law.go:108", after := #[], guard := none }) (v := ?_) rfl (by kernel_rfl) (by kernel_rfl) (by kernel_rfl) (fun _ _ _ h => h) (Or.inl ⟨by rfl, ?_⟩) hS ?_
            rotate_left 1
            · intro w9 hS9; obtain ⟨z0, z1, z2, z3, z4, z5, z6, z7, z8, z9⟩ := hS9; go_simp; (try with_reducible rfl)
            simp only [Act.put, List.setIfInBounds_toArray, List.set_cons_zero, List.set_cons_succ]
            refine wpAnyH_take (i := 10) (oi := { dst := some 51, op := Op.indexAddr 35 (Operand.tmp 7) (Operand.const (Value.int IntKind.i64 1)), type := 0, pos := "law.go:108", after := #[], guard := none }) (v := ?_) rfl (by kernel_rfl) (by kernel_rfl) (by kernel_rfl) (fun _ _ _ h => h) (Or.inl ⟨by rfl, ?_⟩) hS ?_
            rotate_left 1
            · intro w9 hS9; obtain ⟨z0, z1, z2, z3, z4, z5, z6, z7, z8, z9⟩ := hS9; go_simp; (try with_reducible rfl)
            simp only [Act.put, List.setIfInBounds_toArray, List.set_cons_zero, List.set_cons_succ]
            refine wpAnyH_take (i := 11) (oi := { dst := some 52, op := Op.load 4 (Operand.tmp 51), type := 4, pos := "law.go:108", after := #[{ on := 10, ground := Ground.data }], guard := none }) (v := ?_) rfl (by kernel_rfl) (by kernel_rfl) (by kernel_rfl) (fun _ _ _ h => h) (Or.inl ⟨by rfl, ?_⟩) hS ?_
            rotate_left 1
            · intro w9 hS9; obtain ⟨z0, z1, z2, z3, z4, z5, z6, z7, z8, z9⟩ := hS9; go_simp; (try with_reducible rfl)
            simp only [Act.put, List.setIfInBounds_toArray, List.set_cons_zero, List.set_cons_succ]
            refine wpAnyH_ready (rs := [1]) (by kernel_rfl) (by simp) ?_
            refine AllReadyH.cons (o := { dst := some 42, op := Op.load 4 (Operand.tmp 41), type := 4, pos := "law.go:108", after := #[{ on := 0, ground := Ground.data }], guard := none }) rfl (fun K hK => ?_) AllReadyH.nil
            go_simp
            refine hK.out _ _ ?_ (fun hS => ?_)
            · exact hS
            clear hK K
            try simp only [Act.put, List.setIfInBounds_toArray, List.set_cons_zero, List.set_cons_succ]
            refine wpAnyH_take (i := 2) (oi := { dst := some 43, op := Op.move (Operand.tmp 42), type := 4, pos := "law.go:108", after := #[{ on := 1, ground := Ground.data }], guard := none }) (v := ?_) rfl (by kernel_rfl) (by kernel_rfl) (by kernel_rfl) (fun _ _ _ h => h) (Or.inl ⟨by rfl, ?_⟩) hS ?_
            rotate_left 1
            · intro w9 hS9; obtain ⟨z0, z1, z2, z3, z4, z5, z6, z7, z8, z9⟩ := hS9; go_simp; (try with_reducible rfl)
            simp only [Act.put, List.setIfInBounds_toArray, List.set_cons_zero, List.set_cons_succ]
            refine wpAnyH_take (i := 3) (oi := { dst := some 44, op := Op.move (Operand.tmp 0), type := 27, pos := "law.go:108", after := #[{ on := 2, ground := Ground.guard }], guard := some (2, false) }) (v := ?_) rfl (by kernel_rfl) (by kernel_rfl) (by kernel_rfl) (fun _ _ _ h => h) (Or.inl ⟨by rfl, ?_⟩) hS ?_
            rotate_left 1
            · intro w9 hS9; obtain ⟨z0, z1, z2, z3, z4, z5, z6, z7, z8, z9⟩ := hS9; go_simp; (try with_reducible rfl)
            simp only [Act.put, List.setIfInBounds_toArray, List.set_cons_zero, List.set_cons_succ]
            refine wpAnyH_take (i := 4) (oi := { dst := some 45, op := Op.move (Operand.tmp 9), type := 3, pos := "law.go:108", after := #[{ on := 2, ground := Ground.guard }], guard := some (2, false) }) (v := ?_) rfl (by kernel_rfl) (by kernel_rfl) (by kernel_rfl) (fun _ _ _ h => h) (Or.inl ⟨by rfl, ?_⟩) hS ?_
            rotate_left 1
            · intro w9 hS9; obtain ⟨z0, z1, z2, z3, z4, z5, z6, z7, z8, z9⟩ := hS9; go_simp; (try with_reducible rfl)
            simp only [Act.put, List.setIfInBounds_toArray, List.set_cons_zero, List.set_cons_succ]
            refine wpAnyH_take (i := 5) (oi := { dst := some 46, op := Op.indexAddr 27 (Operand.tmp 44) (Operand.tmp 45), type := 0, pos := "law.go:108", after := #[{ on := 3, ground := Ground.data }, { on := 4, ground := Ground.data }, { on := 2, ground := Ground.guard }], guard := some (2, false) }) (v := ?_) rfl (by kernel_rfl) (by kernel_rfl) (by kernel_rfl) (fun _ _ _ h => h) (Or.inl ⟨by rfl, ?_⟩) hS ?_
            rotate_left 1
            · intro w9 hS9; obtain ⟨z0, z1, z2, z3, z4, z5, z6, z7, z8, z9⟩ := hS9; go_simp; (try with_reducible rfl)
            simp only [Act.put, List.setIfInBounds_toArray, List.set_cons_zero, List.set_cons_succ]
            refine wpAnyH_take (i := 6) (oi := { dst := some 47, op := Op.load 23 (Operand.tmp 46), type := 23, pos := "law.go:108", after := #[{ on := 5, ground := Ground.data }, { on := 2, ground := Ground.guard }], guard := some (2, false) }) (v := ?_) rfl (by kernel_rfl) (by kernel_rfl) (by kernel_rfl) (fun _ _ _ h => h) (Or.inl ⟨by rfl, ?_⟩) hS ?_
            rotate_left 1
            · intro w9 hS9; obtain ⟨z0, z1, z2, z3, z4, z5, z6, z7, z8, z9⟩ := hS9; go_simp; (try with_reducible rfl)
            simp only [Act.put, List.setIfInBounds_toArray, List.set_cons_zero, List.set_cons_succ]
            refine wpAnyH_take (i := 7) (oi := { dst := some 48, op := Op.load 23 (Operand.tmp 3), type := 23, pos := "law.go:108", after := #[{ on := 2, ground := Ground.guard }], guard := some (2, false) }) (v := ?_) rfl (by kernel_rfl) (by kernel_rfl) (by kernel_rfl) (fun _ _ _ h => h) (Or.inl ⟨by rfl, ?_⟩) hS ?_
            rotate_left 1
            · intro w9 hS9; obtain ⟨z0, z1, z2, z3, z4, z5, z6, z7, z8, z9⟩ := hS9; go_simp; (try with_reducible rfl)
            simp only [Act.put, List.setIfInBounds_toArray, List.set_cons_zero, List.set_cons_succ]
            refine wpAnyH_take (i := 8) (oi := { dst := some 49, op := Op.binOp BinOp.eql 23 (Operand.tmp 47) (Operand.tmp 48) 23, type := 4, pos := "law.go:108", after := #[{ on := 6, ground := Ground.data }, { on := 7, ground := Ground.data }, { on := 2, ground := Ground.guard }], guard := some (2, false) }) (v := ?_) rfl (by kernel_rfl) (by kernel_rfl) (by kernel_rfl) (fun _ _ _ h => h) (Or.inl ⟨by rfl, ?_⟩) hS ?_
            rotate_left 1
            · intro w9 hS9; obtain ⟨z0, z1, z2, z3, z4, z5, z6, z7, z8, z9⟩ := hS9; go_simp; (try with_reducible rfl)
            simp only [Act.put, List.setIfInBounds_toArray, List.set_cons_zero, List.set_cons_succ]
            refine wpAnyH_take (i := 9) (oi := { dst := some 50, op := Op.pick (Operand.tmp 43) (Operand.const (Value.bool true)) (Operand.tmp 49), type := 4, pos := "law.go:108", after := #[{ on := 2, ground := Ground.data }, { on := 8, ground := Ground.data }], guard := none }) (v := ?_) rfl (by kernel_rfl) (by kernel_rfl) (by kernel_rfl) (fun _ _ _ h => h) (Or.inl ⟨by rfl, ?_⟩) hS ?_
            rotate_left 1
            · intro w9 hS9; obtain ⟨z0, z1, z2, z3, z4, z5, z6, z7, z8, z9⟩ := hS9; go_simp; (try with_reducible rfl)
            simp only [Act.put, List.setIfInBounds_toArray, List.set_cons_zero, List.set_cons_succ]
            refine wpAnyH_take (i := 12) (oi := { dst := some 53, op := Op.move (Operand.tmp 52), type := 4, pos := "law.go:108", after := #[{ on := 11, ground := Ground.data }, { on := 2, ground := Ground.chain }], guard := none }) (v := ?_) rfl (by kernel_rfl) (by kernel_rfl) (by kernel_rfl) (fun _ _ _ h => h) (Or.inl ⟨by rfl, ?_⟩) hS ?_
            rotate_left 1
            · intro w9 hS9; obtain ⟨z0, z1, z2, z3, z4, z5, z6, z7, z8, z9⟩ := hS9; go_simp; (try with_reducible rfl)
            simp only [Act.put, List.setIfInBounds_toArray, List.set_cons_zero, List.set_cons_succ]
            refine wpAnyH_take (i := 13) (oi := { dst := some 54, op := Op.move (Operand.tmp 0), type := 27, pos := "law.go:108", after := #[{ on := 12, ground := Ground.guard }], guard := some (12, false) }) (v := undef) rfl (by kernel_rfl) (by kernel_rfl) (by kernel_rfl) (fun _ _ _ h => h) (Or.inr ⟨by rfl, rfl⟩) hS ?_
            simp only [Act.put, List.setIfInBounds_toArray, List.set_cons_zero, List.set_cons_succ]
            refine wpAnyH_take (i := 14) (oi := { dst := some 55, op := Op.move (Operand.tmp 9), type := 3, pos := "law.go:108", after := #[{ on := 12, ground := Ground.guard }], guard := some (12, false) }) (v := undef) rfl (by kernel_rfl) (by kernel_rfl) (by kernel_rfl) (fun _ _ _ h => h) (Or.inr ⟨by rfl, rfl⟩) hS ?_
            simp only [Act.put, List.setIfInBounds_toArray, List.set_cons_zero, List.set_cons_succ]
            refine wpAnyH_take (i := 15) (oi := { dst := some 56, op := Op.indexAddr 27 (Operand.tmp 54) (Operand.tmp 55), type := 0, pos := "law.go:108", after := #[{ on := 13, ground := Ground.data }, { on := 14, ground := Ground.data }, { on := 12, ground := Ground.guard }], guard := some (12, false) }) (v := undef) rfl (by kernel_rfl) (by kernel_rfl) (by kernel_rfl) (fun _ _ _ h => h) (Or.inr ⟨by rfl, rfl⟩) hS ?_
            simp only [Act.put, List.setIfInBounds_toArray, List.set_cons_zero, List.set_cons_succ]
            refine wpAnyH_take (i := 16) (oi := { dst := some 57, op := Op.load 23 (Operand.tmp 56), type := 23, pos := "law.go:108", after := #[{ on := 15, ground := Ground.data }, { on := 12, ground := Ground.guard }], guard := some (12, false) }) (v := undef) rfl (by kernel_rfl) (by kernel_rfl) (by kernel_rfl) (fun _ _ _ h => h) (Or.inr ⟨by rfl, rfl⟩) hS ?_
            simp only [Act.put, List.setIfInBounds_toArray, List.set_cons_zero, List.set_cons_succ]
            refine wpAnyH_take (i := 17) (oi := { dst := some 58, op := Op.load 23 (Operand.tmp 5), type := 23, pos := "law.go:108", after := #[{ on := 12, ground := Ground.guard }], guard := some (12, false) }) (v := undef) rfl (by kernel_rfl) (by kernel_rfl) (by kernel_rfl) (fun _ _ _ h => h) (Or.inr ⟨by rfl, rfl⟩) hS ?_
            simp only [Act.put, List.setIfInBounds_toArray, List.set_cons_zero, List.set_cons_succ]
            refine wpAnyH_take (i := 18) (oi := { dst := some 59, op := Op.binOp BinOp.eql 23 (Operand.tmp 57) (Operand.tmp 58) 23, type := 4, pos := "law.go:108", after := #[{ on := 16, ground := Ground.data }, { on := 17, ground := Ground.data }, { on := 12, ground := Ground.guard }], guard := some (12, false) }) (v := undef) rfl (by kernel_rfl) (by kernel_rfl) (by kernel_rfl) (fun _ _ _ h => h) (Or.inr ⟨by rfl, rfl⟩) hS ?_
            simp only [Act.put, List.setIfInBounds_toArray, List.set_cons_zero, List.set_cons_succ]
            refine wpAnyH_take (i := 19) (oi := { dst := some 60, op := Op.pick (Operand.tmp 53) (Operand.const (Value.bool true)) (Operand.tmp 59), type := 4, pos := "law.go:108", after := #[{ on := 12, ground := Ground.data }, { on := 18, ground := Ground.data }], guard := none }) (v := ?_) rfl (by kernel_rfl) (by kernel_rfl) (by kernel_rfl) (fun _ _ _ h => h) (Or.inl ⟨by rfl, ?_⟩) hS ?_
            rotate_left 1
            · intro w9 hS9; obtain ⟨z0, z1, z2, z3, z4, z5, z6, z7, z8, z9⟩ := hS9; go_simp; (try with_reducible rfl)
            simp only [Act.put, List.setIfInBounds_toArray, List.set_cons_zero, List.set_cons_succ]
            refine wpAnyH_take (i := 20) (oi := { dst := some 61, op := Op.indexAddr 35 (Operand.tmp 7) (Operand.const (Value.int IntKind.i64 0)), type := 0, pos := "law.go:108", after := #[{ on := 0, ground := Ground.phase }, { on := 1, ground := Ground.phase }, { on := 2, ground := Ground.phase }, { on := 3, ground := Ground.phase }, { on := 4, ground := Ground.phase }, { on := 5, ground := Ground.phase }, { on := 6, ground := Ground.phase }, { on := 7, ground := Ground.phase }, { on := 8, ground := Ground.phase }, { on := 9, ground := Ground.phase }, { on := 10, ground := Ground.phase }, { on := 11, ground := Ground.phase }, { on := 12, ground := Ground.textOnly Departure.lateStoresUnsure }, { on := 13, ground := Ground.textOnly Departure.lateStores }, { on := 14, ground := Ground.textOnly Departure.lateStores }, { on := 15, ground := Ground.textOnly Departure.lateStores }, { on := 16, ground := Ground.textOnly Departure.lateStores }, { on := 17, ground := Ground.textOnly Departure.lateStores }, { on := 18, ground := Ground.textOnly Departure.lateStores }, { on := 19, ground := Ground.textOnly Departure.lateStoresUnsure }], guard := none }) (v := ?_) rfl (by kernel_rfl) (by kernel_rfl) (by kernel_rfl) (fun _ _ _ h => h) (Or.inl ⟨by rfl, ?_⟩) hS ?_
            rotate_left 1
            · intro w9 hS9; obtain ⟨z0, z1, z2, z3, z4, z5, z6, z7, z8, z9⟩ := hS9; go_simp; (try with_reducible rfl)
            simp only [Act.put, List.setIfInBounds_toArray, List.set_cons_zero, List.set_cons_succ]
            refine wpAnyH_ready (rs := [21]) (by kernel_rfl) (by simp) ?_
            refine AllReadyH.cons (o := { dst := none, op := Op.store 4 (Operand.tmp 61) (Operand.tmp 50), type := 0, pos := "law.go:108", after := #[{ on := 20, ground := Ground.data }, { on := 9, ground := Ground.data }, { on := 12, ground := Ground.chain }, { on := 0, ground := Ground.phase }, { on := 1, ground := Ground.phase }, { on := 2, ground := Ground.phase }, { on := 3, ground := Ground.phase }, { on := 4, ground := Ground.phase }, { on := 5, ground := Ground.phase }, { on := 6, ground := Ground.phase }, { on := 7, ground := Ground.phase }, { on := 8, ground := Ground.phase }, { on := 9, ground := Ground.phase }, { on := 10, ground := Ground.phase }, { on := 11, ground := Ground.phase }, { on := 12, ground := Ground.textOnly Departure.lateStoresUnsure }, { on := 13, ground := Ground.textOnly Departure.lateStores }, { on := 14, ground := Ground.textOnly Departure.lateStores }, { on := 15, ground := Ground.textOnly Departure.lateStores }, { on := 16, ground := Ground.textOnly Departure.lateStores }, { on := 17, ground := Ground.textOnly Departure.lateStores }, { on := 18, ground := Ground.textOnly Departure.lateStores }, { on := 19, ground := Ground.textOnly Departure.lateStoresUnsure }], guard := none }) rfl (fun K hK => ?_) AllReadyH.nil
            go_simp
            refine hK.out _ _ ?_ (fun hS => ?_)
            · obtain ⟨z0, z1, z2, z3, z4, z5, z6, z7, z8, z9⟩ := hS; exact ⟨by exact cell_set_ne (by first | assumption | (simp; done)) z0, by exact cell_set_ne (by first | assumption | (simp; done)) z1, by exact cell_set_ne (by first | assumption | (simp; done)) z2, by exact cell_set_ne (by first | assumption | (simp; done)) z3, by exact cell_set_ne (by first | assumption | (simp; done)) z4, by exact cell_set_ne (by first | assumption | (simp; done)) z5, by exact cell_set_ne (by first | assumption | (simp; done)) z6, by exact cell_set_ne (by first | assumption | (simp; done)) z7, by exact cell_set_ne (by first | assumption | (simp; done)) z8, by first | exact (HB.out.drew.set 0 _ (by simp)).c 0 _ rfl | exact (HB.out.drew.set 0 _ (by simp)).c 1 _ rfl | exact ((HB.out.drew.set 0 _ (by simp)).set 1 _ (by simp)).c 0 _ rfl | exact ((HB.out.drew.set 0 _ (by simp)).set 1 _ (by simp)).c 1 _ rfl⟩
            clear hK K
            try simp only [Act.put, List.setIfInBounds_toArray, List.set_cons_zero, List.set_cons_succ]
            refine wpAnyH_take (i := 22) (oi := { dst := some 62, op := Op.indexAddr 35 (Operand.tmp 7) (Operand.const (Value.int IntKind.i64 1)), type := 0, pos := "law.go:108", after := #[{ on := 0, ground := Ground.phase }, { on := 1, ground := Ground.phase }, { on := 2, ground := Ground.phase }, { on := 3, ground := Ground.phase }, { on := 4, ground := Ground.phase }, { on := 5, ground := Ground.phase }, { on := 6, ground := Ground.phase }, { on := 7, ground := Ground.phase }, { on := 8, ground := Ground.phase }, { on := 9, ground := Ground.phase }, { on := 10, ground := Ground.phase }, { on := 11, ground := Ground.phase }, { on := 12, ground := Ground.phase }, { on := 13, ground := Ground.phase }, { on := 14, ground := Ground.phase }, { on := 15, ground := Ground.phase }, { on := 16, ground := Ground.phase }, { on := 17, ground := Ground.phase }, { on := 18, ground := Ground.phase }, { on := 19, ground := Ground.phase }, { on := 20, ground := Ground.phase }, { on := 21, ground := Ground.phase }], guard := none }) (v := ?_) rfl (by kernel_rfl) (by kernel_rfl) (by kernel_rfl) (fun _ _ _ h => h) (Or.inl ⟨by rfl, ?_⟩) hS ?_
            rotate_left 1
            · intro w9 hS9; obtain ⟨z0, z1, z2, z3, z4, z5, z6, z7, z8, z9⟩ := hS9; go_simp; (try with_reducible rfl)
            simp only [Act.put, List.setIfInBounds_toArray, List.set_cons_zero, List.set_cons_succ]
            refine wpAnyH_ready (rs := [23]) (by kernel_rfl) (by simp) ?_
            refine AllReadyH.cons (o := { dst := none, op := Op.store 4 (Operand.tmp 62) (Operand.tmp 60), type := 0, pos := "law.go:108", after := #[{ on := 22, ground := Ground.data }, { on := 19, ground := Ground.data }, { on := 21, ground := Ground.chain }, { on := 0, ground := Ground.phase }, { on := 1, ground := Ground.phase }, { on := 2, ground := Ground.phase }, { on := 3, ground := Ground.phase }, { on := 4, ground := Ground.phase }, { on := 5, ground := Ground.phase }, { on := 6, ground := Ground.phase }, { on := 7, ground := Ground.phase }, { on := 8, ground := Ground.phase }, { on := 9, ground := Ground.phase }, { on := 10, ground := Ground.phase }, { on := 11, ground := Ground.phase }, { on := 12, ground := Ground.phase }, { on := 13, ground := Ground.phase }, { on := 14, ground := Ground.phase }, { on := 15, ground := Ground.phase }, { on := 16, ground := Ground.phase }, { on := 17, ground := Ground.phase }, { on := 18, ground := Ground.phase }, { on := 19, ground := Ground.phase }, { on := 20, ground := Ground.phase }, { on := 21, ground := Ground.phase }], guard := none }) rfl (fun K hK => ?_) AllReadyH.nil
            go_simp
            refine hK.out _ _ ?_ (fun hS => ?_)
            · obtain ⟨z0, z1, z2, z3, z4, z5, z6, z7, z8, z9⟩ := hS; exact ⟨by exact cell_set_ne (by first | assumption | (simp; done)) z0, by exact cell_set_ne (by first | assumption | (simp; done)) z1, by exact cell_set_ne (by first | assumption | (simp; done)) z2, by exact cell_set_ne (by first | assumption | (simp; done)) z3, by exact cell_set_ne (by first | assumption | (simp; done)) z4, by exact cell_set_ne (by first | assumption | (simp; done)) z5, by exact cell_set_ne (by first | assumption | (simp; done)) z6, by exact cell_set_ne (by first | assumption | (simp; done)) z7, by exact cell_set_ne (by first | assumption | (simp; done)) z8, by first | exact (HB.out.drew.set 0 _ (by simp)).c 0 _ rfl | exact (HB.out.drew.set 0 _ (by simp)).c 1 _ rfl | exact ((HB.out.drew.set 0 _ (by simp)).set 1 _ (by simp)).c 0 _ rfl | exact ((HB.out.drew.set 0 _ (by simp)).set 1 _ (by simp)).c 1 _ rfl⟩
            clear hK K
            try simp only [Act.put, List.setIfInBounds_toArray, List.set_cons_zero, List.set_cons_succ]
            refine wpAnyH_done (by kernel_rfl) ?_ _
            go_wp2_with fail
            go_meet
            refine ⟨Lib.hid ?_, Lib.hid ?_⟩
            · exact Below.setCell (p := ⟨bi, 1, none⟩) (Below.setCell (p := ⟨bi, 0, none⟩) (below_drew HFr.out) (Nat.le_refl bi) _) (Nat.le_refl bi) _
            · exact (HB.out.drew.set 0 _ (by simp)).set 1 _ (by simp)
          case false.false =>
            refine held_drew (S := fun w' : World => w'.cell? ⟨b0, off + j * 3, none⟩ = some (.int .i64 xk) ∧ w'.cell? ⟨b0, off + j * 3 + 1, none⟩ = some (.int .i64 xn) ∧ w'.cell? ⟨b0, off + j * 3 + 2, none⟩ = some (.string xs) ∧ w'.cell? ⟨ba, 0, none⟩ = some (.int .i64 ak) ∧ w'.cell? ⟨ba, 1, none⟩ = some (.int .i64 an) ∧ w'.cell? ⟨ba, 2, none⟩ = some (.string at_) ∧ w'.cell? ⟨bb, 0, none⟩ = some (.int .i64 bk) ∧ w'.cell? ⟨bb, 1, none⟩ = some (.int .i64 bn) ∧ w'.cell? ⟨bb, 2, none⟩ = some (.string bt_)) (by kernel_rfl) ?_
            have hS : (fun w' : World => w'.cell? ⟨b0, off + j * 3, none⟩ = some (.int .i64 xk) ∧ w'.cell? ⟨b0, off + j * 3 + 1, none⟩ = some (.int .i64 xn) ∧ w'.cell? ⟨b0, off + j * 3 + 2, none⟩ = some (.string xs) ∧ w'.cell? ⟨ba, 0, none⟩ = some (.int .i64 ak) ∧ w'.cell? ⟨ba, 1, none⟩ = some (.int .i64 an) ∧ w'.cell? ⟨ba, 2, none⟩ = some (.string at_) ∧ w'.cell? ⟨bb, 0, none⟩ = some (.int .i64 bk) ∧ w'.cell? ⟨bb, 1, none⟩ = some (.int .i64 bn) ∧ w'.cell? ⟨bb, 2, none⟩ = some (.string bt_)) wr.drew := ⟨g0, g1, g2, cBAr0, cBAr1, cBAr2, cBBr0, cBBr1, cBBr2⟩
            refine wpAnyH_take (i := 0) (oi := { dst := some 41, op := Op.indexAddr 35 (Operand.tmp 7) (Operand.const (Value.int IntKind.i64 0)), type := 0, pos := "law.go:108", after := #[], guard := none }) (v := ?_) rfl (by kernel_rfl) (by kernel_rfl) (by kernel_rfl) (fun _ _ _ h => h) (Or.inl ⟨by rfl, ?_⟩) hS ?_
            rotate_left 1
            · intro w9 hS9; obtain ⟨z0, z1, z2, z3, z4, z5, z6, z7, z8⟩ := hS9; go_simp; (try with_reducible rfl)
            simp only [Act.put, List.setIfInBounds_toArray, List.set_cons_zero, List.set_cons_succ]
            refine wpAnyH_take (i := 10) (oi := { dst := some 51, op := Op.indexAddr 35 (Operand.tmp 7) (Operand.const (Value.int IntKind.i64 1)), type := 0, pos := "law.go:108", after := #[], guard := none }) (v := ?_) rfl (by kernel_rfl) (by kernel_rfl) (by kernel_rfl) (fun _ _ _ h => h) (Or.inl ⟨by rfl, ?_⟩) hS ?_
            rotate_left 1
            · intro w9 hS9; obtain ⟨z0, z1, z2, z3, z4, z5, z6, z7, z8⟩ := hS9; go_simp; (try with_reducible rfl)
            simp only [Act.put, List.setIfInBounds_toArray, List.set_cons_zero, List.set_cons_succ]
            refine wpAnyH_ready (rs := [1, 11]) (by kernel_rfl) (by simp) ?_
            refine AllReadyH.cons (o := { dst := some 42, op := Op.load 4 (Operand.tmp 41), type := 4, pos := "law.go:108", after := #[{ on := 0, ground := Ground.data }], guard := none }) rfl (fun K hK => ?_) (AllReadyH.cons (o := { dst := some 52, op := Op.load 4 (Operand.tmp 51), type := 4, pos := "law.go:108", after := #[{ on := 10, ground := Ground.data }], guard := none }) rfl (fun K hK => ?_) AllReadyH.nil)
            · go_simp
              refine hK.out _ _ ?_ (fun hS => ?_)
              · exact hS
              clear hK K
              try simp only [Act.put, List.setIfInBounds_toArray, List.set_cons_zero, List.set_cons_succ]
              refine wpAnyH_take (i := 2) (oi := { dst := some 43, op := Op.move (Operand.tmp 42), type := 4, pos := "law.go:108", after := #[{ on := 1, ground := Ground.data }], guard := none }) (v := ?_) rfl (by kernel_rfl) (by kernel_rfl) (by kernel_rfl) (fun _ _ _ h => h) (Or.inl ⟨by rfl, ?_⟩) hS ?_
              rotate_left 1
              · intro w9 hS9; obtain ⟨z0, z1, z2, z3, z4, z5, z6, z7, z8⟩ := hS9; go_simp; (try with_reducible rfl)
              simp only [Act.put, List.setIfInBounds_toArray, List.set_cons_zero, List.set_cons_succ]
              refine wpAnyH_take (i := 3) (oi := { dst := some 44, op := Op.move (Operand.tmp 0), type := 27, pos := "law.go:108", after := #[{ on := 2, ground := Ground.guard }], guard := some (2, false) }) (v := ?_) rfl (by kernel_rfl) (by kernel_rfl) (by kernel_rfl) (fun _ _ _ h => h) (Or.inl ⟨by rfl, ?_⟩) hS ?_
              rotate_left 1
              · intro w9 hS9; obtain ⟨z0, z1, z2, z3, z4, z5, z6, z7, z8⟩ := hS9; go_simp; (try with_reducible rfl)
              simp only [Act.put, List.setIfInBounds_toArray, List.set_cons_zero, List.set_cons_succ]
              refine wpAnyH_take (i := 4) (oi := { dst := some 45, op := Op.move (Operand.tmp 9), type := 3, pos := "law.go:108", after := #[{ on := 2, ground := Ground.guard }], guard := some (2, false) }) (v := ?_) rfl (by kernel_rfl) (by kernel_rfl) (by kernel_rfl) (fun _ _ _ h => h) (Or.inl ⟨by rfl, ?_⟩) hS ?_
              rotate_left 1
              · intro w9 hS9; obtain ⟨z0, z1, z2, z3, z4, z5, z6, z7, z8⟩ := hS9; go_simp; (try with_reducible rfl)
              simp only [Act.put, List.setIfInBounds_toArray, List.set_cons_zero, List.set_cons_succ]
              refine wpAnyH_take (i := 5) (oi := { dst := some 46, op := Op.indexAddr 27 (Operand.tmp 44) (Operand.tmp 45), type := 0, pos := "law.go:108", after := #[{ on := 3, ground := Ground.data }, { on := 4, ground := Ground.data }, { on := 2, ground := Ground.guard }], guard := some (2, false) }) (v := ?_) rfl (by kernel_rfl) (by kernel_rfl) (by kernel_rfl) (fun _ _ _ h => h) (Or.inl ⟨by rfl, ?_⟩) hS ?_
              rotate_left 1
              · intro w9 hS9; obtain ⟨z0, z1, z2, z3, z4, z5, z6, z7, z8⟩ := hS9; go_simp; (try with_reducible rfl)
              simp only [Act.put, List.setIfInBounds_toArray, List.set_cons_zero, List.set_cons_succ]
              refine wpAnyH_take (i := 6) (oi := { dst := some 47, op := Op.load 23 (Operand.tmp 46), type := 23, pos := "law.go:108", after := #[{ on := 5, ground := Ground.data }, { on := 2, ground := Ground.guard }], guard := some (2, false) }) (v := ?_) rfl (by kernel_rfl) (by kernel_rfl) (by kernel_rfl) (fun _ _ _ h => h) (Or.inl ⟨by rfl, ?_⟩) hS ?_
              rotate_left 1
              · intro w9 hS9; obtain ⟨z0, z1, z2, z3, z4, z5, z6, z7, z8⟩ := hS9; go_simp; (try with_reducible rfl)
              simp only [Act.put, List.setIfInBounds_toArray, List.set_cons_zero, List.set_cons_succ]
              refine wpAnyH_take (i := 7) (oi := { dst := some 48, op := Op.load 23 (Operand.tmp 3), type := 23, pos := "law.go:108", after := #[{ on := 2, ground := Ground.guard }], guard := some (2, false) }) (v := ?_) rfl (by kernel_rfl) (by kernel_rfl) (by kernel_rfl) (fun _ _ _ h => h) (Or.inl ⟨by rfl, ?_⟩) hS ?_
              rotate_left 1
              · intro w9 hS9; obtain ⟨z0, z1, z2, z3, z4, z5, z6, z7, z8⟩ := hS9; go_simp; (try with_reducible rfl)
              simp only [Act.put, List.setIfInBounds_toArray, List.set_cons_zero, List.set_cons_succ]
              refine wpAnyH_take (i := 8) (oi := { dst := some 49, op := Op.binOp BinOp.eql 23 (Operand.tmp 47) (Operand.tmp 48) 23, type := 4, pos := "law.go:108", after := #[{ on := 6, ground := Ground.data }, { on := 7, ground := Ground.data }, { on := 2, ground := Ground.guard }], guard := some (2, false) }) (v := ?_) rfl (by kernel_rfl) (by kernel_rfl) (by kernel_rfl) (fun _ _ _ h => h) (Or.inl ⟨by rfl, ?_⟩) hS ?_
              rotate_left 1
              · intro w9 hS9; obtain ⟨z0, z1, z2, z3, z4, z5, z6, z7, z8⟩ := hS9; go_simp; (try with_reducible rfl)
              simp only [Act.put, List.setIfInBounds_toArray, List.set_cons_zero, List.set_cons_succ]
              refine wpAnyH_take (i := 9) (oi := { dst := some 50, op := Op.pick (Operand.tmp 43) (Operand.const (Value.bool true)) (Operand.tmp 49), type := 4, pos := "law.go:108", after := #[{ on := 2, ground := Ground.data }, { on := 8, ground := Ground.data }], guard := none }) (v := ?_) rfl (by kernel_rfl) (by kernel_rfl) (by kernel_rfl) (fun _ _ _ h => h) (Or.inl ⟨by rfl, ?_⟩) hS ?_
              rotate_left 1
              · intro w9 hS9; obtain ⟨z0, z1, z2, z3, z4, z5, z6, z7, z8⟩ := hS9; go_simp; (try with_reducible rfl)
              simp only [Act.put, List.setIfInBounds_toArray, List.set_cons_zero, List.set_cons_succ]
              refine wpAnyH_ready (rs := [11]) (by kernel_rfl) (by simp) ?_
              refine AllReadyH.cons (o := { dst := some 52, op := Op.load 4 (Operand.tmp 51), type := 4, pos := "law.go:108", after := #[{ on := 10, ground := Ground.data }], guard := none }) rfl (fun K hK => ?_) AllReadyH.nil
              go_simp
              refine hK.out _ _ ?_ (fun hS => ?_)
              · exact hS
              clear hK K
              try simp only [Act.put, List.setIfInBounds_toArray, List.set_cons_zero, List.set_cons_succ]
              refine wpAnyH_take (i := 12) (oi := { dst := some 53, op := Op.move (Operand.tmp 52), type := 4, pos := "law.go:108", after := #[{ on := 11, ground := Ground.data }, { on := 2, ground := Ground.chain }], guard := none }) (v := ?_) rfl (by kernel_rfl) (by kernel_rfl) (by kernel_rfl) (fun _ _ _ h => h) (Or.inl ⟨by rfl, ?_⟩) hS ?_
              rotate_left 1
              · intro w9 hS9; obtain ⟨z0, z1, z2, z3, z4, z5, z6, z7, z8⟩ := hS9; go_simp; (try with_reducible rfl)
              simp only [Act.put, List.setIfInBounds_toArray, List.set_cons_zero, List.set_cons_succ]
              refine wpAnyH_take (i := 13) (oi := { dst := some 54, op := Op.move (Operand.tmp 0), type := 27, pos := "law.go:108", after := #[{ on := 12, ground := Ground.guard }], guard := some (12, false) }) (v := ?_) rfl (by kernel_rfl) (by kernel_rfl) (by kernel_rfl) (fun _ _ _ h => h) (Or.inl ⟨by rfl, ?_⟩) hS ?_
              rotate_left 1
              · intro w9 hS9; obtain ⟨z0, z1, z2, z3, z4, z5, z6, z7, z8⟩ := hS9; go_simp; (try with_reducible rfl)
              simp only [Act.put, List.setIfInBounds_toArray, List.set_cons_zero, List.set_cons_succ]
              refine wpAnyH_take (i := 14) (oi := { dst := some 55, op := Op.move (Operand.tmp 9), type := 3, pos := "law.go:108", after := #[{ on := 12, ground := Ground.guard }], guard := some (12, false) }) (v := ?_) rfl (by kernel_rfl) (by kernel_rfl) (by kernel_rfl) (fun _ _ _ h => h) (Or.inl ⟨by rfl, ?_⟩) hS ?_
              rotate_left 1
              · intro w9 hS9; obtain ⟨z0, z1, z2, z3, z4, z5, z6, z7, z8⟩ := hS9; go_simp; (try with_reducible rfl)
              simp only [Act.put, List.setIfInBounds_toArray, List.set_cons_zero, List.set_cons_succ]
              refine wpAnyH_take (i := 15) (oi := { dst := some 56, op := Op.indexAddr 27 (Operand.tmp 54) (Operand.tmp 55), type := 0, pos := "law.go:108", after := #[{ on := 13, ground := Ground.data }, { on := 14, ground := Ground.data }, { on := 12, ground := Ground.guard }], guard := some (12, false) }) (v := ?_) rfl (by kernel_rfl) (by kernel_rfl) (by kernel_rfl) (fun _ _ _ h => h) (Or.inl ⟨by rfl, ?_⟩) hS ?_
              rotate_left 1
              · intro w9 hS9; obtain ⟨z0, z1, z2, z3, z4, z5, z6, z7, z8⟩ := hS9; go_simp; (try with_reducible rfl)
              simp only [Act.put, List.setIfInBounds_toArray, List.set_cons_zero, List.set_cons_succ]
              refine wpAnyH_take (i := 16) (oi := { dst := some 57, op := Op.load 23 (Operand.tmp 56), type := 23, pos := "law.go:108", after := #[{ on := 15, ground := Ground.data }, { on := 12, ground := Ground.guard }], guard := some (12, false) }) (v := ?_) rfl (by kernel_rfl) (by kernel_rfl) (by kernel_rfl) (fun _ _ _ h => h) (Or.inl ⟨by rfl, ?_⟩) hS ?_
              rotate_left 1
              · intro w9 hS9; obtain ⟨z0, z1, z2, z3, z4, z5, z6, z7, z8⟩ := hS9; go_simp; (try with_reducible rfl)
              simp only [Act.put, List.setIfInBounds_toArray, List.set_cons_zero, List.set_cons_succ]
              refine wpAnyH_take (i := 17) (oi := { dst := some 58, op := Op.load 23 (Operand.tmp 5), type := 23, pos := "law.go:108", after := #[{ on := 12, ground := Ground.guard }], guard := some (12, false) }) (v := ?_) rfl (by kernel_rfl) (by kernel_rfl) (by kernel_rfl) (fun _ _ _ h => h) (Or.inl ⟨by rfl, ?_⟩) hS ?_
              rotate_left 1
              · intro w9 hS9; obtain ⟨z0, z1, z2, z3, z4, z5, z6, z7, z8⟩ := hS9; go_simp; (try with_reducible rfl)
              simp only [Act.put, List.setIfInBounds_toArray, List.set_cons_zero, List.set_cons_succ]
              refine wpAnyH_take (i := 18) (oi := { dst := some 59, op := Op.binOp BinOp.eql 23 (Operand.tmp 57) (Operand.tmp 58) 23, type := 4, pos := "law.go:108", after := #[{ on := 16, ground := Ground.data }, { on := 17, ground := Ground.data }, { on := 12, ground := Ground.guard }], guard := some (12, false) }) (v := ?_) rfl (by kernel_rfl) (by kernel_rfl) (by kernel_rfl) (fun _ _ _ h => h) (Or.inl ⟨by rfl, ?_⟩) hS ?_
              rotate_left 1
              · intro w9 hS9; obtain ⟨z0, z1, z2, z3, z4, z5, z6, z7, z8⟩ := hS9; go_simp; (try with_reducible rfl)
              simp only [Act.put, List.setIfInBounds_toArray, List.set_cons_zero, List.set_cons_succ]
              refine wpAnyH_take (i := 19) (oi := { dst := some 60, op := Op.pick (Operand.tmp 53) (Operand.const (Value.bool true)) (Operand.tmp 59), type := 4, pos := "law.go:108", after := #[{ on := 12, ground := Ground.data }, { on := 18, ground := Ground.data }], guard := none }) (v := ?_) rfl (by kernel_rfl) (by kernel_rfl) (by kernel_rfl) (fun _ _ _ h => h) (Or.inl ⟨by rfl, ?_⟩) hS ?_
              rotate_left 1
              · intro w9 hS9; obtain ⟨z0, z1, z2, z3, z4, z5, z6, z7, z8⟩ := hS9; go_simp; (try with_reducible rfl)
              simp only [Act.put, List.setIfInBounds_toArray, List.set_cons_zero, List.set_cons_succ]
              refine wpAnyH_take (i := 20) (oi := { dst := some 61, op := Op.indexAddr 35 (Operand.tmp 7) (Operand.const (Value.int IntKind.i64 0)), type := 0, pos := "law.go:108", after := #[{ on := 0, ground := Ground.phase }, { on := 1, ground := Ground.phase }, { on := 2, ground := Ground.phase }, { on := 3, ground := Ground.phase }, { on := 4, ground := Ground.phase }, { on := 5, ground := Ground.phase }, { on := 6, ground := Ground.phase }, { on := 7, ground := Ground.phase }, { on := 8, ground := Ground.phase }, { on := 9, ground := Ground.phase }, { on := 10, ground := Ground.phase }, { on := 11, ground := Ground.phase }, { on := 12, ground := Ground.textOnly Departure.lateStoresUnsure }, { on := 13, ground := Ground.textOnly Departure.lateStores }, { on := 14, ground := Ground.textOnly Departure.lateStores }, { on := 15, ground := Ground.textOnly Departure.lateStores }, { on := 16, ground := Ground.textOnly Departure.lateStores }, { on := 17, ground := Ground.textOnly Departure.lateStores }, { on := 18, ground := Ground.textOnly Departure.lateStores }, { on := 19, ground := Ground.textOnly Departure.lateStoresUnsure }], guard := none }) (v := ?_) rfl (by kernel_rfl) (by kernel_rfl) (by kernel_rfl) (fun _ _ _ h => h) (Or.inl ⟨by rfl, ?_⟩) hS ?_
              rotate_left 1
              · intro w9 hS9; obtain ⟨z0, z1, z2, z3, z4, z5, z6, z7, z8⟩ := hS9; go_simp; (try with_reducible rfl)
              simp only [Act.put, List.setIfInBounds_toArray, List.set_cons_zero, List.set_cons_succ]
              refine wpAnyH_ready (rs := [21]) (by kernel_rfl) (by simp) ?_
              refine AllReadyH.cons (o := { dst := none, op := Op.store 4 (Operand.tmp 61) (Operand.tmp 50), type := 0, pos := "law.go:108", after := #[{ on := 20, ground := Ground.data }, { on := 9, ground := Ground.data }, { on := 12, ground := Ground.chain }, { on := 0, ground := Ground.phase }, { on := 1, ground := Ground.phase }, { on := 2, ground := Ground.phase }, { on := 3, ground := Ground.phase }, { on := 4, ground := Ground.phase }, { on := 5, ground := Ground.phase }, { on := 6, ground := Ground.phase }, { on := 7, ground := Ground.phase }, { on := 8, ground := Ground.phase }, { on := 9, ground := Ground.phase }, { on := 10, ground := Ground.phase }, { on := 11, ground := Ground.phase }, { on := 12, ground := Ground.textOnly Departure.lateStoresUnsure }, { on := 13, ground := Ground.textOnly Departure.lateStores }, { on := 14, ground := Ground.textOnly Departure.lateStores }, { on := 15, ground := Ground.textOnly Departure.lateStores }, { on := 16, ground := Ground.textOnly Departure.lateStores }, { on := 17, ground := Ground.textOnly Departure.lateStores }, { on := 18, ground := Ground.textOnly Departure.lateStores }, { on := 19, ground := Ground.textOnly Departure.lateStoresUnsure }], guard := none }) rfl (fun K hK => ?_) AllReadyH.nil
              go_simp
              refine hK.out _ _ ?_ (fun hS => ?_)
              · obtain ⟨z0, z1, z2, z3, z4, z5, z6, z7, z8⟩ := hS; exact ⟨by exact cell_set_ne (by first | assumption | (simp; done)) z0, by exact cell_set_ne (by first | assumption | (simp; done)) z1, by exact cell_set_ne (by first | assumption | (simp; done)) z2, by exact cell_set_ne (by first | assumption | (simp; done)) z3, by exact cell_set_ne (by first | assumption | (simp; done)) z4, by exact cell_set_ne (by first | assumption | (simp; done)) z5, by exact cell_set_ne (by first | assumption | (simp; done)) z6, by exact cell_set_ne (by first | assumption | (simp; done)) z7, by exact cell_set_ne (by first | assumption | (simp; done)) z8⟩
              clear hK K
              try simp only [Act.put, List.setIfInBounds_toArray, List.set_cons_zero, List.set_cons_succ]
              refine wpAnyH_take (i := 22) (oi := { dst := some 62, op := Op.indexAddr 35 (Operand.tmp 7) (Operand.const (Value.int IntKind.i64 1)), type := 0, pos := "law.go:108", after := #[{ on := 0, ground := Ground.phase }, { on := 1, ground := Ground.phase }, { on := 2, ground := Ground.phase }, { on := 3, ground := Ground.phase }, { on := 4, ground := Ground.phase }, { on := 5, ground := Ground.phase }, { on := 6, ground := Ground.phase }, { on := 7, ground := Ground.phase }, { on := 8, ground := Ground.phase }, { on := 9, ground := Ground.phase }, { on := 10, ground := Ground.phase }, { on := 11, ground := Ground.phase }, { on := 12, ground := Ground.phase }, { on := 13, ground := Ground.phase }, { on := 14, ground := Ground.phase }, { on := 15, ground := Ground.phase }, { on := 16, ground := Ground.phase }, { on := 17, ground := Ground.phase }, { on := 18, ground := Ground.phase }, { on := 19, ground := Ground.phase }, { on := 20, ground := Ground.phase }, { on := 21, ground := Ground.phase }], guard := none }) (v := ?_) rfl (by kernel_rfl) (by kernel_rfl) (by kernel_rfl) (fun _ _ _ h => h) (Or.inl ⟨by rfl, ?_⟩) hS ?_
              rotate_left 1
              · intro w9 hS9; obtain ⟨z0, z1, z2, z3, z4, z5, z6, z7, z8⟩ := hS9; go_simp; (try with_reducible rfl)
              simp only [Act.put, List.setIfInBounds_toArray, List.set_cons_zero, List.set_cons_succ]
              refine wpAnyH_ready (rs := [23]) (by kernel_rfl) (by simp) ?_
              refine AllReadyH.cons (o := { dst := none, op := Op.store 4 (Operand.tmp 62) (Operand.tmp 60), type := 0, pos := "law.go:108", after := #[{ on := 22, ground := Ground.data }, { on := 19, ground := Ground.data }, { on := 21, ground := Ground.chain }, { on := 0, ground := Ground.phase }, { on := 1, ground := Ground.phase }, { on := 2, ground := Ground.phase }, { on := 3, ground := Ground.phase }, { on := 4, ground := Ground.phase }, { on := 5, ground := Ground.phase }, { on := 6, ground := Ground.phase }, { on := 7, ground := Ground.phase }, { on := 8, ground := Ground.phase }, { on := 9, ground := Ground.phase }, { on := 10, ground := Ground.phase }, { on := 11, ground := Ground.phase }, { on := 12, ground := Ground.phase }, { on := 13, ground := Ground.phase }, { on := 14, ground := Ground.phase }, { on := 15, ground := Ground.phase }, { on := 16, ground := Ground.phase }, { on := 17, ground := Ground.phase }, { on := 18, ground := Ground.phase }, { on := 19, ground := Ground.phase }, { on := 20, ground := Ground.phase }, { on := 21, ground := Ground.phase }], guard := none }) rfl (fun K hK => ?_) AllReadyH.nil
              go_simp
              refine hK.out _ _ ?_ (fun hS => ?_)
              · obtain ⟨z0, z1, z2, z3, z4, z5, z6, z7, z8⟩ := hS; exact ⟨by exact cell_set_ne (by first | assumption | (simp; done)) z0, by exact cell_set_ne (by first | assumption | (simp; done)) z1, by exact cell_set_ne (by first | assumption | (simp; done)) z2, by exact cell_set_ne (by first | assumption | (simp; done)) z3, by exact cell_set_ne (by first | assumption | (simp; done)) z4, by exact cell_set_ne (by first | assumption | (simp; done)) z5, by exact cell_set_ne (by first | assumption | (simp; done)) z6, by exact cell_set_ne (by first | assumption | (simp; done)) z7, by exact cell_set_ne (by first | assumption | (simp; done)) z8⟩
              clear hK K
              try simp only [Act.put, List.setIfInBounds_toArray, List.set_cons_zero, List.set_cons_succ]
              refine wpAnyH_done (by kernel_rfl) ?_ _
              go_wp2_with fail
              go_meet
              refine ⟨Lib.hid ?_, Lib.hid ?_⟩
              · exact Below.setCell (p := ⟨bi, 1, none⟩) (Below.setCell (p := ⟨bi, 0, none⟩) (below_drew HFr.out) (Nat.le_refl bi) _) (Nat.le_refl bi) _
              · exact (HB.out.drew.set 0 _ (by simp)).set 1 _ (by simp)
            · go_simp
              refine hK.out _ _ ?_ (fun hS => ?_)
              · exact hS
              clear hK K
              try simp only [Act.put, List.setIfInBounds_toArray, List.set_cons_zero, List.set_cons_succ]
              refine wpAnyH_ready (rs := [1]) (by kernel_rfl) (by simp) ?_
              refine AllReadyH.cons (o := { dst := some 42, op := Op.load 4 (Operand.tmp 41), type := 4, pos := "law.go:108", after := #[{ on := 0, ground := Ground.data }], guard := none }) rfl (fun K hK => ?_) AllReadyH.nil
              go_simp
              refine hK.out _ _ ?_ (fun hS => ?_)
              · exact hS
              clear hK K
              try simp only [Act.put, List.setIfInBounds_toArray, List.set_cons_zero, List.set_cons_succ]
              refine wpAnyH_take (i := 2) (oi := { dst := some 43, op := Op.move (Operand.tmp 42), type := 4, pos := "law.go:108", after := #[{ on := 1, ground := Ground.data }], guard := none }) (v := ?_) rfl (by kernel_rfl) (by kernel_rfl) (by kernel_rfl) (fun _ _ _ h => h) (Or.inl ⟨by rfl, ?_⟩) hS ?_
              rotate_left 1
              · intro w9 hS9; obtain ⟨z0, z1, z2, z3, z4, z5, z6, z7, z8⟩ := hS9; go_simp; (try with_reducible rfl)
              simp only [Act.put, List.setIfInBounds_toArray, List.set_cons_zero, List.set_cons_succ]
              refine wpAnyH_take (i := 3) (oi := { dst := some 44, op := Op.move (Operand.tmp 0), type := 27, pos := "law.go:108", after := #[{ on := 2, ground := Ground.guard }], guard := some (2, false) }) (v := ?_) rfl (by kernel_rfl) (by kernel_rfl) (by kernel_rfl) (fun _ _ _ h => h) (Or.inl ⟨by rfl, ?_⟩) hS ?_
              rotate_left 1
              · intro w9 hS9; obtain ⟨z0, z1, z2, z3, z4, z5, z6, z7, z8⟩ := hS9; go_simp; (try with_reducible rfl)
              simp only [Act.put, List.setIfInBounds_toArray, List.set_cons_zero, List.set_cons_succ]
              refine wpAnyH_take (i := 4) (oi := { dst := some 45, op := Op.move (Operand.tmp 9), type := 3, pos := "law.go:108", after := #[{ on := 2, ground := Ground.guard }], guard := some (2, false) }) (v := ?_) rfl (by kernel_rfl) (by kernel_rfl) (by kernel_rfl) (fun _ _ _ h => h) (Or.inl ⟨by rfl, ?_⟩) hS ?_
              rotate_left 1
              · intro w9 hS9; obtain ⟨z0, z1, z2, z3, z4, z5, z6, z7, z8⟩ := hS9; go_simp; (try with_reducible rfl)
              simp only [Act.put, List.setIfInBounds_toArray, List.set_cons_zero, List.set_cons_succ]
              refine wpAnyH_take (i := 5) (oi := { dst := some 46, op := Op.indexAddr 27 (Operand.tmp 44) (Operand.tmp 45), type := 0, pos := "law.go:108", after := #[{ on := 3, ground := Ground.data }, { on := 4, ground := Ground.data }, { on := 2, ground := Ground.guard }], guard := some (2, false) }) (v := ?_) rfl (by kernel_rfl) (by kernel_rfl) (by kernel_rfl) (fun _ _ _ h => h) (Or.inl ⟨by rfl, ?_⟩) hS ?_
              rotate_left 1
              · intro w9 hS9; obtain ⟨z0, z1, z2, z3, z4, z5, z6, z7, z8⟩ := hS9; go_simp; (try with_reducible rfl)
              simp only [Act.put, List.setIfInBounds_toArray, List.set_cons_zero, List.set_cons_succ]
              refine wpAnyH_take (i := 6) (oi := { dst := some 47, op := Op.load 23 (Operand.tmp 46), type := 23, pos := "law.go:108", after := #[{ on := 5, ground := Ground.data }, { on := 2, ground := Ground.guard }], guard := some (2, false) }) (v := ?_) rfl (by kernel_rfl) (by kernel_rfl) (by kernel_rfl) (fun _ _ _ h => h) (Or.inl ⟨by rfl, ?_⟩) hS ?_
              rotate_left 1
              · intro w9 hS9; obtain ⟨z0, z1, z2, z3, z4, z5, z6, z7, z8⟩ := hS9; go_simp; (try with_reducible rfl)
              simp only [Act.put, List.setIfInBounds_toArray, List.set_cons_zero, List.set_cons_succ]
              refine wpAnyH_take (i := 7) (oi := { dst := some 48, op := Op.load 23 (Operand.tmp 3), type := 23, pos := "law.go:108", after := #[{ on := 2, ground := Ground.guard }], guard := some (2, false) }) (v := ?_) rfl (by kernel_rfl) (by kernel_rfl) (by kernel_rfl) (fun _ _ _ h => h) (Or.inl ⟨by rfl, ?_⟩) hS ?_
              rotate_left 1
              · intro w9 hS9; obtain ⟨z0, z1, z2, z3, z4, z5, z6, z7, z8⟩ := hS9; go_simp; (try with_reducible rfl)
              simp only [Act.put, List.setIfInBounds_toArray, List.set_cons_zero, List.set_cons_succ]
              refine wpAnyH_take (i := 8) (oi := { dst := some 49, op := Op.binOp BinOp.eql 23 (Operand.tmp 47) (Operand.tmp 48) 23, type := 4, pos := "law.go:108", after := #[{ on := 6, ground := Ground.data }, { on := 7, ground := Ground.data }, { on := 2, ground := Ground.guard }], guard := some (2, false) }) (v := ?_) rfl (by kernel_rfl) (by kernel_rfl) (by kernel_rfl) (fun _ _ _ h => h) (Or.inl ⟨by rfl, ?_⟩) hS ?_
              rotate_left 1
              · intro w9 hS9; obtain ⟨z0, z1, z2, z3, z4, z5, z6, z7, z8⟩ := hS9; go_simp; (try with_reducible rfl)
              simp only [Act.put, List.setIfInBounds_toArray, List.set_cons_zero, List.set_cons_succ]
              refine wpAnyH_take (i := 9) (oi := { dst := some 50, op := Op.pick (Operand.tmp 43) (Operand.const (Value.bool true)) (Operand.tmp 49), type := 4, pos := "law.go:108", after := #[{ on := 2, ground := Ground.data }, { on := 8, ground := Ground.data }], guard := none }) (v := ?_) rfl (by kernel_rfl) (by kernel_rfl) (by kernel_rfl) (fun _ _ _ h => h) (Or.inl ⟨by rfl, ?_⟩) hS ?_
              rotate_left 1
              · intro w9 hS9; obtain ⟨z0, z1, z2, z3, z4, z5, z6, z7, z8⟩ := hS9; go_simp; (try with_reducible rfl)
              simp only [Act.put, List.setIfInBounds_toArray, List.set_cons_zero, List.set_cons_succ]
              refine wpAnyH_take (i := 12) (oi := { dst := some 53, op := Op.move (Operand.tmp 52), type := 4, pos := "law.go:108", after := #[{ on := 11, ground := Ground.data }, { on := 2, ground := Ground.chain }], guard := none }) (v := ?_) rfl (by kernel_rfl) (by kernel_rfl) (by kernel_rfl) (fun _ _ _ h => h) (Or.inl ⟨by rfl, ?_⟩) hS ?_
              rotate_left 1
              · intro w9 hS9; obtain ⟨z0, z1, z2, z3, z4, z5, z6, z7, z8⟩ := hS9; go_simp; (try with_reducible rfl)
              simp only [Act.put, List.setIfInBounds_toArray, List.set_cons_zero, List.set_cons_succ]
              refine wpAnyH_take (i := 13) (oi := { dst := some 54, op := Op.move (Operand.tmp 0), type := 27, pos := "law.go:108", after := #[{ on := 12, ground := Ground.guard }], guard := some (12, false) }) (v := ?_) rfl (by kernel_rfl) (by kernel_rfl) (by kernel_rfl) (fun _ _ _ h => h) (Or.inl ⟨by rfl, ?_⟩) hS ?_
              rotate_left 1
              · intro w9 hS9; obtain ⟨z0, z1, z2, z3, z4, z5, z6, z7, z8⟩ := hS9; go_simp; (try with_reducible rfl)
              simp only [Act.put, List.setIfInBounds_toArray, List.set_cons_zero, List.set_cons_succ]
              refine wpAnyH_take (i := 14) (oi := { dst := some 55, op := Op.move (Operand.tmp 9), type := 3, pos := "law.go:108", after := #[{ on := 12, ground := Ground.guard }], guard := some (12, false) }) (v := ?_) rfl (by kernel_rfl) (by kernel_rfl) (by kernel_rfl) (fun _ _ _ h => h) (Or.inl ⟨by rfl, ?_⟩) hS ?_
              rotate_left 1
              · intro w9 hS9; obtain ⟨z0, z1, z2, z3, z4, z5, z6, z7, z8⟩ := hS9; go_simp; (try with_reducible rfl)
              simp only [Act.put, List.setIfInBounds_toArray, List.set_cons_zero, List.set_cons_succ]
              refine wpAnyH_take (i := 15) (oi := { dst := some 56, op := Op.indexAddr 27 (Operand.tmp 54) (Operand.tmp 55), type := 0, pos := "law.go:108", after := #[{ on := 13, ground := Ground.data }, { on := 14, ground := Ground.data }, { on := 12, ground := Ground.guard }], guard := some (12, false) }) (v := ?_) rfl (by kernel_rfl) (by kernel_rfl) (by kernel_rfl) (fun _ _ _ h => h) (Or.inl ⟨by rfl, ?_⟩) hS ?_
              rotate_left 1
              · intro w9 hS9; obtain ⟨z0, z1, z2, z3, z4, z5, z6, z7, z8⟩ := hS9; go_simp; (try with_reducible rfl)
              simp only [Act.put, List.setIfInBounds_toArray, List.set_cons_zero, List.set_cons_succ]
              refine wpAnyH_take (i := 16) (oi := { dst := some 57, op := Op.load 23 (Operand.tmp 56), type := 23, pos := "law.go:108", after := #[{ on := 15, ground := Ground.data }, { on := 12, ground := Ground.guard }], guard := some (12, false) }) (v := ?_) rfl (by kernel_rfl) (by kernel_rfl) (by kernel_rfl) (fun _ _ _ h => h) (Or.inl ⟨by rfl, ?_⟩) hS ?_
              rotate_left 1
              · intro w9 hS9; obtain ⟨z0, z1, z2, z3, z4, z5, z6, z7, z8⟩ := hS9; go_simp; (try with_reducible rfl)
              simp only [Act.put, List.setIfInBounds_toArray, List.set_cons_zero, List.set_cons_succ]
              refine wpAnyH_take (i := 17) (oi := { dst := some 58, op := Op.load 23 (Operand.tmp 5), type := 23, pos := "law.go:108", after := #[{ on := 12, ground := Ground.guard }], guard := some (12, false) }) (v := ?_) rfl (by kernel_rfl) (by kernel_rfl) (by kernel_rfl) (fun _ _ _ h => h) (Or.inl ⟨by rfl, ?_⟩) hS ?_
              rotate_left 1
              · intro w9 hS9; obtain ⟨z0, z1, z2, z3, z4, z5, z6, z7, z8⟩ := hS9; go_simp; (try with_reducible rfl)
              simp only [Act.put, List.setIfInBounds_toArray, List.set_cons_zero, List.set_cons_succ]
              refine wpAnyH_take (i := 18) (oi := { dst := some 59, op := Op.binOp BinOp.eql 23 (Operand.tmp 57) (Operand.tmp 58) 23, type := 4, pos := "law.go:108", after := #[{ on := 16, ground := Ground.data }, { on := 17, ground := Ground.data }, { on := 12, ground := Ground.guard }], guard := some (12, false) }) (v := ?_) rfl (by kernel_rfl) (by kernel_rfl) (by kernel_rfl) (fun _ _ _ h => h) (Or.inl ⟨by rfl, ?_⟩) hS ?_
              rotate_left 1
              · intro w9 hS9; obtain ⟨z0, z1, z2, z3, z4, z5, z6, z7, z8⟩ := hS9; go_simp; (try with_reducible rfl)
              simp only [Act.put, List.setIfInBounds_toArray, List.set_cons_zero, List.set_cons_succ]
              refine wpAnyH_take (i := 19) (oi := { dst := some 60, op := Op.pick (Operand.tmp 53) (Operand.const (Value.bool true)) (Operand.tmp 59), type := 4, pos := "law.go:108", after := #[{ on := 12, ground := Ground.data }, { on := 18, ground := Ground.data }], guard := none }) (v := ?_) rfl (by kernel_rfl) (by kernel_rfl) (by kernel_rfl) (fun _ _ _ h => h) (Or.inl ⟨by rfl, ?_⟩) hS ?_
              rotate_left 1
              · intro w9 hS9; obtain ⟨z0, z1, z2, z3, z4, z5, z6, z7, z8⟩ := hS9; go_simp; (try with_reducible rfl)
              simp only [Act.put, List.setIfInBounds_toArray, List.set_cons_zero, List.set_cons_succ]
              refine wpAnyH_take (i := 20) (oi := { dst := some 61, op := Op.indexAddr 35 (Operand.tmp 7) (Operand.const (Value.int IntKind.i64 0)), type := 0, pos := "law.go:108", after := #[{ on := 0, ground := Ground.phase }, { on := 1, ground := Ground.phase }, { on := 2, ground := Ground.phase }, { on := 3, ground := Ground.phase }, { on := 4, ground := Ground.phase }, { on := 5, ground := Ground.phase }, { on := 6, ground := Ground.phase }, { on := 7, ground := Ground.phase }, { on := 8, ground := Ground.phase }, { on := 9, ground := Ground.phase }, { on := 10, ground := Ground.phase }, { on := 11, ground := Ground.phase }, { on := 12, ground := Ground.textOnly Departure.lateStoresUnsure }, { on := 13, ground := Ground.textOnly Departure.lateStores }, { on := 14, ground := Ground.textOnly Departure.lateStores }, { on := 15, ground := Ground.textOnly Departure.lateStores }, { on := 16, ground := Ground.textOnly Departure.lateStores }, { on := 17, ground := Ground.textOnly Departure.lateStores }, { on := 18, ground := Ground.textOnly Departure.lateStores }, { on := 19, ground := Ground.textOnly Departure.lateStoresUnsure }], guard := none }) (v := ?_) rfl (by kernel_rfl) (by kernel_rfl) (by kernel_rfl) (fun _ _ _ h => h) (Or.inl ⟨by rfl, ?_⟩) hS ?_
              rotate_left 1
              · intro w9 hS9; obtain ⟨z0, z1, z2, z3, z4, z5, z6, z7, z8⟩ := hS9; go_simp; (try with_reducible rfl)
              simp only [Act.put, List.setIfInBounds_toArray, List.set_cons_zero, List.set_cons_succ]
              refine wpAnyH_ready (rs := [21]) (by kernel_rfl) (by simp) ?_
              refine AllReadyH.cons (o := { dst := none, op := Op.store 4 (Operand.tmp 61) (Operand.tmp 50), type := 0, pos := "law.go:108", after := #[{ on := 20, ground := Ground.data }, { on := 9, ground := Ground.data }, { on := 12, ground := Ground.chain }, { on := 0, ground := Ground.phase }, { on := 1, ground := Ground.phase }, { on := 2, ground := Ground.phase }, { on := 3, ground := Ground.phase }, { on := 4, ground := Ground.phase }, { on := 5, ground := Ground.phase }, { on := 6, ground := Ground.phase }, { on := 7, ground := Ground.phase }, { on := 8, ground := Ground.phase }, { on := 9, ground := Ground.phase }, { on := 10, ground := Ground.phase }, { on := 11, ground := Ground.phase }, { on := 12, ground := Ground.textOnly Departure.lateStoresUnsure }, { on := 13, ground := Ground.textOnly Departure.lateStores }, { on := 14, ground := Ground.textOnly Departure.lateStores }, { on := 15, ground := Ground.textOnly Departure.lateStores }, { on := 16, ground := Ground.textOnly Departure.lateStores }, { on := 17, ground := Ground.textOnly Departure.lateStores }, { on := 18, ground := Ground.textOnly Departure.lateStores }, { on := 19, ground := Ground.textOnly Departure.lateStoresUnsure }], guard := none }) rfl (fun K hK => ?_) AllReadyH.nil
              go_simp
              refine hK.out _ _ ?_ (fun hS => ?_)
              · obtain ⟨z0, z1, z2, z3, z4, z5, z6, z7, z8⟩ := hS; exact ⟨by exact cell_set_ne (by first | assumption | (simp; done)) z0, by exact cell_set_ne (by first | assumption | (simp; done)) z1, by exact cell_set_ne (by first | assumption | (simp; done)) z2, by exact cell_set_ne (by first | assumption | (simp; done)) z3, by exact cell_set_ne (by first | assumption | (simp; done)) z4, by exact cell_set_ne (by first | assumption | (simp; done)) z5, by exact cell_set_ne (by first | assumption | (simp; done)) z6, by exact cell_set_ne (by first | assumption | (simp; done)) z7, by exact cell_set_ne (by first | assumption | (simp; done)) z8⟩
              clear hK K
              try simp only [Act.put, List.setIfInBounds_toArray, List.set_cons_zero, List.set_cons_succ]
              refine wpAnyH_take (i := 22) (oi := { dst := some 62, op := Op.indexAddr 35 (Operand.tmp 7) (Operand.const (Value.int IntKind.i64 1)), type := 0, pos := "law.go:108", after := #[{ on := 0, ground := Ground.phase }, { on := 1, ground := Ground.phase }, { on := 2, ground := Ground.phase }, { on := 3, ground := Ground.phase }, { on := 4, ground := Ground.phase }, { on := 5, ground := Ground.phase }, { on := 6, ground := Ground.phase }, { on := 7, ground := Ground.phase }, { on := 8, ground := Ground.phase }, { on := 9, ground := Ground.phase }, { on := 10, ground := Ground.phase }, { on := 11, ground := Ground.phase }, { on := 12, ground := Ground.phase }, { on := 13, ground := Ground.phase }, { on := 14, ground := Ground.phase }, { on := 15, ground := Ground.phase }, { on := 16, ground := Ground.phase }, { on := 17, ground := Ground.phase }, { on := 18, ground := Ground.phase }, { on := 19, ground := Ground.phase }, { on := 20, ground := Ground.phase }, { on := 21, ground := Ground.phase }], guard := none }) (v := ?_) rfl (by kernel_rfl) (by kernel_rfl) (by kernel_rfl) (fun _ _ _ h => h) (Or.inl ⟨by rfl, ?_⟩) hS ?_
              rotate_left 1
              · intro w9 hS9; obtain ⟨z0, z1, z2, z3, z4, z5, z6, z7, z8⟩ := hS9; go_simp; (try with_reducible rfl)
              simp only [Act.put, List.setIfInBounds_toArray, List.set_cons_zero, List.set_cons_succ]
              refine wpAnyH_ready (rs := [23]) (by kernel_rfl) (by simp) ?_
              refine AllReadyH.cons (o := { dst := none, op := Op.store 4 (Operand.tmp 62) (Operand.tmp 60), type := 0, pos := "law.go:108", after := #[{ on := 22, ground := Ground.data }, { on := 19, ground := Ground.data }, { on := 21, ground := Ground.chain }, { on := 0, ground := Ground.phase }, { on := 1, ground := Ground.phase }, { on := 2, ground := Ground.phase }, { on := 3, ground := Ground.phase }, { on := 4, ground := Ground.phase }, { on := 5, ground := Ground.phase }, { on := 6, ground := Ground.phase }, { on := 7, ground := Ground.phase }, { on := 8, ground := Ground.phase }, { on := 9, ground := Ground.phase }, { on := 10, ground := Ground.phase }, { on := 11, ground := Ground.phase }, { on := 12, ground := Ground.phase }, { on := 13, ground := Ground.phase }, { on := 14, ground := Ground.phase }, { on := 15, ground := Ground.phase }, { on := 16, ground := Ground.phase }, { on := 17, ground := Ground.phase }, { on := 18, ground := Ground.phase }, { on := 19, ground := Ground.phase }, { on := 20, ground := Ground.phase }, { on := 21, ground := Ground.phase }], guard := none }) rfl (fun K hK => ?_) AllReadyH.nil
              go_simp
              refine hK.out _ _ ?_ (fun hS => ?_)
              · obtain ⟨z0, z1, z2, z3, z4, z5, z6, z7, z8⟩ := hS; exact ⟨by exact cell_set_ne (by first | assumption | (simp; done)) z0, by exact cell_set_ne (by first | assumption | (simp; done)) z1, by exact cell_set_ne (by first | assumption | (simp; done)) z2, by exact cell_set_ne (by first | assumption | (simp; done)) z3, by exact cell_set_ne (by first | assumption | (simp; done)) z4, by exact cell_set_ne (by first | assumption | (simp; done)) z5, by exact cell_set_ne (by first | assumption | (simp; done)) z6, by exact cell_set_ne (by first | assumption | (simp; done)) z7, by exact cell_set_ne (by first | assumption | (simp; done)) z8⟩
              clear hK K
              try simp only [Act.put, List.setIfInBounds_toArray, List.set_cons_zero, List.set_cons_succ]
              refine wpAnyH_done (by kernel_rfl) ?_ _
              go_wp2_with fail
              go_meet
              refine ⟨Lib.hid ?_, Lib.hid ?_⟩
              · exact Below.setCell (p := ⟨bi, 1, none⟩) (Below.setCell (p := ⟨bi, 0, none⟩) (below_drew HFr.out) (Nat.le_refl bi) _) (Nat.le_refl bi) _
              · exact (HB.out.drew.set 0 _ (by simp)).set 1 _ (by simp)
        case rest =>
          obtain ⟨HF2, HB2⟩ := hcut
          have hb4c : Below w4.heap.size w4 wc := by rw [HBI0.out]; exact HF2.out
          have BAc := Lib.hid (BA.out.step hb4c)
          have BBc := Lib.hid (BB.out.step hb4c)
          have hbc := HB2.out.lt
          have hcr : ∀ (q : Nat) (u : Value), wr.cell? ⟨b0, q, none⟩ = some u → wc.cell? ⟨b0, q, none⟩ = some u := fun q u hu => (HF2.out.cell (p := ⟨b0, q, none⟩) hb0').trans ((HFr.out.cell (p := ⟨b0, q, none⟩) hb0').symm.trans hu)
          have hbl : b0 < wc.heap.size := by omega
          have p0 := later_cell hbl (hcr _ _ g0)
          have p1 := later_cell hbl (hcr _ _ g1)
          have p2 := later_cell hbl (hcr _ _ g2)
          have q0 := later_cell BAc.out.lt (BAc.out.c 0 _ rfl)
          have q1 := later_cell BAc.out.lt (BAc.out.c 1 _ rfl)
          have q2 := later_cell BAc.out.lt (BAc.out.c 2 _ rfl)
          have r0 := later_cell BBc.out.lt (BBc.out.c 0 _ rfl)
          have r1 := later_cell BBc.out.lt (BBc.out.c 1 _ rfl)
          have r2 := later_cell BBc.out.lt (BBc.out.c 2 _ rfl)
          clear cBAr0 fBAr0 cBAr1 fBAr1 cBAr2 fBAr2 lBAr; clear cBBr0 fBBr0 cBBr1 fBBr1 cBBr2 fBBr2 lBBr; clear cHB0 fHB0 cHB1 fHB1 lHB
          clear hcr hb4c g0 g1 g2 hs0 hs1
          go_wp2_with fail
          (refine wp_region_later (by kernel_rfl) (by kernel_rfl) ?_
           repeat (first | go_big_quiet_step ((first | (go_at_call 10; with_reducible exact later_of (O1.out _)) | (go_at_call 10; with_reducible exact later_of (O2.out _)))) | quiet_step ((first | (go_at_call 10; with_reducible exact later_of (O1.out _)) | (go_at_call 10; with_reducible exact later_of (O2.out _)))))
           refine wpQuiet_nil ?_
           intro _ hw'
           obtain ⟨qL, hw''⟩ := hw'
           subst hw''
           obtain ⟨wL, h⟩ := qL)
          have HFL := Lib.hid (HF2.out.trans (h.mono (by omega)))
          have HBL := Lib.hid (HB2.out.step h)
          clear p0 p1 p2 q0 q1 q2 r0 r1 r2 O1 O2
          go_wp2
          go_roundw
          case rel => exact ⟨j + 1, by omega, by go_num, by rw [E2.out], HFL, by rw [E1.out, E3.out]; exact HBL⟩
          case measure => simp [Lib.intOf]; omega
    · obtain rfl : j = l.length := by omega
      rw [List.take_length] at HB
      have HFE := Lib.hid (HF.out.trans (HFr.out.mono hzi))
      rw [List.take_length]
      cases hs : someV l with
      | true =>
        obtain ⟨e1, e2⟩ := HP1.out hs
        rw [e1, e2] at HB
        clear e1 e2
        have cBAr0 := BAr.out.c 0 _ rfl; have fBAr0 := BAr.out.f 0 (by simp); have cBAr1 := BAr.out.c 1 _ rfl; have fBAr1 := BAr.out.f 1 (by simp); have cBAr2 := BAr.out.c 2 _ rfl; have fBAr2 := BAr.out.f 2 (by simp); have lBAr := BAr.out.lt; have cBBr0 := BBr.out.c 0 _ rfl; have fBBr0 := BBr.out.f 0 (by simp); have cBBr1 := BBr.out.c 1 _ rfl; have fBBr1 := BBr.out.f 1 (by simp); have cBBr2 := BBr.out.c 2 _ rfl; have fBBr2 := BBr.out.f 2 (by simp); have lBBr := BBr.out.lt; have cHB0 := HB.out.c 0 _ rfl; have fHB0 := HB.out.f 0 (by simp); have cHB1 := HB.out.c 1 _ rfl; have fHB1 := HB.out.f 1 (by simp); have lHB := HB.out.lt
        go_wp2
        go_ret
        exact ⟨rfl, HFE.out⟩
      | false =>
        obtain ⟨rfl, rfl⟩ := HP2.out hs
        generalize inV l V.nul = i0 at *
        have hn1 : sameB 0 0 ⟨#[]⟩ 0 0 ⟨#[]⟩ = true := by simp [sameB]
        have ha := BAr.out
        have hb := BBr.out
        dsimp only [V.nul] at ha hb
        have HA := Lib.hid ha
        have HBB := Lib.hid hb
        clear ha hb
        have cHA0 := HA.out.c 0 _ rfl; have fHA0 := HA.out.f 0 (by simp); have cHA1 := HA.out.c 1 _ rfl; have fHA1 := HA.out.f 1 (by simp); have cHA2 := HA.out.c 2 _ rfl; have fHA2 := HA.out.f 2 (by simp); have lHA := HA.out.lt; have cHBB0 := HBB.out.c 0 _ rfl; have fHBB0 := HBB.out.f 0 (by simp); have cHBB1 := HBB.out.c 1 _ rfl; have fHBB1 := HBB.out.f 1 (by simp); have cHBB2 := HBB.out.c 2 _ rfl; have fHBB2 := HBB.out.f 2 (by simp); have lHBB := HBB.out.lt; have cHB0 := HB.out.c 0 _ rfl; have fHB0 := HB.out.f 0 (by simp); have cHB1 := HB.out.c 1 _ rfl; have fHB1 := HB.out.f 1 (by simp); have lHB := HB.out.lt
        go_wp2
        go_ret
        exact ⟨rfl, HFE.out⟩
end Go.Proofs.Ytbhajjinlbadhaa
