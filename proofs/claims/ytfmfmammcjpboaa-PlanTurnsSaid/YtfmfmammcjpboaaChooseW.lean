/- plan.Choose, of a table without indexes and a condition that is told ahead. -/
import Derived.Test.YtfmfmammcjpboaaSpanW
import Derived.Test.YtfmfmammcjpboaaWishW
import Derived.Test.YtfmfmammcjpboaaOfW
import Derived.Test.YtfmfmammcjpboaaTail
namespace Go.Proofs.Ytfmfmammcjpboaa
open Go.RowKit
set_option linter.unusedVariables false
set_option linter.unusedSimpArgs false
theorem IsTr.mono {n m : Nat} {W : World} (h : n ≤ m) : ∀ {T : Tr}, IsTr n W T → IsTr m W T
  | .leaf _, ht => ht
  | .and _ l r, ⟨h1, h2, b, off, hA, hb, hl, hr, tl, tr⟩ => ⟨h1, h2, b, off, hA, by omega, hl, hr, IsTr.mono h tl, IsTr.mono h tr⟩
theorem box_rowP {W : World} {g : Nat} {p : Pl} (h : Box W g (encP p)) : RowE encP 12 W (some ⟨g, 0, none⟩) [p] := by
  intro i x hi
  refine ⟨g, 0, rfl, h.lt, fun i x hi j v hv => ?_⟩
  cases i with
  | zero =>
    obtain rfl : p = x := by simpa using hi
    have := h.c j v hv
    simpa using this
  | succ i => simp at hi
theorem idx_at (g c : Nat) (p : Pl) (fn : FuncId) (q : Pl → Bool) (w : World) (eg : ∀ args w, (callFunc fn args).run Try.prog w = .ok (.enter fn args) w)
    (hq : ∀ (p : Pl) (W : World), Calls Try.prog fn #[aggP p] W fun e w' => e = .returned (.bool (q p)) ∧ Below W.heap.size W w') (h : Box w g (encP p)) :
    Calls Try.prog 31 #[.slice (some ⟨g, 0, none⟩) 1 c, .func (.func fn) #[] #[]] w fun e w' => e = .returned (.int .i64 (if q p = true then 0 else -1)) ∧ Below w.heap.size w w' := by
  refine (idxP_any (some ⟨g, 0, none⟩) c [p] fn q w eg hq (box_rowP h) (by simp)).mono ?_
  rintro e w' ⟨h1 | ⟨i, x, h1, hi, hx, _⟩, hb⟩
  · have := h1.2 p (by simp)
    rw [this]
    exact ⟨h1.1, hb⟩
  · cases i with
    | zero =>
      obtain rfl : p = x := by simpa using hi
      rw [hx]
      exact ⟨h1, hb⟩
    | succ i => simp at hi
set_option maxHeartbeats 8000000 in
set_option maxRecDepth 100000 in
theorem choose1_any (nm : ByteArray) (A : Option Addr) (cs : List Col) (ca : Nat) (k : Int) (c0 : Col) (b off cw : Nat) (T : Tr) (e : Ex) (ask : Eh → Pl × Bool) (p : Pl) (w : World)
    (HR : RowE encC 3 w A cs) (hm : MaxL w) (hk : -9223372036854775808 ≤ k ∧ k ≤ 9223372036854775807) (hcs : ∀ c ∈ cs, c.name.size ≤ maxLen) (hmay : mayT nm cs k [] = true) (hk0 : 0 ≤ k) (hc0 : cs[k.toNat]? = some c0)
    (hb : b < w.heap.size) (hcell : ∀ j v, (cellsE T.head)[j]? = some v → w.cell? ⟨b, off + j, none⟩ = some v) (hx : ExAt 12 w T.head e) (hparts : partsB 12 e = (false, false)) (hT : IsTr w.heap.size w T)
    (hA : ∀ x ∈ T.leaves, ∀ W, Below w.heap.size w W → Calls Try.prog 52 #[aggE x, .int .i64 k, .int .i64 c0.kind] W fun e W' => e = .returned (.tuple #[aggP (ask x).1, .bool (ask x).2]) ∧ Below W.heap.size W W')
    (hp : spanP ask 0 T.leaves = p) (hw1 : p.emp = false) (hw2 : wish2 p = false) (hw3 : wish3 p = true) :
    Calls Try.prog 8 #[.agg #[.string nm, .slice A cs.length ca, .int .i64 k, .slice none 0 0], .slice (some ⟨b, off, none⟩) 1 cw] w fun r w' => r = .returned (.tuple #[aggP p, .int .i64 0]) ∧ Below w.heap.size w w' := by
  obtain ⟨bc, oc, rfl, hbc, hcol⟩ := HR k.toNat c0 hc0
  have HBT := Lib.hid ((Box.new w #[.string nm, .slice (some ⟨bc, oc, none⟩) cs.length ca, .int .i64 k, .slice none 0 0] 38).alloc (.cells #[.int .i64 0, .bool false, .int .i64 0, .int .i64 0, .string ⟨#[]⟩, .bool false, .bool false, .int .i64 0, .int .i64 0, .string ⟨#[]⟩, .bool false, .bool false] 32))
  have HBR := Lib.hid (Box.new (w.alloc (.cells #[.string nm, .slice (some ⟨bc, oc, none⟩) cs.length ca, .int .i64 k, .slice none 0 0] 38)) #[.int .i64 0, .bool false, .int .i64 0, .int .i64 0, .string ⟨#[]⟩, .bool false, .bool false, .int .i64 0, .int .i64 0, .string ⟨#[]⟩, .bool false, .bool false] 32)
  have HF : Hid (Below w.heap.size w ((w.alloc (.cells #[.string nm, .slice (some ⟨bc, oc, none⟩) cs.length ca, .int .i64 k, .slice none 0 0] 38)).alloc (.cells #[.int .i64 0, .bool false, .int .i64 0, .int .i64 0, .string ⟨#[]⟩, .bool false, .bool false, .int .i64 0, .int .i64 0, .string ⟨#[]⟩, .bool false, .bool false] 32))) := Lib.hid (by (repeat (first | (with_reducible exact Below.refl _ _) | apply below_alloc _ (Nat.le_refl _) | refine below_set ?_ (by first | exact Nat.le_refl _ | omega) | apply below_drewN | refine below_step ?_ HB)))
  simp only [World.size_alloc] at HBR
  have hspan := fun W (hW : Below w.heap.size w W) => span_any T 0 k c0.kind ask W ((hT.below hW).mono hW.size) (fun x hx W' hW' => hA x hx W' (below_step' hW hW'))
  have hpar := fun W (hW : Below w.heap.size w W) => parts_any 12 T.head e W (hx.below hW) (by decide)
  rw [hp] at hspan
  rw [hparts] at hpar
  have hmy := fun W (hW : Below w.heap.size w W) => may_any nm _ none cs [] ca 0 k W (HR.below hW) RowE.nil (hm.below hW) hk hcs (by simp)
  rw [hmay] at hmy
  have hkl : k < cs.length := by have := (List.getElem?_eq_some_iff.1 hc0).1; omega
  have hcl8 : cs.length ≤ 8 := by
    unfold mayT at hmay
    simp only [Bool.and_eq_true, decide_eq_true_eq] at hmay
    omega
  have hkc := hcol k.toNat c0 hc0 1 _ rfl
  clear hx hT hA hcol hmay HR hm hcs hparts hp
  generalize T.head = g at *
  unfold cellsE at hcell
  unfold aggE aggP at hspan
  unfold aggE at hpar
  simp only [List.length_nil] at hmy
  have HCELL := Lib.hid hcell
  have HW1 := Lib.hid hw1
  have HW2 := Lib.hid hw2
  have HW3 := Lib.hid hw3
  have HSP := Lib.hid hspan
  have HPA := Lib.hid hpar
  have HMY := Lib.hid hmy
  clear hcell hw1 hw2 hw3 hc0 hspan hpar hmy hk
  go_enter Try.func8, Try.ntmps8
  go_wp2_with fail
  generalize (w.alloc (.cells #[.string nm, .slice (some ⟨bc, oc, none⟩) cs.length ca, .int .i64 k, .slice none 0 0] 38)).alloc (.cells #[.int .i64 0, .bool false, .int .i64 0, .int .i64 0, .string ⟨#[]⟩, .bool false, .bool false, .int .i64 0, .int .i64 0, .string ⟨#[]⟩, .bool false, .bool false] 32) = w2 at *
  refine (HMY.out w2 HF.out).mono ?_; rintro r w3 ⟨rfl, h⟩
  replace HBT := Lib.hid (HBT.out.below h HBT.out.lt); replace HBR := Lib.hid (HBR.out.below h HBR.out.lt); replace HF := Lib.hid (below_step' HF.out h)
  clear h HMY
  have HFo := HF.out
  have e0 : w3.cell? ⟨b, off, none⟩ = some (.int .i64 g.op) := (HFo.cell (p := ⟨b, _, none⟩) hb).trans (HCELL.out 0 _ rfl)
  have e1 : w3.cell? ⟨b, off + 1, none⟩ = some (.int .i64 g.v.k) := (HFo.cell (p := ⟨b, _, none⟩) hb).trans (HCELL.out 1 _ rfl)
  have e2 : w3.cell? ⟨b, off + 2, none⟩ = some (.int .i64 g.v.n) := (HFo.cell (p := ⟨b, _, none⟩) hb).trans (HCELL.out 2 _ rfl)
  have e3 : w3.cell? ⟨b, off + 3, none⟩ = some (.string g.v.s) := (HFo.cell (p := ⟨b, _, none⟩) hb).trans (HCELL.out 3 _ rfl)
  have e4 : w3.cell? ⟨b, off + 4, none⟩ = some (.string g.tb) := (HFo.cell (p := ⟨b, _, none⟩) hb).trans (HCELL.out 4 _ rfl)
  have e5 : w3.cell? ⟨b, off + 5, none⟩ = some (.string g.nm) := (HFo.cell (p := ⟨b, _, none⟩) hb).trans (HCELL.out 5 _ rfl)
  have e6 : w3.cell? ⟨b, off + 6, none⟩ = some (.slice g.A g.len g.c) := (HFo.cell (p := ⟨b, _, none⟩) hb).trans (HCELL.out 6 _ rfl)
  go_wp2_with fail
  clear e0 e1 e2 e3 e4 e5 e6
  refine (HPA.out w3 HFo).mono ?_; rintro r w4 ⟨rfl, h⟩
  clear HFo
  replace HBT := Lib.hid (HBT.out.below h HBT.out.lt); replace HBR := Lib.hid (HBR.out.below h HBR.out.lt); replace HF := Lib.hid (below_step' HF.out h)
  clear h HPA
  have HFo := HF.out
  have e0 : w4.cell? ⟨b, off, none⟩ = some (.int .i64 g.op) := (HFo.cell (p := ⟨b, _, none⟩) hb).trans (HCELL.out 0 _ rfl)
  have e1 : w4.cell? ⟨b, off + 1, none⟩ = some (.int .i64 g.v.k) := (HFo.cell (p := ⟨b, _, none⟩) hb).trans (HCELL.out 1 _ rfl)
  have e2 : w4.cell? ⟨b, off + 2, none⟩ = some (.int .i64 g.v.n) := (HFo.cell (p := ⟨b, _, none⟩) hb).trans (HCELL.out 2 _ rfl)
  have e3 : w4.cell? ⟨b, off + 3, none⟩ = some (.string g.v.s) := (HFo.cell (p := ⟨b, _, none⟩) hb).trans (HCELL.out 3 _ rfl)
  have e4 : w4.cell? ⟨b, off + 4, none⟩ = some (.string g.tb) := (HFo.cell (p := ⟨b, _, none⟩) hb).trans (HCELL.out 4 _ rfl)
  have e5 : w4.cell? ⟨b, off + 5, none⟩ = some (.string g.nm) := (HFo.cell (p := ⟨b, _, none⟩) hb).trans (HCELL.out 5 _ rfl)
  have e6 : w4.cell? ⟨b, off + 6, none⟩ = some (.slice g.A g.len g.c) := (HFo.cell (p := ⟨b, _, none⟩) hb).trans (HCELL.out 6 _ rfl)
  have hkn : w4.cell? ⟨bc, oc + k.toNat * 3 + 1, none⟩ = some (.int .i64 c0.kind) := (HFo.cell (p := ⟨bc, _, none⟩) hbc).trans hkc
  have cHBT0 := HBT.out.c 0 _ rfl; have fHBT0 := HBT.out.f 0 (by simp); have cHBT1 := HBT.out.c 1 _ rfl; have fHBT1 := HBT.out.f 1 (by simp); have cHBT2 := HBT.out.c 2 _ rfl; have fHBT2 := HBT.out.f 2 (by simp); have cHBT3 := HBT.out.c 3 _ rfl; have fHBT3 := HBT.out.f 3 (by simp); have lHBT := HBT.out.lt
  have hkl' : k < (cs.length : Int) := hkl
  go_wp2_with fail
  refine still_tail 12 (by kernel_rfl) (by kernel_rfl) ?_
  simp only [List.take_succ_cons, List.take_zero, List.drop_succ_cons, List.drop_zero]
  repeat still_step
  refine wpStill_nil ?_
  go_wp2_with fail
  clear cHBT0 fHBT0 cHBT1 fHBT1 cHBT2 fHBT2 cHBT3 fHBT3 lHBT
  refine (HSP.out w4.drew (below_drewN HFo 1)).mono ?_; rintro r w5 ⟨rfl, h⟩
  clear e0 e1 e2 e3 e4 e5 e6
  clear hkn HFo HSP
  replace HBT := Lib.hid HBT.out.drew
  replace HBR := Lib.hid HBR.out.drew
  replace HF : Hid (Below w.heap.size w w4.drew) := Lib.hid (below_drewN HF.out 1)
  replace HBT := Lib.hid (HBT.out.below h HBT.out.lt); replace HBR := Lib.hid (HBR.out.below h HBR.out.lt); replace HF := Lib.hid (below_step' HF.out h)
  clear h
  have t3 := HBT.out.c 3 _ rfl
  have hlT := HBT.out.lt
  go_wp2_with fail
  have hgp := HBR.out.lt
  have HPL := Lib.hid (Box.new w5 #[.int .i64 p.ix, .bool p.lo.op, .int .i64 p.lo.v.k, .int .i64 p.lo.v.n, .string p.lo.v.s, .bool p.lo.inn, .bool p.hi.op, .int .i64 p.hi.v.k, .int .i64 p.hi.v.n, .string p.hi.v.s, .bool p.hi.inn, .bool p.emp] 32)
  replace HBR := Lib.hid (HBR.out.alloc (.cells #[.int .i64 p.ix, .bool p.lo.op, .int .i64 p.lo.v.k, .int .i64 p.lo.v.n, .string p.lo.v.s, .bool p.lo.inn, .bool p.hi.op, .int .i64 p.hi.v.k, .int .i64 p.hi.v.n, .string p.hi.v.s, .bool p.hi.inn, .bool p.emp] 32))
  have hs5 := HF.out.size
  replace HF := Lib.hid (HF.out.alloc hs5 (.cells #[.int .i64 p.ix, .bool p.lo.op, .int .i64 p.lo.v.k, .int .i64 p.lo.v.n, .string p.lo.v.s, .bool p.lo.inn, .bool p.hi.op, .int .i64 p.hi.v.k, .int .i64 p.hi.v.n, .string p.hi.v.s, .bool p.hi.inn, .bool p.emp] 32))
  clear t3 hlT HBT hs5
  generalize w5.alloc (.cells #[.int .i64 p.ix, .bool p.lo.op, .int .i64 p.lo.v.k, .int .i64 p.lo.v.n, .string p.lo.v.s, .bool p.lo.inn, .bool p.hi.op, .int .i64 p.hi.v.k, .int .i64 p.hi.v.n, .string p.hi.v.s, .bool p.hi.inn, .bool p.emp] 32) = w6 at *
  generalize w5.heap.size = gp at *
  go_loopw [8, 60] (fun s i wr => s = .slice (some ⟨gp, 0, none⟩) 1 1 ∧ i = .int .i64 0 ∧ w6 = wr) (fun _ i _ => 0)
  case atStart => exact ⟨rfl, rfl, rfl⟩
  case round =>
  obtain ⟨rfl, rfl, rfl⟩ := hrel
  have hst := fun (W : World) (a : Addr) (f : FuncId) => run_store Try.prog W a (.func (.func f) #[] #[]) .plain rfl
  go_wp2_with fail
  replace HBR := Lib.hid (HBR.out.alloc (.cells #[.func (.func 27) #[] #[], .func (.func 28) #[] #[], .func (.func 30) #[] #[]] 82))
  replace HPL := Lib.hid (HPL.out.alloc (.cells #[.func (.func 27) #[] #[], .func (.func 28) #[] #[], .func (.func 30) #[] #[]] 82))
  have hs6 := HF.out.size
  replace HF := Lib.hid (HF.out.alloc hs6 (.cells #[.func (.func 27) #[] #[], .func (.func 28) #[] #[], .func (.func 30) #[] #[]] 82))
  clear hs6 hst
  generalize w6.alloc (.cells #[.func (.func 27) #[] #[], .func (.func 28) #[] #[], .func (.func 30) #[] #[]] 82) = w7 at *
  generalize w6.heap.size = ga at *
  go_loopw [86] (fun i wr => ∃ j : Nat, j ≤ 2 ∧ i = .int .i64 j ∧ Hid (Box wr (w.heap.size + 1) [.int .i64 0, .bool false, .int .i64 0, .int .i64 0, .string ⟨#[]⟩, .bool false, .bool false, .int .i64 0, .int .i64 0, .string ⟨#[]⟩, .bool false, .bool false]) ∧ Hid (Box wr gp [.int .i64 p.ix, .bool p.lo.op, .int .i64 p.lo.v.k, .int .i64 p.lo.v.n, .string p.lo.v.s, .bool p.lo.inn, .bool p.hi.op, .int .i64 p.hi.v.k, .int .i64 p.hi.v.n, .string p.hi.v.s, .bool p.hi.inn, .bool p.emp]) ∧ Hid (Below w.heap.size w wr)) (fun i _ => 2 - (Lib.intOf i).toNat)
  case atStart => exact ⟨0, by omega, rfl, HBR, HPL, HF⟩
  case round =>
  clear HBR HPL HF
  obtain ⟨j, hj, rfl, HBR, HPL, HF⟩ := hrel
  obtain rfl | rfl | rfl : j = 0 ∨ j = 1 ∨ j = 2 := by omega
  case inl =>
    have hix : ∀ W, (Instr.index 82 (.agg #[.func (.func 27) #[] #[], .func (.func 28) #[] #[], .func (.func 30) #[] #[]]) (.int .i64 0)).run Try.prog W = .ok (.func (.func 27) #[] #[]) W := fun W => by kernel_rfl
    have hc := idx_at gp 1 p 27 (fun p => p.emp) wr (enters_of Try.func27 (by kernel_rfl) rfl) wish1_any HPL.out
    simp only [HW1.out, if_true, if_false, Bool.false_eq_true] at hc
    go_wp2_with fail
    refine hc.mono ?_; rintro e w8 ⟨rfl, h⟩
    replace HBR := Lib.hid (HBR.out.below h HBR.out.lt); replace HPL := Lib.hid (HPL.out.below h HPL.out.lt); replace HF := Lib.hid (below_step' HF.out h)
    clear h hc hix
    go_wp2_with fail
    go_roundw
    case rel => exact ⟨1, by omega, by go_num, HBR, HPL, HF⟩
    case measure => simp [Lib.intOf]
  case inr.inl =>
    have hix : ∀ W, (Instr.index 82 (.agg #[.func (.func 27) #[] #[], .func (.func 28) #[] #[], .func (.func 30) #[] #[]]) (.int .i64 1)).run Try.prog W = .ok (.func (.func 28) #[] #[]) W := fun W => by kernel_rfl
    have hc := idx_at gp 1 p 28 wish2 wr (enters_of Try.func28 (by kernel_rfl) rfl) wish2_any HPL.out
    simp only [HW2.out, if_true, if_false, Bool.false_eq_true] at hc
    go_wp2_with fail
    refine hc.mono ?_; rintro e w8 ⟨rfl, h⟩
    replace HBR := Lib.hid (HBR.out.below h HBR.out.lt); replace HPL := Lib.hid (HPL.out.below h HPL.out.lt); replace HF := Lib.hid (below_step' HF.out h)
    clear h hc hix
    go_wp2_with fail
    go_roundw
    case rel => exact ⟨2, by omega, by go_num, HBR, HPL, HF⟩
    case measure => simp [Lib.intOf]
  case inr.inr =>
    have hix : ∀ W, (Instr.index 82 (.agg #[.func (.func 27) #[] #[], .func (.func 28) #[] #[], .func (.func 30) #[] #[]]) (.int .i64 2)).run Try.prog W = .ok (.func (.func 30) #[] #[]) W := fun W => by kernel_rfl
    have hc := idx_at gp 1 p 30 wish3 wr (enters_of Try.func30 (by kernel_rfl) rfl) wish3_any HPL.out
    simp only [HW3.out, if_true, if_false, Bool.false_eq_true] at hc
    go_wp2_with fail
    refine hc.mono ?_; rintro e w8 ⟨rfl, h⟩
    replace HBR := Lib.hid (HBR.out.below h HBR.out.lt); replace HPL := Lib.hid (HPL.out.below h HPL.out.lt); replace HF := Lib.hid (below_step' HF.out h)
    clear h hc hix
    have HFo := HF.out
    have hne : ¬ gp = w.heap.size + 1 := by omega
    have hne2 : ¬ w.heap.size + 1 = gp := by omega
    have hle : w.heap.size ≤ w.heap.size + 1 := by omega
    clear HF
    have cHPL0 := HPL.out.c 0 _ rfl; have fHPL0 := HPL.out.f 0 (by simp); have cHPL1 := HPL.out.c 1 _ rfl; have fHPL1 := HPL.out.f 1 (by simp); have cHPL2 := HPL.out.c 2 _ rfl; have fHPL2 := HPL.out.f 2 (by simp); have cHPL3 := HPL.out.c 3 _ rfl; have fHPL3 := HPL.out.f 3 (by simp); have cHPL4 := HPL.out.c 4 _ rfl; have fHPL4 := HPL.out.f 4 (by simp); have cHPL5 := HPL.out.c 5 _ rfl; have fHPL5 := HPL.out.f 5 (by simp); have cHPL6 := HPL.out.c 6 _ rfl; have fHPL6 := HPL.out.f 6 (by simp); have cHPL7 := HPL.out.c 7 _ rfl; have fHPL7 := HPL.out.f 7 (by simp); have cHPL8 := HPL.out.c 8 _ rfl; have fHPL8 := HPL.out.f 8 (by simp); have cHPL9 := HPL.out.c 9 _ rfl; have fHPL9 := HPL.out.f 9 (by simp); have cHPL10 := HPL.out.c 10 _ rfl; have fHPL10 := HPL.out.f 10 (by simp); have cHPL11 := HPL.out.c 11 _ rfl; have fHPL11 := HPL.out.f 11 (by simp); have lHPL := HPL.out.lt; have cHBR0 := HBR.out.c 0 _ rfl; have fHBR0 := HBR.out.f 0 (by simp); have cHBR1 := HBR.out.c 1 _ rfl; have fHBR1 := HBR.out.f 1 (by simp); have cHBR2 := HBR.out.c 2 _ rfl; have fHBR2 := HBR.out.f 2 (by simp); have cHBR3 := HBR.out.c 3 _ rfl; have fHBR3 := HBR.out.f 3 (by simp); have cHBR4 := HBR.out.c 4 _ rfl; have fHBR4 := HBR.out.f 4 (by simp); have cHBR5 := HBR.out.c 5 _ rfl; have fHBR5 := HBR.out.f 5 (by simp); have cHBR6 := HBR.out.c 6 _ rfl; have fHBR6 := HBR.out.f 6 (by simp); have cHBR7 := HBR.out.c 7 _ rfl; have fHBR7 := HBR.out.f 7 (by simp); have cHBR8 := HBR.out.c 8 _ rfl; have fHBR8 := HBR.out.f 8 (by simp); have cHBR9 := HBR.out.c 9 _ rfl; have fHBR9 := HBR.out.f 9 (by simp); have cHBR10 := HBR.out.c 10 _ rfl; have fHBR10 := HBR.out.f 10 (by simp); have cHBR11 := HBR.out.c 11 _ rfl; have fHBR11 := HBR.out.f 11 (by simp); have lHBR := HBR.out.lt
    go_wp2
    refine bodyPost_ret (by simp [results, Try.results8, go_sem, cHBR0, cHBR1, cHBR2, cHBR3, cHBR4, cHBR5, cHBR6, cHBR7, cHBR8, cHBR9, cHBR10, cHBR11, hne, hne2]; rfl) rfl ?_
    exact ⟨rfl, (by repeat (first | (with_reducible exact HFo) | refine below_set ?_ hle))⟩
end Go.Proofs.Ytfmfmammcjpboaa
