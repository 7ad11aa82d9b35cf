/- plan.Choose of any table that may be, and of one condition that is neither too deep nor reckons. -/
import Derived.Test.YtfmfmammcjpboaaChooseW
import Derived.Test.YtfmfmammcjpboaaAppRow
import Derived.RangeFuncBox
namespace Go.Proofs.Ytfmfmammcjpboaa
open Go.RowKit
set_option linter.unusedVariables false
set_option linter.unusedSimpArgs false
theorem encP_one (l : List Pl) : ∀ u ∈ l.flatMap encP, u.oneCell' = true := fun u hu => by
  obtain ⟨x, _, hx⟩ := List.mem_flatMap.1 hu
  simp [encP] at hx
  rcases hx with rfl | rfl | rfl | rfl | rfl | rfl | rfl | rfl | rfl | rfl | rfl | rfl <;> rfl
def kindAt (cs : List Col) (a : Int) : Int := match cs[a.toNat]? with | some c => c.kind | none => 0
/-- The plan of index i. -/
def planAt (ask : Int → Int → Eh → Pl × Bool) (cs : List Col) (k : Int) (xs : List Ixd) (L : List Eh) (i : Nat) : Pl :=
  if i = 0 then spanP (ask k (kindAt cs k)) 0 L else match xs[i - 1]? with | some x => spanP (ask x.col (kindAt cs x.col)) i L | none => allP 0
def plansL (ask : Int → Int → Eh → Pl × Bool) (cs : List Col) (k : Int) (xs : List Ixd) (L : List Eh) (n : Nat) : List Pl := (List.range (n + 1)).map (planAt ask cs k xs L)
theorem plansL_succ (ask : Int → Int → Eh → Pl × Bool) (cs : List Col) (k : Int) (xs : List Ixd) (L : List Eh) (n : Nat) : plansL ask cs k xs L (n + 1) = plansL ask cs k xs L n ++ [planAt ask cs k xs L (n + 1)] := by
  unfold plansL
  rw [List.range_succ, List.map_append]
  rfl
theorem plansL_len (ask : Int → Int → Eh → Pl × Bool) (cs : List Col) (k : Int) (xs : List Ixd) (L : List Eh) (n : Nat) : (plansL ask cs k xs L n).length = n + 1 := by simp [plansL]
def pickP (l : List Pl) : Pl := match l.find? (fun p => p.emp) with | some p => p | none => match l.find? wish2 with | some p => p | none => match l.find? wish3 with | some p => p | none => allP (-1)
theorem find_at {q : Pl → Bool} : ∀ {l : List Pl} {i : Nat} {x : Pl}, l[i]? = some x → q x = true → (∀ y ∈ l.take i, q y = false) → l.find? q = some x
  | [], i, x, h, _, _ => by simp at h
  | y :: l, 0, x, h, hq, _ => by
    obtain rfl : y = x := by simpa using h
    rw [List.find?_cons, hq]
  | y :: l, i + 1, x, h, hq, ht => by
    have hy := ht y (by simp)
    rw [List.find?_cons, hy]
    exact find_at (by simpa using h) hq (fun z hz => ht z (by simp [hz]))
theorem find_not {q : Pl → Bool} {l : List Pl} (h : ∀ x ∈ l, q x = false) : l.find? q = none := by
  rw [List.find?_eq_none]
  intro x hx
  rw [h x hx]
  simp
theorem ixs_col {n : Nat} : ∀ {seen : List (List UInt8)} {xs : List Ixd}, ixsB n seen xs = true → ∀ x ∈ xs, 0 ≤ x.col ∧ x.col < n
  | _, [], _, x, hx => by cases hx
  | seen, y :: xs, h, x, hx => by
    unfold ixsB at h
    simp only [Bool.and_eq_true, decide_eq_true_eq] at h
    rcases List.mem_cons.1 hx with rfl | hx
    · exact h.2.2.1
    · exact ixs_col h.2.2.2 x hx
set_option maxHeartbeats 4000000 in
set_option maxRecDepth 100000 in
theorem choose_gen (nm : ByteArray) (A : Option Addr) (cs : List Col) (ca : Nat) (k : Int) (B : Option Addr) (xs : List Ixd) (cb : Nat) (b off cw : Nat) (T : Tr) (e : Ex) (ask : Int → Int → Eh → Pl × Bool) (w : World)
    (HR : RowE encC 3 w A cs) (HX : RowE encX 2 w B xs) (hm : MaxL w) (hk : -9223372036854775808 ≤ k ∧ k ≤ 9223372036854775807) (hcs : ∀ c ∈ cs, c.name.size ≤ maxLen) (hxs : ∀ x ∈ xs, x.name.size ≤ maxLen ∧ -9223372036854775808 ≤ x.col ∧ x.col ≤ 9223372036854775807) (hmay : mayT nm cs k xs = true)
    (hb : b < w.heap.size) (hcell : ∀ j v, (cellsE T.head)[j]? = some v → w.cell? ⟨b, off + j, none⟩ = some v) (hx : ExAt 12 w T.head e) (hparts : partsB 12 e = (false, false)) (hT : IsTr w.heap.size w T)
    (hA : ∀ x ∈ T.leaves, ∀ (at1 kind : Int) W, Below w.heap.size w W → Calls Try.prog 52 #[aggE x, .int .i64 at1, .int .i64 kind] W fun e W' => e = .returned (.tuple #[aggP (ask at1 kind x).1, .bool (ask at1 kind x).2]) ∧ Below W.heap.size W W') :
    Calls Try.prog 8 #[.agg #[.string nm, .slice A cs.length ca, .int .i64 k, .slice B xs.length cb], .slice (some ⟨b, off, none⟩) 1 cw] w fun r w' => r = .returned (.tuple #[aggP (pickP (plansL ask cs k xs T.leaves xs.length)), .int .i64 0]) ∧ Below w.heap.size w w' := by
  have hmy0 := hmay
  unfold mayT at hmy0
  simp only [Bool.and_eq_true, decide_eq_true_eq] at hmy0
  obtain ⟨_, ⟨_, hcl8, hxl4, hk0, hkl⟩, _, _, hixs⟩ := hmy0
  have hcol0 := ixs_col hixs
  clear hixs
  obtain ⟨c0, hc0⟩ : ∃ c0, cs[k.toNat]? = some c0 := ⟨_, List.getElem?_eq_getElem (by omega)⟩
  obtain ⟨bc, oc, rfl, hbc, hcol⟩ := HR k.toNat c0 hc0
  have hkd : kindAt cs k = c0.kind := by unfold kindAt; rw [hc0]
  have HBT := Lib.hid ((Box.new w #[.string nm, .slice (some ⟨bc, oc, none⟩) cs.length ca, .int .i64 k, .slice B xs.length cb] 38).alloc (.cells #[.int .i64 0, .bool false, .int .i64 0, .int .i64 0, .string ⟨#[]⟩, .bool false, .bool false, .int .i64 0, .int .i64 0, .string ⟨#[]⟩, .bool false, .bool false] 32))
  have HBR := Lib.hid (Box.new (w.alloc (.cells #[.string nm, .slice (some ⟨bc, oc, none⟩) cs.length ca, .int .i64 k, .slice B xs.length cb] 38)) #[.int .i64 0, .bool false, .int .i64 0, .int .i64 0, .string ⟨#[]⟩, .bool false, .bool false, .int .i64 0, .int .i64 0, .string ⟨#[]⟩, .bool false, .bool false] 32)
  have HF : Hid (Below w.heap.size w ((w.alloc (.cells #[.string nm, .slice (some ⟨bc, oc, none⟩) cs.length ca, .int .i64 k, .slice B xs.length cb] 38)).alloc (.cells #[.int .i64 0, .bool false, .int .i64 0, .int .i64 0, .string ⟨#[]⟩, .bool false, .bool false, .int .i64 0, .int .i64 0, .string ⟨#[]⟩, .bool false, .bool false] 32))) := Lib.hid (by (repeat (first | (with_reducible exact Below.refl _ _) | apply below_alloc _ (Nat.le_refl _) | refine below_set ?_ (by first | exact Nat.le_refl _ | omega) | apply below_drewN | refine below_step ?_ HB)))
  simp only [World.size_alloc] at HBR
  have hspan : ∀ (ix at1 kind : Int) W (hW : Below w.heap.size w W), Calls Try.prog 26 #[aggE T.head, .int .i64 ix, .int .i64 at1, .int .i64 kind] W fun e w' => e = .returned (aggP (spanP (ask at1 kind) ix T.leaves)) ∧ Below W.heap.size W w' := fun ix at1 kind W hW => span_any T ix at1 kind (ask at1 kind) W ((hT.below hW).mono hW.size) (fun x hx W' hW' => hA x hx at1 kind W' (below_step' hW hW'))
  have hpar := fun W (hW : Below w.heap.size w W) => parts_any 12 T.head e W (hx.below hW) (by decide)
  rw [hparts] at hpar
  have hmy := fun W (hW : Below w.heap.size w W) => may_any nm _ B cs xs ca cb k W (HR.below hW) (HX.below hW) (hm.below hW) hk hcs hxs
  rw [hmay] at hmy
  have hkc := hcol k.toNat c0 hc0 1 _ rfl
  have HKC : Hid (∀ W, Below w.heap.size w W → ∀ a : Int, 0 ≤ a → a < cs.length → W.cell? ⟨bc, oc + a.toNat * 3 + 1, none⟩ = some (.int .i64 (kindAt cs a))) := Lib.hid (fun W hW a h0 h1 => by
    obtain ⟨ca0, hca⟩ : ∃ c0, cs[a.toNat]? = some c0 := ⟨_, List.getElem?_eq_getElem (by omega)⟩
    have hq : kindAt cs a = ca0.kind := by unfold kindAt; rw [hca]
    rw [hq]
    exact (hW.cell (p := ⟨bc, _, none⟩) hbc).trans (hcol a.toNat ca0 hca 1 _ rfl))
  have HXR := Lib.hid HX
  have HCOL0 := Lib.hid hcol0
  have hp0 : planAt ask cs k xs T.leaves 0 = spanP (ask k (kindAt cs k)) 0 T.leaves := rfl
  have HPS : Hid (∀ j x, xs[j]? = some x → planAt ask cs k xs T.leaves (j + 1) = spanP (ask x.col (kindAt cs x.col)) ((j + 1 : Nat) : Int) T.leaves) := Lib.hid (fun j x hx => by
    unfold planAt
    rw [if_neg (by omega), Nat.add_sub_cancel, hx])
  have HPSU := Lib.hid (plansL_succ ask cs k xs T.leaves)
  have HPLE := Lib.hid (plansL_len ask cs k xs T.leaves)
  obtain ⟨RP, hRP⟩ : ∃ RP, pickP (plansL ask cs k xs T.leaves xs.length) = RP := ⟨_, rfl⟩
  rw [hRP]
  have HRP := Lib.hid hRP
  have h00 : plansL ask cs k xs T.leaves 0 = [planAt ask cs k xs T.leaves 0] := rfl
  have H00 := Lib.hid h00
  rw [← hkd] at hkc
  clear hx hT hA hcol hmay HR HX hm hcs hxs hparts hc0 hkd hcol0 hRP h00
  generalize plansL ask cs k xs T.leaves = PL at *
  generalize planAt ask cs k xs T.leaves = PA at *
  have hs0 := hspan 0 k (kindAt cs k)
  rw [← hp0] at hs0
  generalize kindAt cs k = kd at *
  obtain ⟨p0, hpp⟩ : ∃ p0, PA 0 = p0 := ⟨_, rfl⟩
  rw [hpp] at hs0 H00
  clear hp0 hpp
  have HSPN : Hid (∀ j x, xs[j]? = some x → ∀ W (hW : Below w.heap.size w W), Calls Try.prog 26 #[aggE T.head, .int .i64 (j + 1 : Nat), .int .i64 x.col, .int .i64 (kindAt cs x.col)] W fun e w' => e = .returned (aggP (PA (j + 1))) ∧ Below W.heap.size W w') := Lib.hid (fun j x hx W hW => by
    rw [HPS.out j x hx]
    exact hspan _ _ _ W hW)
  clear HPS hspan
  generalize T.head = g at *
  unfold cellsE at hcell
  unfold aggE aggP at hs0
  unfold aggE at hpar
  have HCELL := Lib.hid hcell
  have HSP := Lib.hid hs0
  have HPA := Lib.hid hpar
  have HMY := Lib.hid hmy
  clear hcell hs0 hpar hmy hk
  go_enter Try.func8, Try.ntmps8
  go_wp2_with fail
  generalize (w.alloc (.cells #[.string nm, .slice (some ⟨bc, oc, none⟩) cs.length ca, .int .i64 k, .slice B xs.length cb] 38)).alloc (.cells #[.int .i64 0, .bool false, .int .i64 0, .int .i64 0, .string ⟨#[]⟩, .bool false, .bool false, .int .i64 0, .int .i64 0, .string ⟨#[]⟩, .bool false, .bool false] 32) = w2 at *
  refine (HMY.out w2 HF.out).mono ?_; rintro r w3 ⟨rfl, h⟩
  replace HBT := Lib.hid (HBT.out.below h HBT.out.lt); replace HBR := Lib.hid (HBR.out.below h HBR.out.lt); replace HF := Lib.hid (below_step' HF.out h)
  clear h HMY
  have HFo := HF.out
  have e0 : w3.cell? ⟨b, off, none⟩ = some (.int .i64 g.op) := (HFo.cell (p := ⟨b, _, none⟩) hb).trans (HCELL.out 0 _ rfl)
  have e1 : w3.cell? ⟨b, off + 1, none⟩ = some (.int .i64 g.v.k) := (HFo.cell (p := ⟨b, _, none⟩) hb).trans (HCELL.out 1 _ rfl)
  have e2 : w3.cell? ⟨b, off + 2, none⟩ = some (.int .i64 g.v.n) := (HFo.cell (p := ⟨b, _, none⟩) hb).trans (HCELL.out 2 _ rfl)
  have e3 : w3.cell? ⟨b, off + 3, none⟩ = some (.string g.v.s) := (HFo.cell (p := ⟨b, _, none⟩) hb).trans (HCELL.out 3 _ rfl)
  have e4 : w3.cell? ⟨b, off + 4, none⟩ = some (.string g.tb) := (HFo.cell (p := ⟨b, _, none⟩) hb).trans (HCELL.out 4 _ rfl)
  have e5 : w3.cell? ⟨b, off + 5, none⟩ = some (.string g.nm) := (HFo.cell (p := ⟨b, _, none⟩) hb).trans (HCELL.out 5 _ rfl)
  have e6 : w3.cell? ⟨b, off + 6, none⟩ = some (.slice g.A g.len g.c) := (HFo.cell (p := ⟨b, _, none⟩) hb).trans (HCELL.out 6 _ rfl)
  go_wp2_with fail
  clear e0 e1 e2 e3 e4 e5 e6
  refine (HPA.out w3 HFo).mono ?_; rintro r w4 ⟨rfl, h⟩
  clear HFo
  replace HBT := Lib.hid (HBT.out.below h HBT.out.lt); replace HBR := Lib.hid (HBR.out.below h HBR.out.lt); replace HF := Lib.hid (below_step' HF.out h)
  clear h HPA
  have HFo := HF.out
  have e0 : w4.cell? ⟨b, off, none⟩ = some (.int .i64 g.op) := (HFo.cell (p := ⟨b, _, none⟩) hb).trans (HCELL.out 0 _ rfl)
  have e1 : w4.cell? ⟨b, off + 1, none⟩ = some (.int .i64 g.v.k) := (HFo.cell (p := ⟨b, _, none⟩) hb).trans (HCELL.out 1 _ rfl)
  have e2 : w4.cell? ⟨b, off + 2, none⟩ = some (.int .i64 g.v.n) := (HFo.cell (p := ⟨b, _, none⟩) hb).trans (HCELL.out 2 _ rfl)
  have e3 : w4.cell? ⟨b, off + 3, none⟩ = some (.string g.v.s) := (HFo.cell (p := ⟨b, _, none⟩) hb).trans (HCELL.out 3 _ rfl)
  have e4 : w4.cell? ⟨b, off + 4, none⟩ = some (.string g.tb) := (HFo.cell (p := ⟨b, _, none⟩) hb).trans (HCELL.out 4 _ rfl)
  have e5 : w4.cell? ⟨b, off + 5, none⟩ = some (.string g.nm) := (HFo.cell (p := ⟨b, _, none⟩) hb).trans (HCELL.out 5 _ rfl)
  have e6 : w4.cell? ⟨b, off + 6, none⟩ = some (.slice g.A g.len g.c) := (HFo.cell (p := ⟨b, _, none⟩) hb).trans (HCELL.out 6 _ rfl)
  have hkn : w4.cell? ⟨bc, oc + k.toNat * 3 + 1, none⟩ = some (.int .i64 kd) := (HFo.cell (p := ⟨bc, _, none⟩) hbc).trans hkc
  have cHBT0 := HBT.out.c 0 _ rfl; have fHBT0 := HBT.out.f 0 (by simp); have cHBT1 := HBT.out.c 1 _ rfl; have fHBT1 := HBT.out.f 1 (by simp); have cHBT2 := HBT.out.c 2 _ rfl; have fHBT2 := HBT.out.f 2 (by simp); have cHBT3 := HBT.out.c 3 _ rfl; have fHBT3 := HBT.out.f 3 (by simp); have lHBT := HBT.out.lt
  have hkl' : k < (cs.length : Int) := hkl
  go_wp2_with fail
  refine still_tail 12 (by kernel_rfl) (by kernel_rfl) ?_
  simp only [List.take_succ_cons, List.take_zero, List.drop_succ_cons, List.drop_zero]
  repeat still_step
  refine wpStill_nil ?_
  go_wp2_with fail
  clear cHBT0 fHBT0 cHBT1 fHBT1 cHBT2 fHBT2 cHBT3 fHBT3 lHBT
  refine (HSP.out w4.drew (below_drewN HFo 1)).mono ?_; rintro r w5 ⟨rfl, h⟩
  clear e0 e1 e2 e3 e4 e5 e6
  clear hkn HFo HSP
  replace HBT := Lib.hid HBT.out.drew
  replace HBR := Lib.hid HBR.out.drew
  replace HF : Hid (Below w.heap.size w w4.drew) := Lib.hid (below_drewN HF.out 1)
  replace HBT := Lib.hid (HBT.out.below h HBT.out.lt); replace HBR := Lib.hid (HBR.out.below h HBR.out.lt); replace HF := Lib.hid (below_step' HF.out h)
  clear h
  go_upto_region 13 with (fail)
  have cHBT0 := HBT.out.c 0 _ rfl; have fHBT0 := HBT.out.f 0 (by simp); have cHBT1 := HBT.out.c 1 _ rfl; have fHBT1 := HBT.out.f 1 (by simp); have cHBT2 := HBT.out.c 2 _ rfl; have fHBT2 := HBT.out.f 2 (by simp); have cHBT3 := HBT.out.c 3 _ rfl; have fHBT3 := HBT.out.f 3 (by simp); have lHBT := HBT.out.lt
  go_wp2_with fail
  clear cHBT0 fHBT0 cHBT1 fHBT1 cHBT2 fHBT2 cHBT3 fHBT3 lHBT
  obtain ⟨NB, hNB⟩ : ∃ NB, w5.heap.size = NB := ⟨_, rfl⟩
  have HOW := Lib.hid (World.ownsRow_lit (base := NB) (e := 32) (size := 12) w5 #[.int .i64 p0.ix, .bool p0.lo.op, .int .i64 p0.lo.v.k, .int .i64 p0.lo.v.n, .string p0.lo.v.s, .bool p0.lo.inn, .bool p0.hi.op, .int .i64 p0.hi.v.k, .int .i64 p0.hi.v.n, .string p0.hi.v.s, .bool p0.hi.inn, .bool p0.emp] 1 (Nat.le_of_eq hNB.symm) (by decide) rfl)
  have hgp : w.heap.size + 2 ≤ NB := by have := HBR.out.lt; omega
  replace HBR := Lib.hid (HBR.out.alloc (.cells #[.int .i64 p0.ix, .bool p0.lo.op, .int .i64 p0.lo.v.k, .int .i64 p0.lo.v.n, .string p0.lo.v.s, .bool p0.lo.inn, .bool p0.hi.op, .int .i64 p0.hi.v.k, .int .i64 p0.hi.v.n, .string p0.hi.v.s, .bool p0.hi.inn, .bool p0.emp] 32))
  replace HBT := Lib.hid (HBT.out.alloc (.cells #[.int .i64 p0.ix, .bool p0.lo.op, .int .i64 p0.lo.v.k, .int .i64 p0.lo.v.n, .string p0.lo.v.s, .bool p0.lo.inn, .bool p0.hi.op, .int .i64 p0.hi.v.k, .int .i64 p0.hi.v.n, .string p0.hi.v.s, .bool p0.hi.inn, .bool p0.emp] 32))
  have hs5 := HF.out.size
  replace HF := Lib.hid (HF.out.alloc hs5 (.cells #[.int .i64 p0.ix, .bool p0.lo.op, .int .i64 p0.lo.v.k, .int .i64 p0.lo.v.n, .string p0.lo.v.s, .bool p0.lo.inn, .bool p0.hi.op, .int .i64 p0.hi.v.k, .int .i64 p0.hi.v.n, .string p0.hi.v.s, .bool p0.hi.inn, .bool p0.emp] 32))
  have hs6 : NB ≤ (w5.alloc (.cells #[.int .i64 p0.ix, .bool p0.lo.op, .int .i64 p0.lo.v.k, .int .i64 p0.lo.v.n, .string p0.lo.v.s, .bool p0.lo.inn, .bool p0.hi.op, .int .i64 p0.hi.v.k, .int .i64 p0.hi.v.n, .string p0.hi.v.s, .bool p0.hi.inn, .bool p0.emp] 32)).heap.size := by simp; omega
  clear hs5
  rw [hNB]
  rw [hNB] at HOW
  clear hNB
  generalize w5.alloc (.cells #[.int .i64 p0.ix, .bool p0.lo.op, .int .i64 p0.lo.v.k, .int .i64 p0.lo.v.n, .string p0.lo.v.s, .bool p0.lo.inn, .bool p0.hi.op, .int .i64 p0.hi.v.k, .int .i64 p0.hi.v.n, .string p0.hi.v.s, .bool p0.hi.inn, .bool p0.emp] 32) = w6 at *
  obtain ⟨i0, hi, hz0, hz1, hz2⟩ := info_parts (show (Try.prog.info? 32).map (fun i => (i.zero, i.size, i.bytes)) = some (some (.agg #[.int .i64 0, .bool false, .int .i64 0, .int .i64 0, .string ⟨#[]⟩, .bool false, .bool false, .int .i64 0, .int .i64 0, .string ⟨#[]⟩, .bool false, .bool false]), 12, 112) by kernel_rfl)
  have HO0 : Hid (w6.ownsRow NB 32 12 (.slice (some ⟨NB, 0, none⟩) 1 1) (0 + 1) ((PL 0).flatMap encP)) := Lib.hid (by rw [H00.out]; exact HOW.out)
  clear HOW H00
  go_loopw [8, 60] (fun s i wr => ∃ j : Nat, j ≤ xs.length ∧ i = .int .i64 j ∧ Hid (wr.ownsRow NB 32 12 s (j + 1) ((PL j).flatMap encP)) ∧ Hid (Box wr w.heap.size [.string nm, .slice (some ⟨bc, oc, none⟩) cs.length ca, .int .i64 k, .slice B xs.length cb]) ∧ Hid (Box wr (w.heap.size + 1) [.int .i64 0, .bool false, .int .i64 0, .int .i64 0, .string ⟨#[]⟩, .bool false, .bool false, .int .i64 0, .int .i64 0, .string ⟨#[]⟩, .bool false, .bool false]) ∧ Hid (Below w.heap.size w wr) ∧ NB ≤ wr.heap.size) (fun _ i _ => xs.length - (Lib.intOf i).toNat)
  case atStart => exact ⟨0, Nat.zero_le _, rfl, HO0, HBT, HBR, HF, hs6⟩
  case round =>
  clear HBT HBR HF HO0 hs6
  obtain ⟨j, hj, rfl, HO, HBT, HBR, HF, hsz⟩ := hrel
  by_cases hlt : j < xs.length
  · obtain ⟨x, hx⟩ : ∃ x, xs[j]? = some x := ⟨_, List.getElem?_eq_getElem hlt⟩
    have hsp := HSPN.out j x hx
    have hcr := HCOL0.out x (List.mem_of_getElem? hx)
    obtain ⟨b0, o0, rfl, hb0, hce⟩ := HXR.out.atE hx HF.out
    clear hx
    obtain ⟨xn, xc⟩ := x
    dsimp only at hsp hcr
    have x0 : wr.cell? ⟨b0, o0 + j * 2, none⟩ = some (.string xn) := hce 0 _ rfl
    have x1 : wr.cell? ⟨b0, o0 + j * 2 + 1, none⟩ = some (.int .i64 xc) := hce 1 _ rfl
    clear hce
    go_upto_region 16 with (fail)
    have hog : ∀ q, u8.ownBlock = some q → q < wr.heap.size := fun q hq => (HO.out.lt q hq).2
    have HXB := Lib.hid (Box.new wr #[.string xn, .int .i64 xc] 79)
    replace HO := Lib.hid (HO.out.alloc (.cells #[.string xn, .int .i64 xc] 79))
    replace HBT := Lib.hid (HBT.out.alloc (.cells #[.string xn, .int .i64 xc] 79))
    replace HBR := Lib.hid (HBR.out.alloc (.cells #[.string xn, .int .i64 xc] 79))
    have hsr := HF.out.size
    replace HF := Lib.hid (HF.out.alloc hsr (.cells #[.string xn, .int .i64 xc] 79))
    have hsz7 : NB ≤ (wr.alloc (.cells #[.string xn, .int .i64 xc] 79)).heap.size := by simp; omega
    clear hsz hsr x0 x1
    generalize wr.alloc (.cells #[.string xn, .int .i64 xc] 79) = w7 at *
    generalize wr.heap.size = gx at *
    have hcr1 := hcr.1
    have hcr2 := hcr.2
    have hje : ((j + 1 : Nat) : Int) = (j : Int) + 1 := by omega
    rw [hje] at hsp
    have hwr : IntKind.i64.wrap ((j : Int) + 1) = (j : Int) + 1 := by rw [IntKind.wrap_i64]; omega
    rw [← hwr] at hsp
    clear hwr
    obtain ⟨kx, hkx⟩ : ∃ kx, kindAt cs xc = kx := ⟨_, rfl⟩
    rw [hkx] at hsp
    obtain ⟨q, hq⟩ : ∃ q, PA (j + 1) = q := ⟨_, rfl⟩
    have HQ := Lib.hid hq
    rw [hq] at hsp
    unfold aggE aggP at hsp
    have HSP2 := Lib.hid hsp
    clear hsp hje hq hcr
    refine stage_begin (S := fun (L' : Array Bool) (w' : World) => Below w.heap.size w w' ∧ Box w' w.heap.size [.string nm, .slice (some ⟨bc, oc, none⟩) cs.length ca, .int .i64 k, .slice (some ⟨b0, o0, none⟩) xs.length cb] ∧ Box w' gx [.string xn, .int .i64 xc]) (by kernel_rfl) ?_
    replace HBT := Lib.hid HBT.out.drew
    replace HBR := Lib.hid HBR.out.drew
    replace HXB := Lib.hid HXB.out.drew
    replace HF : Hid (Below w.heap.size w w7.drew) := Lib.hid (below_drewN HF.out 1)
    replace HO := Lib.hid (HO.out.drew)
    have hszd : NB ≤ w7.drew.heap.size := hsz7
    clear hsz7
    generalize w7.drew = wd at *
    have hS0 : Below w.heap.size w wd ∧ Box wd w.heap.size [.string nm, .slice (some ⟨bc, oc, none⟩) cs.length ca, .int .i64 k, .slice (some ⟨b0, o0, none⟩) xs.length cb] ∧ Box wd gx [.string xn, .int .i64 xc] := ⟨HF.out, HBT.out, HXB.out⟩
    refine stage_take (i := 0) (oi := { dst := some 65, op := Go.Op.move (Go.Operand.tmp 8), type := 78, pos := "plan.go:161", after := #[], guard := none }) (v := ?_) (T := fun _ => True) rfl (by kernel_rfl) (by kernel_rfl) (by kernel_rfl) (by kernel_rfl) (fun _ _ _ h => h) (fun L' w' hW hS => trivial) (fun L' w' hS => hS) (Or.inl ⟨by rfl, ?_⟩) trivial (hS0) ?_
    rotate_left 1
    · intro w9 _; go_simp; (try with_reducible rfl)
    try simp only [Act.put, List.setIfInBounds_toArray, List.set_cons_zero, List.set_cons_succ]
    refine stage_take (i := 1) (oi := { dst := some 66, op := Go.Op.move (Go.Operand.tmp 1), type := 26, pos := "plan.go:161", after := #[], guard := none }) (v := ?_) (T := fun _ => True) rfl (by kernel_rfl) (by kernel_rfl) (by kernel_rfl) (by kernel_rfl) (fun _ _ _ h => h) (fun L' w' hW hS => trivial) (fun L' w' hS => hS) (Or.inl ⟨by rfl, ?_⟩) trivial (hS0) ?_
    rotate_left 1
    · intro w9 _; go_simp; (try with_reducible rfl)
    try simp only [Act.put, List.setIfInBounds_toArray, List.set_cons_zero, List.set_cons_succ]
    refine stage_take (i := 2) (oi := { dst := some 67, op := Go.Op.indexAddr 26 (Go.Operand.tmp 66) (Go.Operand.const (Go.Value.int Go.IntKind.i64 0)), type := 0, pos := "plan.go:161", after := #[{ on := 1, ground := Go.Ground.data }], guard := none }) (v := ?_) (T := fun _ => True) rfl (by kernel_rfl) (by kernel_rfl) (by kernel_rfl) (by kernel_rfl) (fun _ _ _ h => h) (fun L' w' hW hS => trivial) (fun L' w' hS => hS) (Or.inl ⟨by rfl, ?_⟩) trivial (hS0) ?_
    rotate_left 1
    · intro w9 _; go_simp; (try with_reducible rfl)
    try simp only [Act.put, List.setIfInBounds_toArray, List.set_cons_zero, List.set_cons_succ]
    refine stage_take (i := 3) (oi := { dst := some 68, op := Go.Op.load 51 (Go.Operand.tmp 67), type := 51, pos := "plan.go:161", after := #[{ on := 2, ground := Go.Ground.data }], guard := none }) (v := ?_) (T := fun w' : World => Below w.heap.size w w' ∧ Box w' w.heap.size [.string nm, .slice (some ⟨bc, oc, none⟩) cs.length ca, .int .i64 k, .slice (some ⟨b0, o0, none⟩) xs.length cb] ∧ Box w' gx [.string xn, .int .i64 xc]) rfl (by kernel_rfl) (by kernel_rfl) (by kernel_rfl) (by kernel_rfl) (fun _ _ _ h => h) (fun L' w' hW hS => hS) (fun L' w' hS => hS) (Or.inl ⟨by rfl, ?_⟩) (hS0) (hS0) ?_
    rotate_left 1
    · intro w9 hS9; have zA := hS9; have zB := zA.1; have e0 : w9.cell? ⟨b, off, none⟩ = some (.int .i64 g.op) := (zB.cell (p := ⟨b, _, none⟩) hb).trans (HCELL.out 0 _ rfl); have e1 : w9.cell? ⟨b, off + 1, none⟩ = some (.int .i64 g.v.k) := (zB.cell (p := ⟨b, _, none⟩) hb).trans (HCELL.out 1 _ rfl); have e2 : w9.cell? ⟨b, off + 2, none⟩ = some (.int .i64 g.v.n) := (zB.cell (p := ⟨b, _, none⟩) hb).trans (HCELL.out 2 _ rfl); have e3 : w9.cell? ⟨b, off + 3, none⟩ = some (.string g.v.s) := (zB.cell (p := ⟨b, _, none⟩) hb).trans (HCELL.out 3 _ rfl); have e4 : w9.cell? ⟨b, off + 4, none⟩ = some (.string g.tb) := (zB.cell (p := ⟨b, _, none⟩) hb).trans (HCELL.out 4 _ rfl); have e5 : w9.cell? ⟨b, off + 5, none⟩ = some (.string g.nm) := (zB.cell (p := ⟨b, _, none⟩) hb).trans (HCELL.out 5 _ rfl); have e6 : w9.cell? ⟨b, off + 6, none⟩ = some (.slice g.A g.len g.c) := (zB.cell (p := ⟨b, _, none⟩) hb).trans (HCELL.out 6 _ rfl); clear zB; clear zA hS9; go_simp; (try with_reducible rfl)
    try simp only [Act.put, List.setIfInBounds_toArray, List.set_cons_zero, List.set_cons_succ]
    refine stage_take (i := 4) (oi := { dst := some 69, op := Go.Op.move (Go.Operand.tmp 9), type := 3, pos := "plan.go:161", after := #[], guard := none }) (v := ?_) (T := fun _ => True) rfl (by kernel_rfl) (by kernel_rfl) (by kernel_rfl) (by kernel_rfl) (fun _ _ _ h => h) (fun L' w' hW hS => trivial) (fun L' w' hS => hS) (Or.inl ⟨by rfl, ?_⟩) trivial (hS0) ?_
    rotate_left 1
    · intro w9 _; go_simp; (try with_reducible rfl)
    try simp only [Act.put, List.setIfInBounds_toArray, List.set_cons_zero, List.set_cons_succ]
    refine stage_take (i := 5) (oi := { dst := some 70, op := Go.Op.binOp Go.BinOp.add 3 (Go.Operand.tmp 69) (Go.Operand.const (Go.Value.int Go.IntKind.i64 1)) 3, type := 3, pos := "plan.go:161", after := #[{ on := 4, ground := Go.Ground.data }], guard := none }) (v := ?_) (T := fun _ => True) rfl (by kernel_rfl) (by kernel_rfl) (by kernel_rfl) (by kernel_rfl) (fun _ _ _ h => h) (fun L' w' hW hS => trivial) (fun L' w' hS => hS) (Or.inl ⟨by rfl, ?_⟩) trivial (hS0) ?_
    rotate_left 1
    · intro w9 _; go_simp; (try with_reducible rfl)
    try simp only [Act.put, List.setIfInBounds_toArray, List.set_cons_zero, List.set_cons_succ]
    refine stage_take (i := 6) (oi := { dst := some 71, op := Go.Op.fieldAddr 79 (Go.Operand.tmp 10) 1, type := 0, pos := "plan.go:161", after := #[], guard := none }) (v := ?_) (T := fun _ => True) rfl (by kernel_rfl) (by kernel_rfl) (by kernel_rfl) (by kernel_rfl) (fun _ _ _ h => h) (fun L' w' hW hS => trivial) (fun L' w' hS => hS) (Or.inl ⟨by rfl, ?_⟩) trivial (hS0) ?_
    rotate_left 1
    · intro w9 _; go_simp; (try with_reducible rfl)
    try simp only [Act.put, List.setIfInBounds_toArray, List.set_cons_zero, List.set_cons_succ]
    refine stage_take (i := 7) (oi := { dst := some 72, op := Go.Op.load 3 (Go.Operand.tmp 71), type := 3, pos := "plan.go:161", after := #[{ on := 6, ground := Go.Ground.data }], guard := none }) (v := ?_) (T := fun w' : World => Below w.heap.size w w' ∧ Box w' w.heap.size [.string nm, .slice (some ⟨bc, oc, none⟩) cs.length ca, .int .i64 k, .slice (some ⟨b0, o0, none⟩) xs.length cb] ∧ Box w' gx [.string xn, .int .i64 xc]) rfl (by kernel_rfl) (by kernel_rfl) (by kernel_rfl) (by kernel_rfl) (fun _ _ _ h => h) (fun L' w' hW hS => hS) (fun L' w' hS => hS) (Or.inl ⟨by rfl, ?_⟩) (hS0) (hS0) ?_
    rotate_left 1
    · intro w9 hS9; have zA := hS9; have zB := zA.2.2; have z0 := zB.c 0 _ rfl; have z1 := zB.c 1 _ rfl; clear zB; clear zA hS9; go_simp; (try with_reducible rfl)
    try simp only [Act.put, List.setIfInBounds_toArray, List.set_cons_zero, List.set_cons_succ]
    refine stage_take (i := 8) (oi := { dst := some 73, op := Go.Op.fieldAddr 38 (Go.Operand.tmp 2) 1, type := 0, pos := "plan.go:161", after := #[], guard := none }) (v := ?_) (T := fun _ => True) rfl (by kernel_rfl) (by kernel_rfl) (by kernel_rfl) (by kernel_rfl) (fun _ _ _ h => h) (fun L' w' hW hS => trivial) (fun L' w' hS => hS) (Or.inl ⟨by rfl, ?_⟩) trivial (hS0) ?_
    rotate_left 1
    · intro w9 _; go_simp; (try with_reducible rfl)
    try simp only [Act.put, List.setIfInBounds_toArray, List.set_cons_zero, List.set_cons_succ]
    refine stage_take (i := 9) (oi := { dst := some 74, op := Go.Op.load 22 (Go.Operand.tmp 73), type := 22, pos := "plan.go:161", after := #[{ on := 8, ground := Go.Ground.data }], guard := none }) (v := ?_) (T := fun w' : World => Below w.heap.size w w' ∧ Box w' w.heap.size [.string nm, .slice (some ⟨bc, oc, none⟩) cs.length ca, .int .i64 k, .slice (some ⟨b0, o0, none⟩) xs.length cb] ∧ Box w' gx [.string xn, .int .i64 xc]) rfl (by kernel_rfl) (by kernel_rfl) (by kernel_rfl) (by kernel_rfl) (fun _ _ _ h => h) (fun L' w' hW hS => hS) (fun L' w' hS => hS) (Or.inl ⟨by rfl, ?_⟩) (hS0) (hS0) ?_
    rotate_left 1
    · intro w9 hS9; have zA := hS9; have zB := zA.2.1; have z0 := zB.c 0 _ rfl; have z1 := zB.c 1 _ rfl; have z2 := zB.c 2 _ rfl; have z3 := zB.c 3 _ rfl; clear zB; clear zA hS9; go_simp; (try with_reducible rfl)
    try simp only [Act.put, List.setIfInBounds_toArray, List.set_cons_zero, List.set_cons_succ]
    refine stage_take (i := 10) (oi := { dst := some 75, op := Go.Op.fieldAddr 79 (Go.Operand.tmp 10) 1, type := 0, pos := "plan.go:161", after := #[], guard := none }) (v := ?_) (T := fun _ => True) rfl (by kernel_rfl) (by kernel_rfl) (by kernel_rfl) (by kernel_rfl) (fun _ _ _ h => h) (fun L' w' hW hS => trivial) (fun L' w' hS => hS) (Or.inl ⟨by rfl, ?_⟩) trivial (hS0) ?_
    rotate_left 1
    · intro w9 _; go_simp; (try with_reducible rfl)
    try simp only [Act.put, List.setIfInBounds_toArray, List.set_cons_zero, List.set_cons_succ]
    refine stage_take (i := 11) (oi := { dst := some 76, op := Go.Op.load 3 (Go.Operand.tmp 75), type := 3, pos := "plan.go:161", after := #[{ on := 10, ground := Go.Ground.data }], guard := none }) (v := ?_) (T := fun w' : World => Below w.heap.size w w' ∧ Box w' w.heap.size [.string nm, .slice (some ⟨bc, oc, none⟩) cs.length ca, .int .i64 k, .slice (some ⟨b0, o0, none⟩) xs.length cb] ∧ Box w' gx [.string xn, .int .i64 xc]) rfl (by kernel_rfl) (by kernel_rfl) (by kernel_rfl) (by kernel_rfl) (fun _ _ _ h => h) (fun L' w' hW hS => hS) (fun L' w' hS => hS) (Or.inl ⟨by rfl, ?_⟩) (hS0) (hS0) ?_
    rotate_left 1
    · intro w9 hS9; have zA := hS9; have zB := zA.2.2; have z0 := zB.c 0 _ rfl; have z1 := zB.c 1 _ rfl; clear zB; clear zA hS9; go_simp; (try with_reducible rfl)
    try simp only [Act.put, List.setIfInBounds_toArray, List.set_cons_zero, List.set_cons_succ]
    refine stage_take (i := 12) (oi := { dst := some 77, op := Go.Op.indexAddr 22 (Go.Operand.tmp 74) (Go.Operand.tmp 76), type := 0, pos := "plan.go:161", after := #[{ on := 9, ground := Go.Ground.data }, { on := 11, ground := Go.Ground.data }], guard := none }) (v := ?_) (T := fun _ => True) rfl (by kernel_rfl) (by kernel_rfl) (by kernel_rfl) (by kernel_rfl) (fun _ _ _ h => h) (fun L' w' hW hS => trivial) (fun L' w' hS => hS) (Or.inl ⟨by rfl, ?_⟩) trivial (hS0) ?_
    rotate_left 1
    · intro w9 _; go_simp; (try with_reducible rfl)
    try simp only [Act.put, List.setIfInBounds_toArray, List.set_cons_zero, List.set_cons_succ]
    refine stage_take (i := 13) (oi := { dst := some 78, op := Go.Op.fieldAddr 65 (Go.Operand.tmp 77) 1, type := 0, pos := "plan.go:161", after := #[{ on := 12, ground := Go.Ground.data }], guard := none }) (v := ?_) (T := fun _ => True) rfl (by kernel_rfl) (by kernel_rfl) (by kernel_rfl) (by kernel_rfl) (fun _ _ _ h => h) (fun L' w' hW hS => trivial) (fun L' w' hS => hS) (Or.inl ⟨by rfl, ?_⟩) trivial (hS0) ?_
    rotate_left 1
    · intro w9 _; go_simp; (try with_reducible rfl)
    try simp only [Act.put, List.setIfInBounds_toArray, List.set_cons_zero, List.set_cons_succ]
    refine stage_take (i := 14) (oi := { dst := some 79, op := Go.Op.load 3 (Go.Operand.tmp 78), type := 3, pos := "plan.go:161", after := #[{ on := 13, ground := Go.Ground.data }], guard := none }) (v := ?_) (T := fun w' : World => Below w.heap.size w w' ∧ Box w' w.heap.size [.string nm, .slice (some ⟨bc, oc, none⟩) cs.length ca, .int .i64 k, .slice (some ⟨b0, o0, none⟩) xs.length cb] ∧ Box w' gx [.string xn, .int .i64 xc]) rfl (by kernel_rfl) (by kernel_rfl) (by kernel_rfl) (by kernel_rfl) (fun _ _ _ h => h) (fun L' w' hW hS => hS) (fun L' w' hS => hS) (Or.inl ⟨by rfl, ?_⟩) (hS0) (hS0) ?_
    rotate_left 1
    · intro w9 hS9; have zA := hS9; have zB := HKC.out w9 zA.1 xc hcr1 hcr2; rw [hkx] at zB; clear zA hS9; go_simp; (try with_reducible rfl)
    try simp only [Act.put, List.setIfInBounds_toArray, List.set_cons_zero, List.set_cons_succ]
    refine stage_all (rs := [15]) (by kernel_rfl) (by simp) (fun i0 hi0 => ?_)
    obtain rfl : i0 = 15 := by simpa using hi0
    refine stage_step (S := fun (L' : Array Bool) (w' : World) => Below w.heap.size w w' ∧ Box w' w.heap.size [.string nm, .slice (some ⟨bc, oc, none⟩) cs.length ca, .int .i64 k, .slice (some ⟨b0, o0, none⟩) xs.length cb] ∧ Box w' gx [.string xn, .int .i64 xc]) (o := { dst := some 80, op := Go.Op.call { callee := Go.Callee.value (Go.Operand.func 26), args := #[Go.Operand.tmp 68, Go.Operand.tmp 70, Go.Operand.tmp 72, Go.Operand.tmp 79], argTypes := #[51, 3, 3, 3] }, type := 32, pos := "plan.go:161", after := #[{ on := 3, ground := Go.Ground.data }, { on := 5, ground := Go.Ground.data }, { on := 7, ground := Go.Ground.data }, { on := 14, ground := Go.Ground.data }], guard := none }) (by rfl) (fun K2 hK => ?_)
    go_simp
    go_wp2_with (go_at_call 26; (with_reducible refine (HSP2.out wd HF.out).mono ?_); rintro r w8 ⟨rfl, h⟩)
    clear hS0 HSP2
    have hsz8 : NB ≤ w8.heap.size := Nat.le_trans hszd h.size
    replace HBT := Lib.hid (HBT.out.below h HBT.out.lt); replace HBR := Lib.hid (HBR.out.below h HBR.out.lt); replace HXB := Lib.hid (HXB.out.below h HXB.out.lt); replace HF := Lib.hid (below_step' HF.out h); replace HO := Lib.hid (own_below HO.out h)
    clear h hszd
    have hS0 : Below w.heap.size w w8 ∧ Box w8 w.heap.size [.string nm, .slice (some ⟨bc, oc, none⟩) cs.length ca, .int .i64 k, .slice (some ⟨b0, o0, none⟩) xs.length cb] ∧ Box w8 gx [.string xn, .int .i64 xc] := ⟨HF.out, HBT.out, HXB.out⟩
    refine hK.out _ _ (hS0) ?_
    clear hK K2
    try simp only [Act.put, List.setIfInBounds_toArray, List.set_cons_zero, List.set_cons_succ]
    refine stage_all (rs := [16]) (by kernel_rfl) (by simp) (fun i0 hi0 => ?_)
    obtain rfl : i0 = 16 := by simpa using hi0
    refine stage_step (S := fun (L' : Array Bool) (w' : World) => Below w.heap.size w w' ∧ Box w' w.heap.size [.string nm, .slice (some ⟨bc, oc, none⟩) cs.length ca, .int .i64 k, .slice (some ⟨b0, o0, none⟩) xs.length cb] ∧ Box w' gx [.string xn, .int .i64 xc]) (o := { dst := some 81, op := Go.Op.buildSlice 78 1 #[(0, Go.Operand.tmp 80)], type := 78, pos := "plan.go:161", after := #[{ on := 15, ground := Go.Ground.data }], guard := none }) (by rfl) (fun K2 hK => ?_)
    go_simp
    clear hS0
    have hsf := HF.out.size
    have HNW : Hid (∀ jj u, (encP q)[jj]? = some u → (w8.alloc (.cells #[.int .i64 q.ix, .bool q.lo.op, .int .i64 q.lo.v.k, .int .i64 q.lo.v.n, .string q.lo.v.s, .bool q.lo.inn, .bool q.hi.op, .int .i64 q.hi.v.k, .int .i64 q.hi.v.n, .string q.hi.v.s, .bool q.hi.inn, .bool q.emp] 32)).cell? ((⟨w8.heap.size, 0, none⟩ : Addr).add jj) = some u) := Lib.hid (fun jj u hu => by rw [Addr.add_lit, Nat.zero_add]; exact (Box.new w8 #[.int .i64 q.ix, .bool q.lo.op, .int .i64 q.lo.v.k, .int .i64 q.lo.v.n, .string q.lo.v.s, .bool q.lo.inn, .bool q.hi.op, .int .i64 q.hi.v.k, .int .i64 q.hi.v.n, .string q.hi.v.s, .bool q.hi.inn, .bool q.emp] 32).c jj u hu)
    replace HBT := Lib.hid (HBT.out.alloc (.cells #[.int .i64 q.ix, .bool q.lo.op, .int .i64 q.lo.v.k, .int .i64 q.lo.v.n, .string q.lo.v.s, .bool q.lo.inn, .bool q.hi.op, .int .i64 q.hi.v.k, .int .i64 q.hi.v.n, .string q.hi.v.s, .bool q.hi.inn, .bool q.emp] 32))
    replace HBR := Lib.hid (HBR.out.alloc (.cells #[.int .i64 q.ix, .bool q.lo.op, .int .i64 q.lo.v.k, .int .i64 q.lo.v.n, .string q.lo.v.s, .bool q.lo.inn, .bool q.hi.op, .int .i64 q.hi.v.k, .int .i64 q.hi.v.n, .string q.hi.v.s, .bool q.hi.inn, .bool q.emp] 32))
    replace HXB := Lib.hid (HXB.out.alloc (.cells #[.int .i64 q.ix, .bool q.lo.op, .int .i64 q.lo.v.k, .int .i64 q.lo.v.n, .string q.lo.v.s, .bool q.lo.inn, .bool q.hi.op, .int .i64 q.hi.v.k, .int .i64 q.hi.v.n, .string q.hi.v.s, .bool q.hi.inn, .bool q.emp] 32))
    replace HO := Lib.hid (HO.out.alloc (.cells #[.int .i64 q.ix, .bool q.lo.op, .int .i64 q.lo.v.k, .int .i64 q.lo.v.n, .string q.lo.v.s, .bool q.lo.inn, .bool q.hi.op, .int .i64 q.hi.v.k, .int .i64 q.hi.v.n, .string q.hi.v.s, .bool q.hi.inn, .bool q.emp] 32))
    replace HF := Lib.hid (HF.out.alloc hsf (.cells #[.int .i64 q.ix, .bool q.lo.op, .int .i64 q.lo.v.k, .int .i64 q.lo.v.n, .string q.lo.v.s, .bool q.lo.inn, .bool q.hi.op, .int .i64 q.hi.v.k, .int .i64 q.hi.v.n, .string q.hi.v.s, .bool q.hi.inn, .bool q.emp] 32))
    have hsb : NB ≤ (w8.alloc (.cells #[.int .i64 q.ix, .bool q.lo.op, .int .i64 q.lo.v.k, .int .i64 q.lo.v.n, .string q.lo.v.s, .bool q.lo.inn, .bool q.hi.op, .int .i64 q.hi.v.k, .int .i64 q.hi.v.n, .string q.hi.v.s, .bool q.hi.inn, .bool q.emp] 32)).heap.size := by simp; omega
    clear hsf hsz8
    generalize w8.alloc (.cells #[.int .i64 q.ix, .bool q.lo.op, .int .i64 q.lo.v.k, .int .i64 q.lo.v.n, .string q.lo.v.s, .bool q.lo.inn, .bool q.hi.op, .int .i64 q.hi.v.k, .int .i64 q.hi.v.n, .string q.hi.v.s, .bool q.hi.inn, .bool q.emp] 32) = wa at *
    generalize w8.heap.size = gq at *
    have hS0 : Below w.heap.size w wa ∧ Box wa w.heap.size [.string nm, .slice (some ⟨bc, oc, none⟩) cs.length ca, .int .i64 k, .slice (some ⟨b0, o0, none⟩) xs.length cb] ∧ Box wa gx [.string xn, .int .i64 xc] := ⟨HF.out, HBT.out, HXB.out⟩
    refine hK.out _ _ (hS0) ?_
    clear hK K2
    try simp only [Act.put, List.setIfInBounds_toArray, List.set_cons_zero, List.set_cons_succ]
    refine stage_all (rs := [17]) (by kernel_rfl) (by simp) (fun i0 hi0 => ?_)
    obtain rfl : i0 = 17 := by simpa using hi0
    refine stage_step (S := fun (L' : Array Bool) (w' : World) => Below w.heap.size w w' ∧ Box w' w.heap.size [.string nm, .slice (some ⟨bc, oc, none⟩) cs.length ca, .int .i64 k, .slice (some ⟨b0, o0, none⟩) xs.length cb] ∧ Box w' gx [.string xn, .int .i64 xc]) (o := { dst := some 82, op := Go.Op.call { callee := Go.Callee.builtin Go.Builtin.append, args := #[Go.Operand.tmp 65, Go.Operand.tmp 81], argTypes := #[78, 78] }, type := 78, pos := "plan.go:161", after := #[{ on := 0, ground := Go.Ground.data }, { on := 16, ground := Go.Ground.data }, { on := 15, ground := Go.Ground.chain }], guard := none }) (by rfl) (fun K2 hK => ?_)
    have HNO : Hid (∀ u ∈ encP q, u.oneCell' = true) := Lib.hid (fun u hu => encP_one [q] u (by simpa using hu))
    have hml : j + 1 + 1 ≤ maxLen := by simp only [maxLen]; omega
    have hmb : (j + 1 + 1) * 112 ≤ 140737488355328 := by omega
    refine step_append_own rfl _ _ 78 rfl NB 32 i0 (.agg #[.int .i64 0, .bool false, .int .i64 0, .int .i64 0, .string ⟨#[]⟩, .bool false, .bool false, .int .i64 0, .int .i64 0, .string ⟨#[]⟩, .bool false, .bool false]) 12 112 Try.underlying78 hi hz0 hz1 hz2 rfl (by decide) _ (j + 1) _ rfl HO.out ⟨gq, 0, none⟩ 1 1 (encP q) rfl rfl HNW.out HNO.out hml hmb hsb (fun v' w9 hown hgrow => ?_)
    clear hS0
    have hne : ∀ bb, bb < NB → some bb ≠ u8.ownBlock := fun bb hb e => by have := (HO.out.lt bb e.symm).1; omega
    have hnx : some gx ≠ u8.ownBlock := fun e => by have := hog gx e.symm; omega
    replace HBT := Lib.hid (HBT.out.grown hgrow (hne _ (by omega)))
    replace HBR := Lib.hid (HBR.out.grown hgrow (hne _ (by omega)))
    replace HXB := Lib.hid (HXB.out.grown hgrow hnx)
    replace HF := Lib.hid (HF.out.grown hgrow HF.out.size (fun kk hk => by have := (HO.out.lt kk hk).1; omega))
    have HO2 : Hid (w9.ownsRow NB 32 12 v' (j + 1 + 1) ((PL (j + 1)).flatMap encP)) := Lib.hid (by rw [HPSU.out j, HQ.out, List.flatMap_append]; simpa using hown)
    have hsz9 : NB ≤ w9.heap.size := Nat.le_trans hsb hgrow.size
    clear hown hgrow HO hne hnx hsb HNW HNO hml hmb
    have hS0 : Below w.heap.size w w9 ∧ Box w9 w.heap.size [.string nm, .slice (some ⟨bc, oc, none⟩) cs.length ca, .int .i64 k, .slice (some ⟨b0, o0, none⟩) xs.length cb] ∧ Box w9 gx [.string xn, .int .i64 xc] := ⟨HF.out, HBT.out, HXB.out⟩
    refine hK.out _ _ (hS0) ?_
    clear hK K2
    try simp only [Act.put, List.setIfInBounds_toArray, List.set_cons_zero, List.set_cons_succ]
    refine stage_all (rs := [18]) (by kernel_rfl) (by simp) (fun i0 hi0 => ?_)
    obtain rfl : i0 = 18 := by simpa using hi0
    refine stage_step (S := fun (L' : Array Bool) (w' : World) => Below w.heap.size w w' ∧ Box w' w.heap.size [.string nm, .slice (some ⟨bc, oc, none⟩) cs.length ca, .int .i64 k, .slice (some ⟨b0, o0, none⟩) xs.length cb] ∧ Box w' gx [.string xn, .int .i64 xc]) (o := { dst := some 8, op := Go.Op.assign (Go.Operand.tmp 82), type := 78, pos := "plan.go:161", after := #[{ on := 17, ground := Go.Ground.data }, { on := 17, ground := Go.Ground.chain }, { on := 0, ground := Go.Ground.phase }, { on := 1, ground := Go.Ground.phase }, { on := 2, ground := Go.Ground.phase }, { on := 3, ground := Go.Ground.phase }, { on := 4, ground := Go.Ground.phase }, { on := 5, ground := Go.Ground.phase }, { on := 6, ground := Go.Ground.phase }, { on := 7, ground := Go.Ground.phase }, { on := 8, ground := Go.Ground.phase }, { on := 9, ground := Go.Ground.phase }, { on := 10, ground := Go.Ground.phase }, { on := 11, ground := Go.Ground.phase }, { on := 12, ground := Go.Ground.phase }, { on := 13, ground := Go.Ground.phase }, { on := 14, ground := Go.Ground.phase }, { on := 15, ground := Go.Ground.phase }, { on := 16, ground := Go.Ground.phase }, { on := 17, ground := Go.Ground.phase }], guard := none }) (by rfl) (fun K2 hK => ?_)
    go_simp
    refine hK.out _ _ (hS0) ?_
    clear hK K2
    try simp only [Act.put, List.setIfInBounds_toArray, List.set_cons_zero, List.set_cons_succ]
    refine stage_done (by kernel_rfl) ?_ _
    go_wp2_with fail
    go_roundw
    case rel => exact ⟨j + 1, by omega, by go_num, HO2, HBT, HBR, HF, hsz9⟩
    case measure => simp [Lib.intOf]; omega
  · obtain rfl : j = xs.length := by omega
    obtain ⟨g1, cap1, rfl⟩ := ownsRow_succ HO.out
    have hg1 : NB ≤ g1 := (HO.out.lt g1 rfl).1
    have HRW0 := RowE.owned encP_len HO.out
    have hLL := HPLE.out xs.length
    generalize PL xs.length = L at *
    have HRW := Lib.hid HRW0
    have HLL := Lib.hid hLL
    have hgne : ¬ g1 = w.heap.size + 1 := by omega
    clear HRW0 hLL HO HPSU HPLE HSPN HXR HCOL0 HKC HCELL HBT hi hz0 hz1 hz2
    have hst := fun (W : World) (a : Addr) (f : FuncId) => run_store Try.prog W a (.func (.func f) #[] #[]) .plain rfl
    go_wp2_with fail
    replace HBR := Lib.hid (HBR.out.alloc (.cells #[.func (.func 27) #[] #[], .func (.func 28) #[] #[], .func (.func 30) #[] #[]] 82))
    replace HRW := Lib.hid (HRW.out.below ((Below.refl _ _).alloc (Nat.le_refl _) (.cells #[.func (.func 27) #[] #[], .func (.func 28) #[] #[], .func (.func 30) #[] #[]] 82)))
    have hs6 := HF.out.size
    replace HF := Lib.hid (HF.out.alloc hs6 (.cells #[.func (.func 27) #[] #[], .func (.func 28) #[] #[], .func (.func 30) #[] #[]] 82))
    clear hs6 hst hsz
    generalize wr.alloc (.cells #[.func (.func 27) #[] #[], .func (.func 28) #[] #[], .func (.func 30) #[] #[]] 82) = w7 at *
    generalize wr.heap.size = ga at *
    generalize wr = wold at *
    go_loopw [86] (fun i wr => ∃ j : Nat, j ≤ 3 ∧ i = .int .i64 j ∧ Hid (Box wr (w.heap.size + 1) [.int .i64 0, .bool false, .int .i64 0, .int .i64 0, .string ⟨#[]⟩, .bool false, .bool false, .int .i64 0, .int .i64 0, .string ⟨#[]⟩, .bool false, .bool false]) ∧ Hid (RowE encP 12 wr (some ⟨g1, 0, none⟩) L) ∧ Hid (Below w.heap.size w wr) ∧ Hid (1 ≤ j → L.find? (fun p => p.emp) = none) ∧ Hid (2 ≤ j → L.find? wish2 = none) ∧ Hid (3 ≤ j → L.find? wish3 = none)) (fun i _ => 3 - (Lib.intOf i).toNat)
    case atStart => exact ⟨0, by omega, rfl, HBR, HRW, HF, Lib.hid (by omega), Lib.hid (by omega), Lib.hid (by omega)⟩
    case round =>
    clear HBR HRW HF
    obtain ⟨j, hj3, rfl, HBR, HRW, HF, HN1, HN2, HN3⟩ := hrel
    obtain rfl | rfl | rfl | rfl : j = 0 ∨ j = 1 ∨ j = 2 ∨ j = 3 := by omega
    · have hix : ∀ W, (Instr.index 82 (.agg #[.func (.func 27) #[] #[], .func (.func 28) #[] #[], .func (.func 30) #[] #[]]) (.int .i64 0)).run Try.prog W = .ok (.func (.func 27) #[] #[]) W := fun W => by kernel_rfl
      have hc := idxP_any (some ⟨g1, 0, none⟩) cap1 L 27 (fun p => p.emp) wr (enters_of Try.func27 (by kernel_rfl) rfl) wish1_any HRW.out (by have := HLL.out; omega)
      rw [HLL.out] at hc
      go_wp2_with fail
      refine hc.mono ?_; rintro e w8 ⟨h1 | ⟨i, x, rfl, hix2, hqx, htk⟩, h⟩
      · obtain ⟨rfl, hno⟩ := h1
        replace HBR := Lib.hid (HBR.out.below h HBR.out.lt); replace HF := Lib.hid (below_step' HF.out h); replace HRW := Lib.hid (HRW.out.below h)
        clear h hc hix
        have hnew1 : Hid (1 ≤ 1 → L.find? (fun p => p.emp) = none) := Lib.hid (fun _ => find_not hno)
        have hnew2 : Hid (2 ≤ 1 → L.find? wish2 = none) := Lib.hid (by omega)
        have hnew3 : Hid (3 ≤ 1 → L.find? wish3 = none) := Lib.hid (by omega)
        clear HN1 HN2 HN3 hno
        go_wp2_with fail
        go_roundw
        case rel => exact ⟨1, by omega, by go_num, HBR, HRW, HF, hnew1, hnew2, hnew3⟩
        case measure => simp [Lib.intOf]
      · have hRP : RP = x := by
          rw [← HRP.out]
          unfold pickP
          rw [find_at hix2 hqx htk]
        subst hRP
        have hil : i < xs.length + 1 := by rw [← HLL.out]; exact (List.getElem?_eq_some_iff.1 hix2).1
        obtain ⟨b9, o9, hbo, hb9, hc9⟩ := HRW.out i RP hix2
        obtain ⟨rfl, rfl⟩ : g1 = b9 ∧ 0 = o9 := by simpa using hbo
        have hg9 : g1 < w8.heap.size := Nat.lt_of_lt_of_le hb9 h.size
        have hce : ∀ q u, (encP RP)[q]? = some u → w8.cell? ⟨g1, i * 12 + q, none⟩ = some u := fun q u hu => (h.cell (p := ⟨g1, _, none⟩) hb9).trans (by have := hc9 i RP hix2 q u hu; rw [Nat.zero_add] at this; exact this)
        clear hbo hb9 hc9 hix2 hqx htk HRP HN1 HN2 HN3
        replace HBR := Lib.hid (HBR.out.below h HBR.out.lt); replace HF := Lib.hid (below_step' HF.out h)
        clear h hc hix HRW
        have y0 : w8.cell? ⟨g1, i * 12, none⟩ = some (.int .i64 RP.ix) := hce 0 _ rfl
        have y1 : w8.cell? ⟨g1, i * 12 + 1, none⟩ = some (.bool RP.lo.op) := hce 1 _ rfl
        have y2 : w8.cell? ⟨g1, i * 12 + 2, none⟩ = some (.int .i64 RP.lo.v.k) := hce 2 _ rfl
        have y3 : w8.cell? ⟨g1, i * 12 + 3, none⟩ = some (.int .i64 RP.lo.v.n) := hce 3 _ rfl
        have y4 : w8.cell? ⟨g1, i * 12 + 4, none⟩ = some (.string RP.lo.v.s) := hce 4 _ rfl
        have y5 : w8.cell? ⟨g1, i * 12 + 5, none⟩ = some (.bool RP.lo.inn) := hce 5 _ rfl
        have y6 : w8.cell? ⟨g1, i * 12 + 6, none⟩ = some (.bool RP.hi.op) := hce 6 _ rfl
        have y7 : w8.cell? ⟨g1, i * 12 + 7, none⟩ = some (.int .i64 RP.hi.v.k) := hce 7 _ rfl
        have y8 : w8.cell? ⟨g1, i * 12 + 8, none⟩ = some (.int .i64 RP.hi.v.n) := hce 8 _ rfl
        have y9 : w8.cell? ⟨g1, i * 12 + 9, none⟩ = some (.string RP.hi.v.s) := hce 9 _ rfl
        have y10 : w8.cell? ⟨g1, i * 12 + 10, none⟩ = some (.bool RP.hi.inn) := hce 10 _ rfl
        have y11 : w8.cell? ⟨g1, i * 12 + 11, none⟩ = some (.bool RP.emp) := hce 11 _ rfl
        clear hce
        have cHBR0 := HBR.out.c 0 _ rfl; have fHBR0 := HBR.out.f 0 (by simp); have cHBR1 := HBR.out.c 1 _ rfl; have fHBR1 := HBR.out.f 1 (by simp); have cHBR2 := HBR.out.c 2 _ rfl; have fHBR2 := HBR.out.f 2 (by simp); have cHBR3 := HBR.out.c 3 _ rfl; have fHBR3 := HBR.out.f 3 (by simp); have cHBR4 := HBR.out.c 4 _ rfl; have fHBR4 := HBR.out.f 4 (by simp); have cHBR5 := HBR.out.c 5 _ rfl; have fHBR5 := HBR.out.f 5 (by simp); have cHBR6 := HBR.out.c 6 _ rfl; have fHBR6 := HBR.out.f 6 (by simp); have cHBR7 := HBR.out.c 7 _ rfl; have fHBR7 := HBR.out.f 7 (by simp); have cHBR8 := HBR.out.c 8 _ rfl; have fHBR8 := HBR.out.f 8 (by simp); have cHBR9 := HBR.out.c 9 _ rfl; have fHBR9 := HBR.out.f 9 (by simp); have cHBR10 := HBR.out.c 10 _ rfl; have fHBR10 := HBR.out.f 10 (by simp); have cHBR11 := HBR.out.c 11 _ rfl; have fHBR11 := HBR.out.f 11 (by simp); have lHBR := HBR.out.lt
        go_wp2
        clear cHBR0 fHBR0 cHBR1 fHBR1 cHBR2 fHBR2 cHBR3 fHBR3 cHBR4 fHBR4 cHBR5 fHBR5 cHBR6 fHBR6 cHBR7 fHBR7 cHBR8 fHBR8 cHBR9 fHBR9 cHBR10 fHBR10 cHBR11 fHBR11 lHBR
        have HP := Lib.hid (puts12 HBR.out (.int .i64 RP.ix) (.bool RP.lo.op) (.int .i64 RP.lo.v.k) (.int .i64 RP.lo.v.n) (.string RP.lo.v.s) (.bool RP.lo.inn) (.bool RP.hi.op) (.int .i64 RP.hi.v.k) (.int .i64 RP.hi.v.n) (.string RP.hi.v.s) (.bool RP.hi.inn) (.bool RP.emp))
        replace HF := Lib.hid (puts12_below HF.out (show w.heap.size ≤ w.heap.size + 1 by omega) (.int .i64 RP.ix) (.bool RP.lo.op) (.int .i64 RP.lo.v.k) (.int .i64 RP.lo.v.n) (.string RP.lo.v.s) (.bool RP.lo.inn) (.bool RP.hi.op) (.int .i64 RP.hi.v.k) (.int .i64 RP.hi.v.n) (.string RP.hi.v.s) (.bool RP.hi.inn) (.bool RP.emp))
        clear HBR
        generalize ((((((((((((w8.setCell ⟨w.heap.size + 1, 0, none⟩ (.int .i64 RP.ix)).setCell ⟨w.heap.size + 1, 1, none⟩ (.bool RP.lo.op)).setCell ⟨w.heap.size + 1, 2, none⟩ (.int .i64 RP.lo.v.k)).setCell ⟨w.heap.size + 1, 3, none⟩ (.int .i64 RP.lo.v.n)).setCell ⟨w.heap.size + 1, 4, none⟩ (.string RP.lo.v.s)).setCell ⟨w.heap.size + 1, 5, none⟩ (.bool RP.lo.inn)).setCell ⟨w.heap.size + 1, 6, none⟩ (.bool RP.hi.op)).setCell ⟨w.heap.size + 1, 7, none⟩ (.int .i64 RP.hi.v.k)).setCell ⟨w.heap.size + 1, 8, none⟩ (.int .i64 RP.hi.v.n)).setCell ⟨w.heap.size + 1, 9, none⟩ (.string RP.hi.v.s)).setCell ⟨w.heap.size + 1, 10, none⟩ (.bool RP.hi.inn)).setCell ⟨w.heap.size + 1, 11, none⟩ (.bool RP.emp)) = w9 at *
        have cHP0 := HP.out.c 0 _ rfl; have fHP0 := HP.out.f 0 (by simp); have cHP1 := HP.out.c 1 _ rfl; have fHP1 := HP.out.f 1 (by simp); have cHP2 := HP.out.c 2 _ rfl; have fHP2 := HP.out.f 2 (by simp); have cHP3 := HP.out.c 3 _ rfl; have fHP3 := HP.out.f 3 (by simp); have cHP4 := HP.out.c 4 _ rfl; have fHP4 := HP.out.f 4 (by simp); have cHP5 := HP.out.c 5 _ rfl; have fHP5 := HP.out.f 5 (by simp); have cHP6 := HP.out.c 6 _ rfl; have fHP6 := HP.out.f 6 (by simp); have cHP7 := HP.out.c 7 _ rfl; have fHP7 := HP.out.f 7 (by simp); have cHP8 := HP.out.c 8 _ rfl; have fHP8 := HP.out.f 8 (by simp); have cHP9 := HP.out.c 9 _ rfl; have fHP9 := HP.out.f 9 (by simp); have cHP10 := HP.out.c 10 _ rfl; have fHP10 := HP.out.f 10 (by simp); have cHP11 := HP.out.c 11 _ rfl; have fHP11 := HP.out.f 11 (by simp); have lHP := HP.out.lt
        refine bodyPost_ret (by simp [results, Try.results8, go_sem, cHP0, cHP1, cHP2, cHP3, cHP4, cHP5, cHP6, cHP7, cHP8, cHP9, cHP10, cHP11]; rfl) rfl ?_
        exact ⟨rfl, HF.out⟩
    · have hix : ∀ W, (Instr.index 82 (.agg #[.func (.func 27) #[] #[], .func (.func 28) #[] #[], .func (.func 30) #[] #[]]) (.int .i64 1)).run Try.prog W = .ok (.func (.func 28) #[] #[]) W := fun W => by kernel_rfl
      have hc := idxP_any (some ⟨g1, 0, none⟩) cap1 L 28 wish2 wr (enters_of Try.func28 (by kernel_rfl) rfl) wish2_any HRW.out (by have := HLL.out; omega)
      rw [HLL.out] at hc
      go_wp2_with fail
      refine hc.mono ?_; rintro e w8 ⟨h1 | ⟨i, x, rfl, hix2, hqx, htk⟩, h⟩
      · obtain ⟨rfl, hno⟩ := h1
        replace HBR := Lib.hid (HBR.out.below h HBR.out.lt); replace HF := Lib.hid (below_step' HF.out h); replace HRW := Lib.hid (HRW.out.below h)
        clear h hc hix
        have hnew1 : Hid (1 ≤ 2 → L.find? (fun p => p.emp) = none) := Lib.hid (fun _ => HN1.out (by omega))
        have hnew2 : Hid (2 ≤ 2 → L.find? wish2 = none) := Lib.hid (fun _ => find_not hno)
        have hnew3 : Hid (3 ≤ 2 → L.find? wish3 = none) := Lib.hid (by omega)
        clear HN1 HN2 HN3 hno
        go_wp2_with fail
        go_roundw
        case rel => exact ⟨2, by omega, by go_num, HBR, HRW, HF, hnew1, hnew2, hnew3⟩
        case measure => simp [Lib.intOf]
      · have hRP : RP = x := by
          rw [← HRP.out]
          unfold pickP
          rw [HN1.out (by omega)]
          rw [find_at hix2 hqx htk]
        subst hRP
        have hil : i < xs.length + 1 := by rw [← HLL.out]; exact (List.getElem?_eq_some_iff.1 hix2).1
        obtain ⟨b9, o9, hbo, hb9, hc9⟩ := HRW.out i RP hix2
        obtain ⟨rfl, rfl⟩ : g1 = b9 ∧ 0 = o9 := by simpa using hbo
        have hg9 : g1 < w8.heap.size := Nat.lt_of_lt_of_le hb9 h.size
        have hce : ∀ q u, (encP RP)[q]? = some u → w8.cell? ⟨g1, i * 12 + q, none⟩ = some u := fun q u hu => (h.cell (p := ⟨g1, _, none⟩) hb9).trans (by have := hc9 i RP hix2 q u hu; rw [Nat.zero_add] at this; exact this)
        clear hbo hb9 hc9 hix2 hqx htk HRP HN1 HN2 HN3
        replace HBR := Lib.hid (HBR.out.below h HBR.out.lt); replace HF := Lib.hid (below_step' HF.out h)
        clear h hc hix HRW
        have y0 : w8.cell? ⟨g1, i * 12, none⟩ = some (.int .i64 RP.ix) := hce 0 _ rfl
        have y1 : w8.cell? ⟨g1, i * 12 + 1, none⟩ = some (.bool RP.lo.op) := hce 1 _ rfl
        have y2 : w8.cell? ⟨g1, i * 12 + 2, none⟩ = some (.int .i64 RP.lo.v.k) := hce 2 _ rfl
        have y3 : w8.cell? ⟨g1, i * 12 + 3, none⟩ = some (.int .i64 RP.lo.v.n) := hce 3 _ rfl
        have y4 : w8.cell? ⟨g1, i * 12 + 4, none⟩ = some (.string RP.lo.v.s) := hce 4 _ rfl
        have y5 : w8.cell? ⟨g1, i * 12 + 5, none⟩ = some (.bool RP.lo.inn) := hce 5 _ rfl
        have y6 : w8.cell? ⟨g1, i * 12 + 6, none⟩ = some (.bool RP.hi.op) := hce 6 _ rfl
        have y7 : w8.cell? ⟨g1, i * 12 + 7, none⟩ = some (.int .i64 RP.hi.v.k) := hce 7 _ rfl
        have y8 : w8.cell? ⟨g1, i * 12 + 8, none⟩ = some (.int .i64 RP.hi.v.n) := hce 8 _ rfl
        have y9 : w8.cell? ⟨g1, i * 12 + 9, none⟩ = some (.string RP.hi.v.s) := hce 9 _ rfl
        have y10 : w8.cell? ⟨g1, i * 12 + 10, none⟩ = some (.bool RP.hi.inn) := hce 10 _ rfl
        have y11 : w8.cell? ⟨g1, i * 12 + 11, none⟩ = some (.bool RP.emp) := hce 11 _ rfl
        clear hce
        have cHBR0 := HBR.out.c 0 _ rfl; have fHBR0 := HBR.out.f 0 (by simp); have cHBR1 := HBR.out.c 1 _ rfl; have fHBR1 := HBR.out.f 1 (by simp); have cHBR2 := HBR.out.c 2 _ rfl; have fHBR2 := HBR.out.f 2 (by simp); have cHBR3 := HBR.out.c 3 _ rfl; have fHBR3 := HBR.out.f 3 (by simp); have cHBR4 := HBR.out.c 4 _ rfl; have fHBR4 := HBR.out.f 4 (by simp); have cHBR5 := HBR.out.c 5 _ rfl; have fHBR5 := HBR.out.f 5 (by simp); have cHBR6 := HBR.out.c 6 _ rfl; have fHBR6 := HBR.out.f 6 (by simp); have cHBR7 := HBR.out.c 7 _ rfl; have fHBR7 := HBR.out.f 7 (by simp); have cHBR8 := HBR.out.c 8 _ rfl; have fHBR8 := HBR.out.f 8 (by simp); have cHBR9 := HBR.out.c 9 _ rfl; have fHBR9 := HBR.out.f 9 (by simp); have cHBR10 := HBR.out.c 10 _ rfl; have fHBR10 := HBR.out.f 10 (by simp); have cHBR11 := HBR.out.c 11 _ rfl; have fHBR11 := HBR.out.f 11 (by simp); have lHBR := HBR.out.lt
        go_wp2
        clear cHBR0 fHBR0 cHBR1 fHBR1 cHBR2 fHBR2 cHBR3 fHBR3 cHBR4 fHBR4 cHBR5 fHBR5 cHBR6 fHBR6 cHBR7 fHBR7 cHBR8 fHBR8 cHBR9 fHBR9 cHBR10 fHBR10 cHBR11 fHBR11 lHBR
        have HP := Lib.hid (puts12 HBR.out (.int .i64 RP.ix) (.bool RP.lo.op) (.int .i64 RP.lo.v.k) (.int .i64 RP.lo.v.n) (.string RP.lo.v.s) (.bool RP.lo.inn) (.bool RP.hi.op) (.int .i64 RP.hi.v.k) (.int .i64 RP.hi.v.n) (.string RP.hi.v.s) (.bool RP.hi.inn) (.bool RP.emp))
        replace HF := Lib.hid (puts12_below HF.out (show w.heap.size ≤ w.heap.size + 1 by omega) (.int .i64 RP.ix) (.bool RP.lo.op) (.int .i64 RP.lo.v.k) (.int .i64 RP.lo.v.n) (.string RP.lo.v.s) (.bool RP.lo.inn) (.bool RP.hi.op) (.int .i64 RP.hi.v.k) (.int .i64 RP.hi.v.n) (.string RP.hi.v.s) (.bool RP.hi.inn) (.bool RP.emp))
        clear HBR
        generalize ((((((((((((w8.setCell ⟨w.heap.size + 1, 0, none⟩ (.int .i64 RP.ix)).setCell ⟨w.heap.size + 1, 1, none⟩ (.bool RP.lo.op)).setCell ⟨w.heap.size + 1, 2, none⟩ (.int .i64 RP.lo.v.k)).setCell ⟨w.heap.size + 1, 3, none⟩ (.int .i64 RP.lo.v.n)).setCell ⟨w.heap.size + 1, 4, none⟩ (.string RP.lo.v.s)).setCell ⟨w.heap.size + 1, 5, none⟩ (.bool RP.lo.inn)).setCell ⟨w.heap.size + 1, 6, none⟩ (.bool RP.hi.op)).setCell ⟨w.heap.size + 1, 7, none⟩ (.int .i64 RP.hi.v.k)).setCell ⟨w.heap.size + 1, 8, none⟩ (.int .i64 RP.hi.v.n)).setCell ⟨w.heap.size + 1, 9, none⟩ (.string RP.hi.v.s)).setCell ⟨w.heap.size + 1, 10, none⟩ (.bool RP.hi.inn)).setCell ⟨w.heap.size + 1, 11, none⟩ (.bool RP.emp)) = w9 at *
        have cHP0 := HP.out.c 0 _ rfl; have fHP0 := HP.out.f 0 (by simp); have cHP1 := HP.out.c 1 _ rfl; have fHP1 := HP.out.f 1 (by simp); have cHP2 := HP.out.c 2 _ rfl; have fHP2 := HP.out.f 2 (by simp); have cHP3 := HP.out.c 3 _ rfl; have fHP3 := HP.out.f 3 (by simp); have cHP4 := HP.out.c 4 _ rfl; have fHP4 := HP.out.f 4 (by simp); have cHP5 := HP.out.c 5 _ rfl; have fHP5 := HP.out.f 5 (by simp); have cHP6 := HP.out.c 6 _ rfl; have fHP6 := HP.out.f 6 (by simp); have cHP7 := HP.out.c 7 _ rfl; have fHP7 := HP.out.f 7 (by simp); have cHP8 := HP.out.c 8 _ rfl; have fHP8 := HP.out.f 8 (by simp); have cHP9 := HP.out.c 9 _ rfl; have fHP9 := HP.out.f 9 (by simp); have cHP10 := HP.out.c 10 _ rfl; have fHP10 := HP.out.f 10 (by simp); have cHP11 := HP.out.c 11 _ rfl; have fHP11 := HP.out.f 11 (by simp); have lHP := HP.out.lt
        refine bodyPost_ret (by simp [results, Try.results8, go_sem, cHP0, cHP1, cHP2, cHP3, cHP4, cHP5, cHP6, cHP7, cHP8, cHP9, cHP10, cHP11]; rfl) rfl ?_
        exact ⟨rfl, HF.out⟩
    · have hix : ∀ W, (Instr.index 82 (.agg #[.func (.func 27) #[] #[], .func (.func 28) #[] #[], .func (.func 30) #[] #[]]) (.int .i64 2)).run Try.prog W = .ok (.func (.func 30) #[] #[]) W := fun W => by kernel_rfl
      have hc := idxP_any (some ⟨g1, 0, none⟩) cap1 L 30 wish3 wr (enters_of Try.func30 (by kernel_rfl) rfl) wish3_any HRW.out (by have := HLL.out; omega)
      rw [HLL.out] at hc
      go_wp2_with fail
      refine hc.mono ?_; rintro e w8 ⟨h1 | ⟨i, x, rfl, hix2, hqx, htk⟩, h⟩
      · obtain ⟨rfl, hno⟩ := h1
        replace HBR := Lib.hid (HBR.out.below h HBR.out.lt); replace HF := Lib.hid (below_step' HF.out h); replace HRW := Lib.hid (HRW.out.below h)
        clear h hc hix
        have hnew1 : Hid (1 ≤ 3 → L.find? (fun p => p.emp) = none) := Lib.hid (fun _ => HN1.out (by omega))
        have hnew2 : Hid (2 ≤ 3 → L.find? wish2 = none) := Lib.hid (fun _ => HN2.out (by omega))
        have hnew3 : Hid (3 ≤ 3 → L.find? wish3 = none) := Lib.hid (fun _ => find_not hno)
        clear HN1 HN2 HN3 hno
        go_wp2_with fail
        go_roundw
        case rel => exact ⟨3, by omega, by go_num, HBR, HRW, HF, hnew1, hnew2, hnew3⟩
        case measure => simp [Lib.intOf]
      · have hRP : RP = x := by
          rw [← HRP.out]
          unfold pickP
          rw [HN1.out (by omega), HN2.out (by omega)]
          rw [find_at hix2 hqx htk]
        subst hRP
        have hil : i < xs.length + 1 := by rw [← HLL.out]; exact (List.getElem?_eq_some_iff.1 hix2).1
        obtain ⟨b9, o9, hbo, hb9, hc9⟩ := HRW.out i RP hix2
        obtain ⟨rfl, rfl⟩ : g1 = b9 ∧ 0 = o9 := by simpa using hbo
        have hg9 : g1 < w8.heap.size := Nat.lt_of_lt_of_le hb9 h.size
        have hce : ∀ q u, (encP RP)[q]? = some u → w8.cell? ⟨g1, i * 12 + q, none⟩ = some u := fun q u hu => (h.cell (p := ⟨g1, _, none⟩) hb9).trans (by have := hc9 i RP hix2 q u hu; rw [Nat.zero_add] at this; exact this)
        clear hbo hb9 hc9 hix2 hqx htk HRP HN1 HN2 HN3
        replace HBR := Lib.hid (HBR.out.below h HBR.out.lt); replace HF := Lib.hid (below_step' HF.out h)
        clear h hc hix HRW
        have y0 : w8.cell? ⟨g1, i * 12, none⟩ = some (.int .i64 RP.ix) := hce 0 _ rfl
        have y1 : w8.cell? ⟨g1, i * 12 + 1, none⟩ = some (.bool RP.lo.op) := hce 1 _ rfl
        have y2 : w8.cell? ⟨g1, i * 12 + 2, none⟩ = some (.int .i64 RP.lo.v.k) := hce 2 _ rfl
        have y3 : w8.cell? ⟨g1, i * 12 + 3, none⟩ = some (.int .i64 RP.lo.v.n) := hce 3 _ rfl
        have y4 : w8.cell? ⟨g1, i * 12 + 4, none⟩ = some (.string RP.lo.v.s) := hce 4 _ rfl
        have y5 : w8.cell? ⟨g1, i * 12 + 5, none⟩ = some (.bool RP.lo.inn) := hce 5 _ rfl
        have y6 : w8.cell? ⟨g1, i * 12 + 6, none⟩ = some (.bool RP.hi.op) := hce 6 _ rfl
        have y7 : w8.cell? ⟨g1, i * 12 + 7, none⟩ = some (.int .i64 RP.hi.v.k) := hce 7 _ rfl
        have y8 : w8.cell? ⟨g1, i * 12 + 8, none⟩ = some (.int .i64 RP.hi.v.n) := hce 8 _ rfl
        have y9 : w8.cell? ⟨g1, i * 12 + 9, none⟩ = some (.string RP.hi.v.s) := hce 9 _ rfl
        have y10 : w8.cell? ⟨g1, i * 12 + 10, none⟩ = some (.bool RP.hi.inn) := hce 10 _ rfl
        have y11 : w8.cell? ⟨g1, i * 12 + 11, none⟩ = some (.bool RP.emp) := hce 11 _ rfl
        clear hce
        have cHBR0 := HBR.out.c 0 _ rfl; have fHBR0 := HBR.out.f 0 (by simp); have cHBR1 := HBR.out.c 1 _ rfl; have fHBR1 := HBR.out.f 1 (by simp); have cHBR2 := HBR.out.c 2 _ rfl; have fHBR2 := HBR.out.f 2 (by simp); have cHBR3 := HBR.out.c 3 _ rfl; have fHBR3 := HBR.out.f 3 (by simp); have cHBR4 := HBR.out.c 4 _ rfl; have fHBR4 := HBR.out.f 4 (by simp); have cHBR5 := HBR.out.c 5 _ rfl; have fHBR5 := HBR.out.f 5 (by simp); have cHBR6 := HBR.out.c 6 _ rfl; have fHBR6 := HBR.out.f 6 (by simp); have cHBR7 := HBR.out.c 7 _ rfl; have fHBR7 := HBR.out.f 7 (by simp); have cHBR8 := HBR.out.c 8 _ rfl; have fHBR8 := HBR.out.f 8 (by simp); have cHBR9 := HBR.out.c 9 _ rfl; have fHBR9 := HBR.out.f 9 (by simp); have cHBR10 := HBR.out.c 10 _ rfl; have fHBR10 := HBR.out.f 10 (by simp); have cHBR11 := HBR.out.c 11 _ rfl; have fHBR11 := HBR.out.f 11 (by simp); have lHBR := HBR.out.lt
        go_wp2
        clear cHBR0 fHBR0 cHBR1 fHBR1 cHBR2 fHBR2 cHBR3 fHBR3 cHBR4 fHBR4 cHBR5 fHBR5 cHBR6 fHBR6 cHBR7 fHBR7 cHBR8 fHBR8 cHBR9 fHBR9 cHBR10 fHBR10 cHBR11 fHBR11 lHBR
        have HP := Lib.hid (puts12 HBR.out (.int .i64 RP.ix) (.bool RP.lo.op) (.int .i64 RP.lo.v.k) (.int .i64 RP.lo.v.n) (.string RP.lo.v.s) (.bool RP.lo.inn) (.bool RP.hi.op) (.int .i64 RP.hi.v.k) (.int .i64 RP.hi.v.n) (.string RP.hi.v.s) (.bool RP.hi.inn) (.bool RP.emp))
        replace HF := Lib.hid (puts12_below HF.out (show w.heap.size ≤ w.heap.size + 1 by omega) (.int .i64 RP.ix) (.bool RP.lo.op) (.int .i64 RP.lo.v.k) (.int .i64 RP.lo.v.n) (.string RP.lo.v.s) (.bool RP.lo.inn) (.bool RP.hi.op) (.int .i64 RP.hi.v.k) (.int .i64 RP.hi.v.n) (.string RP.hi.v.s) (.bool RP.hi.inn) (.bool RP.emp))
        clear HBR
        generalize ((((((((((((w8.setCell ⟨w.heap.size + 1, 0, none⟩ (.int .i64 RP.ix)).setCell ⟨w.heap.size + 1, 1, none⟩ (.bool RP.lo.op)).setCell ⟨w.heap.size + 1, 2, none⟩ (.int .i64 RP.lo.v.k)).setCell ⟨w.heap.size + 1, 3, none⟩ (.int .i64 RP.lo.v.n)).setCell ⟨w.heap.size + 1, 4, none⟩ (.string RP.lo.v.s)).setCell ⟨w.heap.size + 1, 5, none⟩ (.bool RP.lo.inn)).setCell ⟨w.heap.size + 1, 6, none⟩ (.bool RP.hi.op)).setCell ⟨w.heap.size + 1, 7, none⟩ (.int .i64 RP.hi.v.k)).setCell ⟨w.heap.size + 1, 8, none⟩ (.int .i64 RP.hi.v.n)).setCell ⟨w.heap.size + 1, 9, none⟩ (.string RP.hi.v.s)).setCell ⟨w.heap.size + 1, 10, none⟩ (.bool RP.hi.inn)).setCell ⟨w.heap.size + 1, 11, none⟩ (.bool RP.emp)) = w9 at *
        have cHP0 := HP.out.c 0 _ rfl; have fHP0 := HP.out.f 0 (by simp); have cHP1 := HP.out.c 1 _ rfl; have fHP1 := HP.out.f 1 (by simp); have cHP2 := HP.out.c 2 _ rfl; have fHP2 := HP.out.f 2 (by simp); have cHP3 := HP.out.c 3 _ rfl; have fHP3 := HP.out.f 3 (by simp); have cHP4 := HP.out.c 4 _ rfl; have fHP4 := HP.out.f 4 (by simp); have cHP5 := HP.out.c 5 _ rfl; have fHP5 := HP.out.f 5 (by simp); have cHP6 := HP.out.c 6 _ rfl; have fHP6 := HP.out.f 6 (by simp); have cHP7 := HP.out.c 7 _ rfl; have fHP7 := HP.out.f 7 (by simp); have cHP8 := HP.out.c 8 _ rfl; have fHP8 := HP.out.f 8 (by simp); have cHP9 := HP.out.c 9 _ rfl; have fHP9 := HP.out.f 9 (by simp); have cHP10 := HP.out.c 10 _ rfl; have fHP10 := HP.out.f 10 (by simp); have cHP11 := HP.out.c 11 _ rfl; have fHP11 := HP.out.f 11 (by simp); have lHP := HP.out.lt
        refine bodyPost_ret (by simp [results, Try.results8, go_sem, cHP0, cHP1, cHP2, cHP3, cHP4, cHP5, cHP6, cHP7, cHP8, cHP9, cHP10, cHP11]; rfl) rfl ?_
        exact ⟨rfl, HF.out⟩
    · have hRP : RP = allP (-1) := by
        rw [← HRP.out]
        unfold pickP
        rw [HN1.out (by omega), HN2.out (by omega), HN3.out (by omega)]
      clear HRP HN1 HN2 HN3 HRW
      subst hRP
      have hal := fun W => all_any (-1) W
      unfold aggP at hal
      dsimp only at hal
      go_wp2_with fail
      refine (hal wr).mono ?_; rintro e w8 ⟨rfl, h⟩
      replace HBR := Lib.hid (HBR.out.below h HBR.out.lt); replace HF := Lib.hid (below_step' HF.out h)
      clear h hal
      have cHBR0 := HBR.out.c 0 _ rfl; have fHBR0 := HBR.out.f 0 (by simp); have cHBR1 := HBR.out.c 1 _ rfl; have fHBR1 := HBR.out.f 1 (by simp); have cHBR2 := HBR.out.c 2 _ rfl; have fHBR2 := HBR.out.f 2 (by simp); have cHBR3 := HBR.out.c 3 _ rfl; have fHBR3 := HBR.out.f 3 (by simp); have cHBR4 := HBR.out.c 4 _ rfl; have fHBR4 := HBR.out.f 4 (by simp); have cHBR5 := HBR.out.c 5 _ rfl; have fHBR5 := HBR.out.f 5 (by simp); have cHBR6 := HBR.out.c 6 _ rfl; have fHBR6 := HBR.out.f 6 (by simp); have cHBR7 := HBR.out.c 7 _ rfl; have fHBR7 := HBR.out.f 7 (by simp); have cHBR8 := HBR.out.c 8 _ rfl; have fHBR8 := HBR.out.f 8 (by simp); have cHBR9 := HBR.out.c 9 _ rfl; have fHBR9 := HBR.out.f 9 (by simp); have cHBR10 := HBR.out.c 10 _ rfl; have fHBR10 := HBR.out.f 10 (by simp); have cHBR11 := HBR.out.c 11 _ rfl; have fHBR11 := HBR.out.f 11 (by simp); have lHBR := HBR.out.lt
      go_wp2
      clear cHBR0 fHBR0 cHBR1 fHBR1 cHBR2 fHBR2 cHBR3 fHBR3 cHBR4 fHBR4 cHBR5 fHBR5 cHBR6 fHBR6 cHBR7 fHBR7 cHBR8 fHBR8 cHBR9 fHBR9 cHBR10 fHBR10 cHBR11 fHBR11 lHBR
      have HP := Lib.hid (puts12 HBR.out (.int .i64 (-1)) (.bool true) (.int .i64 0) (.int .i64 0) (.string nos) (.bool false) (.bool true) (.int .i64 0) (.int .i64 0) (.string nos) (.bool false) (.bool false))
      replace HF := Lib.hid (puts12_below HF.out (show w.heap.size ≤ w.heap.size + 1 by omega) (.int .i64 (-1)) (.bool true) (.int .i64 0) (.int .i64 0) (.string nos) (.bool false) (.bool true) (.int .i64 0) (.int .i64 0) (.string nos) (.bool false) (.bool false))
      clear HBR
      generalize ((((((((((((w8.setCell ⟨w.heap.size + 1, 0, none⟩ (.int .i64 (-1))).setCell ⟨w.heap.size + 1, 1, none⟩ (.bool true)).setCell ⟨w.heap.size + 1, 2, none⟩ (.int .i64 0)).setCell ⟨w.heap.size + 1, 3, none⟩ (.int .i64 0)).setCell ⟨w.heap.size + 1, 4, none⟩ (.string nos)).setCell ⟨w.heap.size + 1, 5, none⟩ (.bool false)).setCell ⟨w.heap.size + 1, 6, none⟩ (.bool true)).setCell ⟨w.heap.size + 1, 7, none⟩ (.int .i64 0)).setCell ⟨w.heap.size + 1, 8, none⟩ (.int .i64 0)).setCell ⟨w.heap.size + 1, 9, none⟩ (.string nos)).setCell ⟨w.heap.size + 1, 10, none⟩ (.bool false)).setCell ⟨w.heap.size + 1, 11, none⟩ (.bool false)) = w9 at *
      have cHP0 := HP.out.c 0 _ rfl; have fHP0 := HP.out.f 0 (by simp); have cHP1 := HP.out.c 1 _ rfl; have fHP1 := HP.out.f 1 (by simp); have cHP2 := HP.out.c 2 _ rfl; have fHP2 := HP.out.f 2 (by simp); have cHP3 := HP.out.c 3 _ rfl; have fHP3 := HP.out.f 3 (by simp); have cHP4 := HP.out.c 4 _ rfl; have fHP4 := HP.out.f 4 (by simp); have cHP5 := HP.out.c 5 _ rfl; have fHP5 := HP.out.f 5 (by simp); have cHP6 := HP.out.c 6 _ rfl; have fHP6 := HP.out.f 6 (by simp); have cHP7 := HP.out.c 7 _ rfl; have fHP7 := HP.out.f 7 (by simp); have cHP8 := HP.out.c 8 _ rfl; have fHP8 := HP.out.f 8 (by simp); have cHP9 := HP.out.c 9 _ rfl; have fHP9 := HP.out.f 9 (by simp); have cHP10 := HP.out.c 10 _ rfl; have fHP10 := HP.out.f 10 (by simp); have cHP11 := HP.out.c 11 _ rfl; have fHP11 := HP.out.f 11 (by simp); have lHP := HP.out.lt
      refine bodyPost_ret (by simp [results, Try.results8, go_sem, cHP0, cHP1, cHP2, cHP3, cHP4, cHP5, cHP6, cHP7, cHP8, cHP9, cHP10, cHP11]; rfl) rfl ?_
      exact ⟨rfl, HF.out⟩
end Go.Proofs.Ytfmfmammcjpboaa
