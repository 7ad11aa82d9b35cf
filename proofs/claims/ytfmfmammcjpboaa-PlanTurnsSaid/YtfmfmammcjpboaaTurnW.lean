/- PlanTurns: the walk. -/
import Derived.Test.YtfmfmammcjpboaaTurnP
import Derived.Test.YtfmfmammcjpboaaPuts
import Derived.Test.YtfmfmammcjpboaaInv
namespace Go.Proofs.Ytfmfmammcjpboaa
open Go.RowKit
set_option linter.unusedVariables false
set_option linter.unusedSimpArgs false
def turnV (w0 : World) (BS : List (Nat × List Value)) (nm : ByteArray) (cs : List Col) (k : Int) (xs : List Ixd) (op : Int) (x y : Eh) (R : Pl) (l : Nat → Bool) (ts : Nat → Value) (w : World) : Prop :=
  Below w0.heap.size w0 w ∧ (∀ b ∈ BS, Box w b.1 b.2) ∧
  (l 14 = true → l 1 = true ∧ l 6 = true ∧ l 7 = true ∧ l 8 = true ∧ l 9 = true ∧ l 13 = true) ∧
  (l 14 = false → (l 1 = true → ∃ A1 c1 B1 d1, ts 1 = .agg #[.string nm, .slice A1 cs.length c1, .int .i64 k, .slice B1 xs.length d1] ∧ RowE encC 3 w A1 cs ∧ RowE encX 2 w B1 xs) ∧
    (l 6 = true → ∃ g, ts 6 = .slice (some ⟨g, 0, none⟩) 2 2 ∧ Box w g (cellsE x ++ cellsE y)) ∧
    (l 7 = true → ∃ g, ts 7 = .agg #[.int .i64 op, .int .i64 0, .int .i64 0, .string ⟨#[]⟩, .string ⟨#[]⟩, .string ⟨#[]⟩, .slice (some ⟨g, 0, none⟩) 2 2] ∧ Box w g (cellsE x ++ cellsE y)) ∧
    (l 8 = true → ∃ g h, ts 8 = .slice (some ⟨h, 0, none⟩) 1 1 ∧ Box w h (cellsE (condE op g)) ∧ Box w g (cellsE x ++ cellsE y))) ∧
  (l 13 = true → ∃ g, ts 13 = .pointer (some ⟨g, 0, none⟩) ∧ (l 14 = false → Box w g [.int .i64 0, .bool false, .int .i64 0, .int .i64 0, .string ⟨#[]⟩, .bool false, .bool false, .int .i64 0, .int .i64 0, .string ⟨#[]⟩, .bool false, .bool false]) ∧ (l 14 = true → Box w g [.int .i64 R.ix, .bool R.lo.op, .int .i64 R.lo.v.k, .int .i64 R.lo.v.n, .string R.lo.v.s, .bool R.lo.inn, .bool R.hi.op, .int .i64 R.hi.v.k, .int .i64 R.hi.v.n, .string R.hi.v.s, .bool R.hi.inn, .bool R.emp]) ∧ w0.heap.size ≤ g ∧ ∀ b ∈ BS, b.1 ≠ g)
section
variable {w0 w w' : World} {BS : List (Nat × List Value)} {nm : ByteArray} {cs : List Col} {k : Int} {xs : List Ixd} {op : Int} {x y : Eh} {R : Pl} {l : Nat → Bool} {ts : Nat → Value}
theorem turnV.mv (h : turnV w0 BS nm cs k xs op x y R l ts w) (hb : Below w.heap.size w w') : turnV w0 BS nm cs k xs op x y R l ts w' := by
  obtain ⟨h0, hB, hc, h1, h13⟩ := h
  refine ⟨below_step' h0 hb, fun b hbs => (hB b hbs).step hb, hc, fun h14 => ?_, fun hl => ?_⟩
  · obtain ⟨h1, h6, h7, h8⟩ := h1 h14
    refine ⟨fun hl => ?_, fun hl => ?_, fun hl => ?_, fun hl => ?_⟩
    · obtain ⟨A1, c1, B1, d1, e, r1, r2⟩ := h1 hl
      exact ⟨A1, c1, B1, d1, e, r1.below hb, r2.below hb⟩
    · obtain ⟨g, e, r⟩ := h6 hl
      exact ⟨g, e, r.step hb⟩
    · obtain ⟨g, e, r⟩ := h7 hl
      exact ⟨g, e, r.step hb⟩
    · obtain ⟨g, h, e, r, r2⟩ := h8 hl
      exact ⟨g, h, e, r.step hb, r2.step hb⟩
  · obtain ⟨g, e, r, r1, r2⟩ := h13 hl
    exact ⟨g, e, fun q => (r q).step hb, fun q => (r1 q).step hb, r2⟩
theorem upd_up {i j : Nat} (h : l j = true) : upd l i true j = true := by
  by_cases e : j = i
  · subst e; exact upd_same _ _ _
  · rw [upd_other e]; exact h
theorem turnV.put {i : Nat} {z : Value} (h : turnV w0 BS nm cs k xs op x y R l ts w) (h14 : i ≠ 14) (hl13 : i = 13 → l 13 = false)
    (p1 : i = 1 → ∃ A1 c1 B1 d1, z = .agg #[.string nm, .slice A1 cs.length c1, .int .i64 k, .slice B1 xs.length d1] ∧ RowE encC 3 w A1 cs ∧ RowE encX 2 w B1 xs)
    (p6 : i = 6 → ∃ g, z = .slice (some ⟨g, 0, none⟩) 2 2 ∧ Box w g (cellsE x ++ cellsE y))
    (p7 : i = 7 → ∃ g, z = .agg #[.int .i64 op, .int .i64 0, .int .i64 0, .string ⟨#[]⟩, .string ⟨#[]⟩, .string ⟨#[]⟩, .slice (some ⟨g, 0, none⟩) 2 2] ∧ Box w g (cellsE x ++ cellsE y))
    (p8 : i = 8 → ∃ g h, z = .slice (some ⟨h, 0, none⟩) 1 1 ∧ Box w h (cellsE (condE op g)) ∧ Box w g (cellsE x ++ cellsE y))
    (p13 : i = 13 → ∃ g, z = .pointer (some ⟨g, 0, none⟩) ∧ Box w g [.int .i64 0, .bool false, .int .i64 0, .int .i64 0, .string ⟨#[]⟩, .bool false, .bool false, .int .i64 0, .int .i64 0, .string ⟨#[]⟩, .bool false, .bool false] ∧ w0.heap.size ≤ g ∧ ∀ b ∈ BS, b.1 ≠ g) : turnV w0 BS nm cs k xs op x y R (upd l i true) (upd ts i z) w := by
  obtain ⟨h0, hB, hc, h1, h13⟩ := h
  refine ⟨h0, hB, fun hl => ?_, fun hl => ?_, fun hl => ?_⟩
  · rw [upd_other (Ne.symm h14)] at hl
    obtain ⟨a, b, c, d, e, f⟩ := hc hl
    exact ⟨upd_up a, upd_up b, upd_up c, upd_up d, upd_up e, upd_up f⟩
  · rw [upd_other (Ne.symm h14)] at hl
    obtain ⟨h1, h6, h7, h8⟩ := h1 hl
    refine ⟨fun hl => ?_, fun hl => ?_, fun hl => ?_, fun hl => ?_⟩
    · by_cases e : i = 1
      · subst e; rw [upd_same]; exact p1 rfl
      · rw [upd_other (Ne.symm e)] at hl ⊢; exact h1 hl
    · by_cases e : i = 6
      · subst e; rw [upd_same]; exact p6 rfl
      · rw [upd_other (Ne.symm e)] at hl ⊢; exact h6 hl
    · by_cases e : i = 7
      · subst e; rw [upd_same]; exact p7 rfl
      · rw [upd_other (Ne.symm e)] at hl ⊢; exact h7 hl
    · by_cases e : i = 8
      · subst e; rw [upd_same]; exact p8 rfl
      · rw [upd_other (Ne.symm e)] at hl ⊢; exact h8 hl
  · rw [upd_other (Ne.symm h14)]
    by_cases e : i = 13
    · subst e
      rw [upd_same]
      obtain ⟨g, e, r, r1, r2⟩ := p13 rfl
      refine ⟨g, e, fun _ => r, fun q => ?_, r1, r2⟩
      have q1 := (hc q).2.2.2.2.2
      rw [hl13 rfl] at q1
      cases q1
    · rw [upd_other (Ne.symm e)] at hl ⊢; exact h13 hl
theorem turnV.pure {i : Nat} {z : Value} (h : turnV w0 BS nm cs k xs op x y R l ts w) (q1 : i ≠ 1) (q6 : i ≠ 6) (q7 : i ≠ 7) (q8 : i ≠ 8) (q13 : i ≠ 13) (q14 : i ≠ 14) : turnV w0 BS nm cs k xs op x y R (upd l i true) (upd ts i z) w :=
  h.put q14 (fun e => absurd e q13) (fun e => absurd e q1) (fun e => absurd e q6) (fun e => absurd e q7) (fun e => absurd e q8) (fun e => absurd e q13)
theorem turnV.not14 (h : turnV w0 BS nm cs k xs op x y R l ts w) {i : Nat} (hi : i = 7 ∨ i = 8 ∨ i = 9 ∨ i = 13) (hl : l i = false) : l 14 = false := by
  cases q : l 14 with
  | false => rfl
  | true =>
    obtain ⟨_, _, h7, h8, h9, h13⟩ := h.2.2.1 q
    rcases hi with rfl | rfl | rfl | rfl
    · rw [hl] at h7; cases h7
    · rw [hl] at h8; cases h8
    · rw [hl] at h9; cases h9
    · rw [hl] at h13; cases h13
theorem turnV.store {z : Value} {g : Nat} (h : turnV w0 BS nm cs k xs op x y R l ts w) (hl : l 14 = false) (l1 : l 1 = true) (l6 : l 6 = true) (l7 : l 7 = true) (l8 : l 8 = true) (l9 : l 9 = true) (l13 : l 13 = true) (e13 : ts 13 = .pointer (some ⟨g, 0, none⟩)) :
    turnV w0 BS nm cs k xs op x y R (upd l 14 true) (upd ts 14 z) (((((((((((((w.setCell ⟨g, 0, none⟩ (.int .i64 R.ix)).setCell ⟨g, 1, none⟩ (.bool R.lo.op)).setCell ⟨g, 2, none⟩ (.int .i64 R.lo.v.k)).setCell ⟨g, 3, none⟩ (.int .i64 R.lo.v.n)).setCell ⟨g, 4, none⟩ (.string R.lo.v.s)).setCell ⟨g, 5, none⟩ (.bool R.lo.inn)).setCell ⟨g, 6, none⟩ (.bool R.hi.op)).setCell ⟨g, 7, none⟩ (.int .i64 R.hi.v.k)).setCell ⟨g, 8, none⟩ (.int .i64 R.hi.v.n)).setCell ⟨g, 9, none⟩ (.string R.hi.v.s)).setCell ⟨g, 10, none⟩ (.bool R.hi.inn)).setCell ⟨g, 11, none⟩ (.bool R.emp))) := by
  obtain ⟨h0, hB, hc, h1, h13⟩ := h
  obtain ⟨g', e, r, _, r1, r2⟩ := h13 l13
  obtain rfl : g = g' := by rw [e13] at e; simpa using e
  have r := r hl
  refine ⟨puts12_below h0 r1 (.int .i64 R.ix) (.bool R.lo.op) (.int .i64 R.lo.v.k) (.int .i64 R.lo.v.n) (.string R.lo.v.s) (.bool R.lo.inn) (.bool R.hi.op) (.int .i64 R.hi.v.k) (.int .i64 R.hi.v.n) (.string R.hi.v.s) (.bool R.hi.inn) (.bool R.emp), fun b hb => puts12_other (hB b hb) (fun q => r2 b hb q.symm) (.int .i64 R.ix) (.bool R.lo.op) (.int .i64 R.lo.v.k) (.int .i64 R.lo.v.n) (.string R.lo.v.s) (.bool R.lo.inn) (.bool R.hi.op) (.int .i64 R.hi.v.k) (.int .i64 R.hi.v.n) (.string R.hi.v.s) (.bool R.hi.inn) (.bool R.emp), fun _ => ⟨upd_up l1, upd_up l6, upd_up l7, upd_up l8, upd_up l9, upd_up l13⟩, fun q => ?_, fun _ => ⟨g, by rw [upd_other (by decide)]; exact e13, fun q => ?_, fun _ => puts12 r (.int .i64 R.ix) (.bool R.lo.op) (.int .i64 R.lo.v.k) (.int .i64 R.lo.v.n) (.string R.lo.v.s) (.bool R.lo.inn) (.bool R.hi.op) (.int .i64 R.hi.v.k) (.int .i64 R.hi.v.n) (.string R.hi.v.s) (.bool R.hi.inn) (.bool R.emp), r1, r2⟩⟩
  · rw [upd_same] at q; cases q
  · rw [upd_same] at q; cases q
end
theorem rem_six (op : Int) : wrap64 (8 + (wrap64 (op.tmod 6 + 6)).tmod 6) = 8 ∨ wrap64 (8 + (wrap64 (op.tmod 6 + 6)).tmod 6) = 9 ∨ wrap64 (8 + (wrap64 (op.tmod 6 + 6)).tmod 6) = 10 ∨ wrap64 (8 + (wrap64 (op.tmod 6 + 6)).tmod 6) = 11 ∨ wrap64 (8 + (wrap64 (op.tmod 6 + 6)).tmod 6) = 12 ∨ wrap64 (8 + (wrap64 (op.tmod 6 + 6)).tmod 6) = 13 := by
  have h1 : op.tmod 6 < 6 := Int.tmod_lt_of_pos op (by decide)
  have h2 : -6 < op.tmod 6 := Int.lt_tmod_of_pos op (by decide)
  generalize op.tmod 6 = r at *
  have h3 : wrap64 (r + 6) = r + 6 := by unfold wrap64; omega
  rw [h3]
  have h4 : (r + 6).tmod 6 = (r + 6) % 6 := Int.tmod_eq_emod_of_nonneg (by omega)
  rw [h4]
  unfold wrap64
  omega
theorem turned_op {op : Int} (h : op = 8 ∨ op = 9 ∨ op = 10 ∨ op = 11 ∨ op = 12 ∨ op = 13) : turned op = 8 ∨ turned op = 9 ∨ turned op = 10 ∨ turned op = 11 ∨ turned op = 12 ∨ turned op = 13 := by
  rcases h with rfl | rfl | rfl | rfl | rfl | rfl <;> decide
set_option maxHeartbeats 8000000 in
set_option maxRecDepth 100000 in
theorem planTurns_any (nm : ByteArray) (A : Option Addr) (cs : List Col) (ca : Nat) (k : Int) (B : Option Addr) (xs : List Ixd) (cb : Nat) (op at1 : Int) (v : V) (w : World) (HR : RowE encC 3 w A cs) (HX : RowE encX 2 w B xs) (hm : MaxL w) (hk : -9223372036854775808 ≤ k ∧ k ≤ 9223372036854775807) (hcs : ∀ c ∈ cs, c.name.size ≤ maxLen) (hxs : ∀ x ∈ xs, x.name.size ≤ maxLen ∧ -9223372036854775808 ≤ x.col ∧ x.col ≤ 9223372036854775807) (hnA : A = none → ca = 0) (hcl : cs.length * 32 ≤ 140737488351232) (hxl : xs.length * 24 ≤ 140737488351232) (hopr : InR op) :
    Calls Try.prog 4 #[.agg #[.string nm, .slice A cs.length ca, .int .i64 k, .slice B xs.length cb], .int .i64 op, .int .i64 at1, .agg #[.int .i64 v.k, .int .i64 v.n, .string v.s]] w fun e w' => e = .returned (.bool true) ∧ Below w.heap.size w w' := by
  have HT := Lib.hid ((Box.new w #[.string nm, .slice A cs.length ca, .int .i64 k, .slice B xs.length cb] 25).alloc (.cells #[.int .i64 v.k, .int .i64 v.n, .string v.s] 28))
  have HV := Lib.hid (Box.new (w.alloc (.cells #[.string nm, .slice A cs.length ca, .int .i64 k, .slice B xs.length cb] 25)) #[.int .i64 v.k, .int .i64 v.n, .string v.s] 28)
  have HF : Hid (Below w.heap.size w ((w.alloc (.cells #[.string nm, .slice A cs.length ca, .int .i64 k, .slice B xs.length cb] 25)).alloc (.cells #[.int .i64 v.k, .int .i64 v.n, .string v.s] 28))) := Lib.hid (by (repeat (first | (with_reducible exact Below.refl _ _) | apply below_alloc _ (Nat.le_refl _) | refine below_set ?_ (by first | exact Nat.le_refl _ | omega) | apply below_drewN | refine below_step ?_ HB)))
  simp only [World.size_alloc] at HV
  have HOFC : Hid (∀ W (hW : Below w.heap.size w W), Calls Try.prog 9 #[.agg #[.string nm, .slice A cs.length ca, .int .i64 k, .slice B xs.length cb]] W fun e w' => ∃ A1 c1 B1 d1, e = .returned (.agg #[.string nm, .slice A1 cs.length c1, .int .i64 k, .slice B1 xs.length d1]) ∧ RowE encC 3 w' A1 cs ∧ RowE encX 2 w' B1 xs ∧ Below W.heap.size W w') := Lib.hid (fun W hW => of06_gen nm A cs ca k B xs cb W (HR.below hW) (HX.below hW) hnA hcl hxl)
  have HM := Lib.hid hm
  have HCS := Lib.hid hcs
  have HXS := Lib.hid hxs
  have HOPR := Lib.hid hopr
  clear HR HX hm hcs hxs hnA hopr
  go_enter Try.func4, Try.ntmps4
  go_wp2_with fail
  generalize ((w.alloc (.cells #[.string nm, .slice A cs.length ca, .int .i64 k, .slice B xs.length cb] 25)).alloc (.cells #[.int .i64 v.k, .int .i64 v.n, .string v.s] 28)) = w3 at *
  refine (alive_any w3 (HM.out.below HF.out)).mono ?_; rintro e w4 ⟨rfl, h⟩
  replace HT := Lib.hid (HT.out.below h HT.out.lt); replace HV := Lib.hid (HV.out.below h HV.out.lt); replace HF := Lib.hid (below_step' HF.out h)
  clear h
  go_upto_region 3 with (fail)
  go_cut [1] (fun o wx => ∃ op2 : Int, o = .int .i64 op2 ∧ wx = w4 ∧ (op2 = 8 ∨ op2 = 9 ∨ op2 = 10 ∨ op2 = 11 ∨ op2 = 12 ∨ op2 = 13))
  case first =>
    clear HT HV HF HOFC
    go_wp2_with fail
    go_meet
    exact ⟨_, rfl, rfl, rem_six op⟩
  obtain ⟨op2, rfl, hw, hop2⟩ := hcut
  subst hw
  generalize wc = w5 at *
  go_upto_region 4 with (fail)
  go_cut [9] (fun t wx => t = .int .i64 (turned op2) ∧ Hid (Below w5.heap.size w5 wx))
  case first =>
    clear HT HV HF HOFC
    rcases hop2 with rfl | rfl | rfl | rfl | rfl | rfl
    all_goals
      go_wp2_with fail
      go_meet
      exact ⟨rfl, Lib.hid (by (repeat (first | (with_reducible exact Below.refl _ _) | apply below_alloc _ (Nat.le_refl _) | refine below_set ?_ (by first | exact Nat.le_refl _ | omega) | apply below_drewN | refine below_step ?_ HB)))⟩
  obtain ⟨rfl, h⟩ := hcut
  replace h := h.out
  generalize wc = w6 at *
  replace HT := Lib.hid (HT.out.below h HT.out.lt); replace HV := Lib.hid (HV.out.below h HV.out.lt); replace HF := Lib.hid (below_step' HF.out h)
  clear h
  have cHV0 := HV.out.c 0 _ rfl; have fHV0 := HV.out.f 0 (by simp); have cHV1 := HV.out.c 1 _ rfl; have fHV1 := HV.out.f 1 (by simp); have cHV2 := HV.out.c 2 _ rfl; have fHV2 := HV.out.f 2 (by simp); have lHV := HV.out.lt
  go_upto_region 6 with (fail)
  clear cHV0 fHV0 cHV1 fHV1 cHV2 fHV2 lHV
  have HL := Lib.hid (Box.new w6 #[.int .i64 0, .int .i64 v.k, .int .i64 v.n, .string v.s, .string ⟨#[]⟩, .string ⟨#[]⟩, .slice none 0 0] 51)
  replace HT := Lib.hid (HT.out.alloc (.cells #[.int .i64 0, .int .i64 v.k, .int .i64 v.n, .string v.s, .string ⟨#[]⟩, .string ⟨#[]⟩, .slice none 0 0] 51))
  have hs6 := HF.out.size
  replace HF := Lib.hid (HF.out.alloc hs6 (.cells #[.int .i64 0, .int .i64 v.k, .int .i64 v.n, .string v.s, .string ⟨#[]⟩, .string ⟨#[]⟩, .slice none 0 0] 51))
  clear hs6 HV HOPR
  generalize w6.alloc (.cells #[.int .i64 0, .int .i64 v.k, .int .i64 v.n, .string v.s, .string ⟨#[]⟩, .string ⟨#[]⟩, .slice none 0 0] 51) = w7 at *
  generalize w6.heap.size = gl at *
  obtain ⟨RE, hRE⟩ : ∃ RE, chosen nm cs k xs (askC op2 (sideE 1 ⟨1, at1, ⟨#[]⟩⟩) (sideE 0 v)) = RE := ⟨_, rfl⟩
  obtain ⟨R, er⟩ := RE
  have hm := HM.out
  have hcs := HCS.out
  have hxs := HXS.out
  have HCH6 : Hid (∀ (W : World) (A1 : Option Addr) (c1 : Nat) (B1 : Option Addr) (d1 g h : Nat), RowE encC 3 W A1 cs → RowE encX 2 W B1 xs → Below w.heap.size w W → Box W h (cellsE (condE (op2) g)) → Box W g (cellsE (sideE 1 ⟨1, at1, ⟨#[]⟩⟩) ++ cellsE (sideE 0 v)) → Calls Try.prog 8 #[.agg #[.string nm, .slice A1 cs.length c1, .int .i64 k, .slice B1 xs.length d1], .slice (some ⟨h, 0, none⟩) 1 1] W fun e W' => e = .returned (.tuple #[.agg #[.int .i64 R.ix, .bool R.lo.op, .int .i64 R.lo.v.k, .int .i64 R.lo.v.n, .string R.lo.v.s, .bool R.lo.inn, .bool R.hi.op, .int .i64 R.hi.v.k, .int .i64 R.hi.v.n, .string R.hi.v.s, .bool R.hi.inn, .bool R.emp], .int .i64 er]) ∧ Below W.heap.size W W') := Lib.hid (fun W A1 c1 B1 d1 g h r1 r2 hW hh hg => by
    have q := choose_cond nm A1 cs c1 k B1 xs d1 (op2) 1 0 ⟨1, at1, ⟨#[]⟩⟩ v g h W r1 r2 (hm.below hW) hk hcs hxs hop2 (by simp) (by simp) hh hg
    rw [hRE] at q
    exact q)
  have HCH7 : Hid (∀ (W : World) (A1 : Option Addr) (c1 : Nat) (B1 : Option Addr) (d1 g h : Nat), RowE encC 3 W A1 cs → RowE encX 2 W B1 xs → Below w.heap.size w W → Box W h (cellsE (condE (turned op2) g)) → Box W g (cellsE (sideE 0 v) ++ cellsE (sideE 1 ⟨1, at1, ⟨#[]⟩⟩)) → Calls Try.prog 8 #[.agg #[.string nm, .slice A1 cs.length c1, .int .i64 k, .slice B1 xs.length d1], .slice (some ⟨h, 0, none⟩) 1 1] W fun e W' => e = .returned (.tuple #[.agg #[.int .i64 R.ix, .bool R.lo.op, .int .i64 R.lo.v.k, .int .i64 R.lo.v.n, .string R.lo.v.s, .bool R.lo.inn, .bool R.hi.op, .int .i64 R.hi.v.k, .int .i64 R.hi.v.n, .string R.hi.v.s, .bool R.hi.inn, .bool R.emp], .int .i64 er]) ∧ Below W.heap.size W W') := Lib.hid (fun W A1 c1 B1 d1 g h r1 r2 hW hh hg => by
    have q := choose_cond nm A1 cs c1 k B1 xs d1 (turned op2) 0 1 v ⟨1, at1, ⟨#[]⟩⟩ g h W r1 r2 (hm.below hW) hk hcs hxs (turned_op hop2) (by simp) (by simp) hh hg
    rw [ask_turned hop2] at q
    rw [hRE] at q
    exact q)
  clear hm hcs hxs hRE HM HCS HXS hop2
  generalize turned op2 = op3 at *
  go_cut [11, 12] (fun p e wx => ∃ g, p = .pointer (some ⟨g, 0, none⟩) ∧ e = .int .i64 er ∧ Hid (Box wx g [.int .i64 R.ix, .bool R.lo.op, .int .i64 R.lo.v.k, .int .i64 R.lo.v.n, .string R.lo.v.s, .bool R.lo.inn, .bool R.hi.op, .int .i64 R.hi.v.k, .int .i64 R.hi.v.n, .string R.hi.v.s, .bool R.hi.inn, .bool R.emp]) ∧ Hid (∀ b ∈ ([(w.heap.size, [.string nm, .slice A cs.length ca, .int .i64 k, .slice B xs.length cb]), (gl, [.int .i64 0, .int .i64 v.k, .int .i64 v.n, .string v.s, .string ⟨#[]⟩, .string ⟨#[]⟩, .slice none 0 0])] : List (Nat × List Value)), Box wx b.1 b.2) ∧ Hid (Below w.heap.size w wx) ∧ w.heap.size ≤ g ∧ Hid (∀ b ∈ ([(w.heap.size, [.string nm, .slice A cs.length ca, .int .i64 k, .slice B xs.length cb]), (gl, [.int .i64 0, .int .i64 v.k, .int .i64 v.n, .string v.s, .string ⟨#[]⟩, .string ⟨#[]⟩, .slice none 0 0])] : List (Nat × List Value)), b.1 ≠ g))
  case first =>
    clear HCH7
    have HB0 : Below w.heap.size w w7.drew := below_drewN HF.out 1
    have HBS : ∀ b ∈ ([(w.heap.size, [.string nm, .slice A cs.length ca, .int .i64 k, .slice B xs.length cb]), (gl, [.int .i64 0, .int .i64 v.k, .int .i64 v.n, .string v.s, .string ⟨#[]⟩, .string ⟨#[]⟩, .slice none 0 0])] : List (Nat × List Value)), Box w7.drew b.1 b.2 := by
      intro b hb
      simp only [List.mem_cons, List.not_mem_nil, or_false] at hb
      rcases hb with rfl | rfl
      · exact HT.out.drew
      · exact HL.out.drew
    clear HT HL HF
    refine inv_begin (k := 16) (m := 0) 6 [some 30, some 31, some 32, some 33, some 34, some 35, some 36, some 37, some 38, some 39, some 29, some 40, some 41, some 11, none, some 12] [some (.agg #[.string nm, .slice A cs.length ca, .int .i64 k, .slice B xs.length cb]), none, some (.int .i64 op2), some (.int .i64 at1), some (.agg #[.int .i64 1, .int .i64 1, .int .i64 at1, .string ⟨#[]⟩, .string ⟨#[]⟩, .string ⟨#[]⟩, .slice none 0 0]), some (.agg #[.int .i64 0, .int .i64 v.k, .int .i64 v.n, .string v.s, .string ⟨#[]⟩, .string ⟨#[]⟩, .slice none 0 0]), none, none, none, some (.tuple #[.agg #[.int .i64 R.ix, .bool R.lo.op, .int .i64 R.lo.v.k, .int .i64 R.lo.v.n, .string R.lo.v.s, .bool R.lo.inn, .bool R.hi.op, .int .i64 R.hi.v.k, .int .i64 R.hi.v.n, .string R.hi.v.s, .bool R.hi.inn, .bool R.emp], .int .i64 er]), some (.tuple #[.agg #[.int .i64 R.ix, .bool R.lo.op, .int .i64 R.lo.v.k, .int .i64 R.lo.v.n, .string R.lo.v.s, .bool R.lo.inn, .bool R.hi.op, .int .i64 R.hi.v.k, .int .i64 R.hi.v.n, .string R.hi.v.s, .bool R.hi.inn, .bool R.emp], .int .i64 er]), some (.agg #[.int .i64 R.ix, .bool R.lo.op, .int .i64 R.lo.v.k, .int .i64 R.lo.v.n, .string R.lo.v.s, .bool R.lo.inn, .bool R.hi.op, .int .i64 R.hi.v.k, .int .i64 R.hi.v.n, .string R.hi.v.s, .bool R.hi.inn, .bool R.emp]), some (.int .i64 er), none, none, some (.int .i64 er)] (turnV w [(w.heap.size, [.string nm, .slice A cs.length ca, .int .i64 k, .slice B xs.length cb]), (gl, [.int .i64 0, .int .i64 v.k, .int .i64 v.n, .string v.s, .string ⟨#[]⟩, .string ⟨#[]⟩, .slice none 0 0])] nm cs k xs op2 (sideE 1 ⟨1, at1, ⟨#[]⟩⟩) (sideE 0 v) R) (fun i => ([u30, u31, u32, u33, u34, u35, u36, u37, u38, u39, u29, u40, u41, undef, undef, undef][i]?).getD undef) (by kernel_rfl) (by simp) (by kernel_rfl) (by kernel_rfl) (by kernel_rfl) (by rfl) (by simp only [putTs, upd_ap, Act.put, List.setIfInBounds_toArray, List.set_cons_zero, List.set_cons_succ, Nat.reduceEqDiff, Nat.reduceAdd, reduceIte, List.getElem?_cons_zero, List.getElem?_cons_succ, Option.getD_some]) (⟨HB0, HBS, (fun h => by cases h), (fun _ => ⟨(fun h => by cases h), (fun h => by cases h), (fun h => by cases h), (fun h => by cases h)⟩), (fun h => by cases h)⟩) ?_ ?_
    · intro i hi l ts w9 hl hw hC hV
      rcases (show i = 0 ∨ i = 1 ∨ i = 2 ∨ i = 3 ∨ i = 4 ∨ i = 5 ∨ i = 6 ∨ i = 7 ∨ i = 8 ∨ i = 9 ∨ i = 10 ∨ i = 11 ∨ i = 12 ∨ i = 13 ∨ i = 14 ∨ i = 15 by omega) with rfl | rfl | rfl | rfl | rfl | rfl | rfl | rfl | rfl | rfl | rfl | rfl | rfl | rfl | rfl | rfl
      · refine inv_step (o := { dst := some 30, op := Go.Op.load 25 (Go.Operand.tmp 4), type := 25, pos := "law.go:117", after := #[], guard := none }) (by rfl) (fun K2 hK => ?_)
        simp only [putTs, upd_ap, Act.put, List.setIfInBounds_toArray, List.set_cons_zero, List.set_cons_succ, Nat.reduceEqDiff, Nat.reduceAdd, reduceIte] at hK ⊢
        replace hK := Lib.hid hK
        have zA := hV.2.1 _ (List.mem_cons_self ..)
        dsimp only at zA
        have z0 := zA.c 0 _ rfl
        have z1 := zA.c 1 _ rfl
        have z2 := zA.c 2 _ rfl
        have z3 := zA.c 3 _ rfl
        clear zA
        go_simp
        exact hK.out _ _ (fun c hc => Option.some.inj (Option.some.inj hc)) (hV.pure (by decide) (by decide) (by decide) (by decide) (by decide) (by decide))
      · have e0 := hC 0 _ rfl (hw 0 (by kernel_rfl))
        refine inv_step (o := { dst := some 31, op := Go.Op.call { callee := Go.Callee.value (Go.Operand.func 9), args := #[Go.Operand.tmp 30], argTypes := #[25] }, type := 38, pos := "law.go:117", after := #[{ on := 0, ground := Go.Ground.data }], guard := none }) (by rfl) (fun K2 hK => ?_)
        simp only [putTs, upd_ap, Act.put, List.setIfInBounds_toArray, List.set_cons_zero, List.set_cons_succ, Nat.reduceEqDiff, Nat.reduceAdd, reduceIte] at hK ⊢
        simp only [e0] at hK ⊢
        replace hK := Lib.hid hK
        have hof := HOFC.out w9 hV.1
        go_simp
        go_wp2_with (go_at_call 9; (with_reducible refine hof.mono ?_); rintro e w8 ⟨A1, c1, B1, d1, rfl, r1, r2, h⟩)
        exact hK.out _ _ (fun c hc => by cases Option.some.inj hc) ((hV.mv h).put (by decide) (fun e => absurd e (by decide)) (fun _ => ⟨A1, c1, B1, d1, rfl, r1, r2⟩) (fun e => absurd e (by decide)) (fun e => absurd e (by decide)) (fun e => absurd e (by decide)) (fun e => absurd e (by decide)))
      · refine inv_step (o := { dst := some 32, op := Go.Op.move (Go.Operand.tmp 1), type := 3, pos := "law.go:117", after := #[], guard := none }) (by rfl) (fun K2 hK => ?_)
        simp only [putTs, upd_ap, Act.put, List.setIfInBounds_toArray, List.set_cons_zero, List.set_cons_succ, Nat.reduceEqDiff, Nat.reduceAdd, reduceIte] at hK ⊢
        replace hK := Lib.hid hK
        go_simp
        exact hK.out _ _ (fun c hc => Option.some.inj (Option.some.inj hc)) (hV.pure (by decide) (by decide) (by decide) (by decide) (by decide) (by decide))
      · refine inv_step (o := { dst := some 33, op := Go.Op.move (Go.Operand.tmp 2), type := 3, pos := "law.go:117", after := #[], guard := none }) (by rfl) (fun K2 hK => ?_)
        simp only [putTs, upd_ap, Act.put, List.setIfInBounds_toArray, List.set_cons_zero, List.set_cons_succ, Nat.reduceEqDiff, Nat.reduceAdd, reduceIte] at hK ⊢
        replace hK := Lib.hid hK
        go_simp
        exact hK.out _ _ (fun c hc => Option.some.inj (Option.some.inj hc)) (hV.pure (by decide) (by decide) (by decide) (by decide) (by decide) (by decide))
      · have e3 := hC 3 _ rfl (hw 3 (by kernel_rfl))
        refine inv_step (o := { dst := some 34, op := Go.Op.call { callee := Go.Callee.value (Go.Operand.func 14), args := #[Go.Operand.tmp 33], argTypes := #[3] }, type := 51, pos := "law.go:117", after := #[{ on := 3, ground := Go.Ground.data }, { on := 1, ground := Go.Ground.chain }], guard := none }) (by rfl) (fun K2 hK => ?_)
        simp only [putTs, upd_ap, Act.put, List.setIfInBounds_toArray, List.set_cons_zero, List.set_cons_succ, Nat.reduceEqDiff, Nat.reduceAdd, reduceIte] at hK ⊢
        simp only [e3] at hK ⊢
        replace hK := Lib.hid hK
        go_simp
        go_wp2_with (go_at_call 14; (with_reducible refine (column_any at1 w9).mono ?_); rintro e w8 ⟨rfl, h⟩)
        exact hK.out _ _ (fun c hc => Option.some.inj (Option.some.inj hc)) ((hV.mv h).pure (by decide) (by decide) (by decide) (by decide) (by decide) (by decide))
      · refine inv_step (o := { dst := some 35, op := Go.Op.load 51 (Go.Operand.tmp 10), type := 51, pos := "law.go:117", after := #[], guard := none }) (by rfl) (fun K2 hK => ?_)
        simp only [putTs, upd_ap, Act.put, List.setIfInBounds_toArray, List.set_cons_zero, List.set_cons_succ, Nat.reduceEqDiff, Nat.reduceAdd, reduceIte] at hK ⊢
        replace hK := Lib.hid hK
        have zA := hV.2.1 _ (List.mem_cons_of_mem _ (List.mem_cons_self ..))
        dsimp only at zA
        have z0 := zA.c 0 _ rfl
        have z1 := zA.c 1 _ rfl
        have z2 := zA.c 2 _ rfl
        have z3 := zA.c 3 _ rfl
        have z4 := zA.c 4 _ rfl
        have z5 := zA.c 5 _ rfl
        have z6 := zA.c 6 _ rfl
        clear zA
        go_simp
        exact hK.out _ _ (fun c hc => Option.some.inj (Option.some.inj hc)) (hV.pure (by decide) (by decide) (by decide) (by decide) (by decide) (by decide))
      · have e4 := hC 4 _ rfl (hw 4 (by kernel_rfl))
        have e5 := hC 5 _ rfl (hw 5 (by kernel_rfl))
        refine inv_step (o := { dst := some 36, op := Go.Op.buildSlice 26 2 #[(0, Go.Operand.tmp 34), (1, Go.Operand.tmp 35)], type := 26, pos := "law.go:117", after := #[{ on := 4, ground := Go.Ground.data }, { on := 5, ground := Go.Ground.data }], guard := none }) (by rfl) (fun K2 hK => ?_)
        simp only [putTs, upd_ap, Act.put, List.setIfInBounds_toArray, List.set_cons_zero, List.set_cons_succ, Nat.reduceEqDiff, Nat.reduceAdd, reduceIte] at hK ⊢
        simp only [e4, e5] at hK ⊢
        replace hK := Lib.hid hK
        go_simp
        exact hK.out _ _ (fun c hc => by cases Option.some.inj hc) ((hV.mv ((Below.refl _ _).alloc (Nat.le_refl _) _)).put (by decide) (fun e => absurd e (by decide)) (fun e => absurd e (by decide)) (fun _ => ⟨_, rfl, Box.new w9 #[.int .i64 1, .int .i64 1, .int .i64 at1, .string ⟨#[]⟩, .string ⟨#[]⟩, .string ⟨#[]⟩, .slice none 0 0, .int .i64 0, .int .i64 v.k, .int .i64 v.n, .string v.s, .string ⟨#[]⟩, .string ⟨#[]⟩, .slice none 0 0] 51⟩) (fun e => absurd e (by decide)) (fun e => absurd e (by decide)) (fun e => absurd e (by decide)))
      · have e2 := hC 2 _ rfl (hw 2 (by kernel_rfl))
        refine inv_step (o := { dst := some 37, op := Go.Op.build 51 #[(0, Go.Operand.tmp 32), (4, Go.Operand.tmp 36)], type := 51, pos := "law.go:117", after := #[{ on := 2, ground := Go.Ground.data }, { on := 6, ground := Go.Ground.data }], guard := none }) (by rfl) (fun K2 hK => ?_)
        simp only [putTs, upd_ap, Act.put, List.setIfInBounds_toArray, List.set_cons_zero, List.set_cons_succ, Nat.reduceEqDiff, Nat.reduceAdd, reduceIte] at hK ⊢
        simp only [e2] at hK ⊢
        replace hK := Lib.hid hK
        obtain ⟨g, e6, hb⟩ := (hV.2.2.2.1 (hV.not14 (i := 7) (by simp) hl)).2.1 (hw 6 (by kernel_rfl))
        have hK2 := hK.out
        simp only [e6] at hK2 ⊢
        replace hK := Lib.hid hK2
        clear hK2
        go_simp
        exact hK.out _ _ (fun c hc => by cases Option.some.inj hc) (hV.put (by decide) (fun e => absurd e (by decide)) (fun e => absurd e (by decide)) (fun e => absurd e (by decide)) (fun _ => ⟨g, rfl, hb⟩) (fun e => absurd e (by decide)) (fun e => absurd e (by decide)))
      · refine inv_step (o := { dst := some 38, op := Go.Op.buildSlice 26 1 #[(0, Go.Operand.tmp 37)], type := 26, pos := "law.go:117", after := #[{ on := 7, ground := Go.Ground.data }], guard := none }) (by rfl) (fun K2 hK => ?_)
        simp only [putTs, upd_ap, Act.put, List.setIfInBounds_toArray, List.set_cons_zero, List.set_cons_succ, Nat.reduceEqDiff, Nat.reduceAdd, reduceIte] at hK ⊢
        replace hK := Lib.hid hK
        obtain ⟨g, e7, hb⟩ := (hV.2.2.2.1 (hV.not14 (i := 8) (by simp) hl)).2.2.1 (hw 7 (by kernel_rfl))
        have hK2 := hK.out
        simp only [e7] at hK2 ⊢
        replace hK := Lib.hid hK2
        clear hK2
        go_simp
        exact hK.out _ _ (fun c hc => by cases Option.some.inj hc) ((hV.mv ((Below.refl _ _).alloc (Nat.le_refl _) _)).put (by decide) (fun e => absurd e (by decide)) (fun e => absurd e (by decide)) (fun e => absurd e (by decide)) (fun e => absurd e (by decide)) (fun _ => ⟨g, _, rfl, Box.new w9 #[.int .i64 op2, .int .i64 0, .int .i64 0, .string ⟨#[]⟩, .string ⟨#[]⟩, .string ⟨#[]⟩, .slice (some ⟨g, 0, none⟩) 2 2] 51, hb.step ((Below.refl _ _).alloc (Nat.le_refl _) _)⟩) (fun e => absurd e (by decide)))
      · have e4 := hC 4 _ rfl (hw 4 (by kernel_rfl))
        refine inv_step (o := { dst := some 39, op := Go.Op.call { callee := Go.Callee.value (Go.Operand.func 8), args := #[Go.Operand.tmp 31, Go.Operand.tmp 38], argTypes := #[38, 26] }, type := 34, pos := "law.go:117", after := #[{ on := 1, ground := Go.Ground.data }, { on := 8, ground := Go.Ground.data }, { on := 4, ground := Go.Ground.chain }], guard := none }) (by rfl) (fun K2 hK => ?_)
        simp only [putTs, upd_ap, Act.put, List.setIfInBounds_toArray, List.set_cons_zero, List.set_cons_succ, Nat.reduceEqDiff, Nat.reduceAdd, reduceIte] at hK ⊢
        simp only [e4] at hK ⊢
        replace hK := Lib.hid hK
        have h14 := hV.not14 (i := 9) (by simp) hl
        obtain ⟨A1, c1, B1, d1, e1, r1, r2⟩ := (hV.2.2.2.1 h14).1 (hw 1 (by kernel_rfl))
        obtain ⟨g, h, e8, hh, hg⟩ := (hV.2.2.2.1 h14).2.2.2 (hw 8 (by kernel_rfl))
        have hK2 := hK.out
        simp only [e1, e8] at hK2 ⊢
        replace hK := Lib.hid hK2
        clear hK2
        have hch := HCH6.out w9 A1 c1 B1 d1 g h r1 r2 hV.1 hh hg
        go_simp
        go_wp2_with (go_at_call 8; (with_reducible refine hch.mono ?_); rintro e w8 ⟨rfl, hb⟩)
        exact hK.out _ _ (fun c hc => Option.some.inj (Option.some.inj hc)) ((hV.mv hb).pure (by decide) (by decide) (by decide) (by decide) (by decide) (by decide))
      · have e9 := hC 9 _ rfl (hw 9 (by kernel_rfl))
        refine inv_step (o := { dst := some 29, op := Go.Op.move (Go.Operand.tmp 39), type := 34, pos := "law.go:117", after := #[{ on := 9, ground := Go.Ground.data }], guard := none }) (by rfl) (fun K2 hK => ?_)
        simp only [putTs, upd_ap, Act.put, List.setIfInBounds_toArray, List.set_cons_zero, List.set_cons_succ, Nat.reduceEqDiff, Nat.reduceAdd, reduceIte] at hK ⊢
        simp only [e9] at hK ⊢
        replace hK := Lib.hid hK
        go_simp
        exact hK.out _ _ (fun c hc => Option.some.inj (Option.some.inj hc)) (hV.pure (by decide) (by decide) (by decide) (by decide) (by decide) (by decide))
      · have e10 := hC 10 _ rfl (hw 10 (by kernel_rfl))
        refine inv_step (o := { dst := some 40, op := Go.Op.extract (Go.Operand.tmp 29) 0, type := 32, pos := "law.go:117", after := #[{ on := 10, ground := Go.Ground.data }], guard := none }) (by rfl) (fun K2 hK => ?_)
        simp only [putTs, upd_ap, Act.put, List.setIfInBounds_toArray, List.set_cons_zero, List.set_cons_succ, Nat.reduceEqDiff, Nat.reduceAdd, reduceIte] at hK ⊢
        simp only [e10] at hK ⊢
        replace hK := Lib.hid hK
        go_simp
        exact hK.out _ _ (fun c hc => Option.some.inj (Option.some.inj hc)) (hV.pure (by decide) (by decide) (by decide) (by decide) (by decide) (by decide))
      · have e10 := hC 10 _ rfl (hw 10 (by kernel_rfl))
        refine inv_step (o := { dst := some 41, op := Go.Op.extract (Go.Operand.tmp 29) 1, type := 33, pos := "law.go:117", after := #[{ on := 10, ground := Go.Ground.data }, { on := 14, ground := Go.Ground.gcOnly Go.Departure.lateStores }], guard := none }) (by rfl) (fun K2 hK => ?_)
        simp only [putTs, upd_ap, Act.put, List.setIfInBounds_toArray, List.set_cons_zero, List.set_cons_succ, Nat.reduceEqDiff, Nat.reduceAdd, reduceIte] at hK ⊢
        simp only [e10] at hK ⊢
        replace hK := Lib.hid hK
        go_simp
        exact hK.out _ _ (fun c hc => Option.some.inj (Option.some.inj hc)) (hV.pure (by decide) (by decide) (by decide) (by decide) (by decide) (by decide))
      · refine inv_step (o := { dst := some 11, op := Go.Op.alloc 32, type := 0, pos := "law.go:117", after := #[], guard := none }) (by rfl) (fun K2 hK => ?_)
        simp only [putTs, upd_ap, Act.put, List.setIfInBounds_toArray, List.set_cons_zero, List.set_cons_succ, Nat.reduceEqDiff, Nat.reduceAdd, reduceIte] at hK ⊢
        replace hK := Lib.hid hK
        go_simp
        exact hK.out _ _ (fun c hc => by cases Option.some.inj hc) ((hV.mv ((Below.refl _ _).alloc (Nat.le_refl _) _)).put (by decide) (fun _ => hl) (fun e => absurd e (by decide)) (fun e => absurd e (by decide)) (fun e => absurd e (by decide)) (fun e => absurd e (by decide)) (fun _ => ⟨_, rfl, Box.new w9 #[.int .i64 0, .bool false, .int .i64 0, .int .i64 0, .string ⟨#[]⟩, .bool false, .bool false, .int .i64 0, .int .i64 0, .string ⟨#[]⟩, .bool false, .bool false] 32, hV.1.size, fun b hb => Nat.ne_of_lt (hV.2.1 b hb).lt⟩))
      · have e0 := hC 0 _ rfl (hw 0 (by kernel_rfl))
        have e2 := hC 2 _ rfl (hw 2 (by kernel_rfl))
        have e3 := hC 3 _ rfl (hw 3 (by kernel_rfl))
        have e4 := hC 4 _ rfl (hw 4 (by kernel_rfl))
        have e5 := hC 5 _ rfl (hw 5 (by kernel_rfl))
        have e9 := hC 9 _ rfl (hw 9 (by kernel_rfl))
        have e10 := hC 10 _ rfl (hw 10 (by kernel_rfl))
        have e11 := hC 11 _ rfl (hw 11 (by kernel_rfl))
        refine inv_step (o := { dst := none, op := Go.Op.store 32 (Go.Operand.tmp 11) (Go.Operand.tmp 40), type := 0, pos := "law.go:117", after := #[{ on := 13, ground := Go.Ground.data }, { on := 11, ground := Go.Ground.data }, { on := 9, ground := Go.Ground.chain }, { on := 0, ground := Go.Ground.phase }, { on := 1, ground := Go.Ground.phase }, { on := 2, ground := Go.Ground.phase }, { on := 3, ground := Go.Ground.phase }, { on := 4, ground := Go.Ground.phase }, { on := 5, ground := Go.Ground.phase }, { on := 6, ground := Go.Ground.phase }, { on := 7, ground := Go.Ground.phase }, { on := 8, ground := Go.Ground.phase }, { on := 9, ground := Go.Ground.phase }, { on := 10, ground := Go.Ground.phase }, { on := 11, ground := Go.Ground.phase }, { on := 12, ground := Go.Ground.textOnly Go.Departure.lateStores }, { on := 13, ground := Go.Ground.phase }], guard := none }) (by rfl) (fun K2 hK => ?_)
        simp only [putTs, upd_ap, Act.put, List.setIfInBounds_toArray, List.set_cons_zero, List.set_cons_succ, Nat.reduceEqDiff, Nat.reduceAdd, reduceIte] at hK ⊢
        simp only [e0, e2, e3, e4, e5, e9, e10, e11] at hK ⊢
        replace hK := Lib.hid hK
        obtain ⟨g, e13, hg, _, hgN, hgne⟩ := hV.2.2.2.2 (hw 13 (by kernel_rfl))
        have hgz := hg hl
        have HP := Lib.hid hgz
        clear hg hgz
        have hK2 := hK.out
        simp only [e13] at hK2 ⊢
        replace hK := Lib.hid hK2
        clear hK2
        have cHP0 := HP.out.c 0 _ rfl; have fHP0 := HP.out.f 0 (by simp); have cHP1 := HP.out.c 1 _ rfl; have fHP1 := HP.out.f 1 (by simp); have cHP2 := HP.out.c 2 _ rfl; have fHP2 := HP.out.f 2 (by simp); have cHP3 := HP.out.c 3 _ rfl; have fHP3 := HP.out.f 3 (by simp); have cHP4 := HP.out.c 4 _ rfl; have fHP4 := HP.out.f 4 (by simp); have cHP5 := HP.out.c 5 _ rfl; have fHP5 := HP.out.f 5 (by simp); have cHP6 := HP.out.c 6 _ rfl; have fHP6 := HP.out.f 6 (by simp); have cHP7 := HP.out.c 7 _ rfl; have fHP7 := HP.out.f 7 (by simp); have cHP8 := HP.out.c 8 _ rfl; have fHP8 := HP.out.f 8 (by simp); have cHP9 := HP.out.c 9 _ rfl; have fHP9 := HP.out.f 9 (by simp); have cHP10 := HP.out.c 10 _ rfl; have fHP10 := HP.out.f 10 (by simp); have cHP11 := HP.out.c 11 _ rfl; have fHP11 := HP.out.f 11 (by simp); have lHP := HP.out.lt
        go_simp
        clear cHP0 fHP0 cHP1 fHP1 cHP2 fHP2 cHP3 fHP3 cHP4 fHP4 cHP5 fHP5 cHP6 fHP6 cHP7 fHP7 cHP8 fHP8 cHP9 fHP9 cHP10 fHP10 cHP11 fHP11 lHP
        exact hK.out undef _ (fun c hc => by cases Option.some.inj hc) (hV.store hl (hw 1 (by kernel_rfl)) (hw 6 (by kernel_rfl)) (hw 7 (by kernel_rfl)) (hw 8 (by kernel_rfl)) (hw 9 (by kernel_rfl)) (hw 13 (by kernel_rfl)) e13)
      · have e0 := hC 0 _ rfl (hw 0 (by kernel_rfl))
        have e2 := hC 2 _ rfl (hw 2 (by kernel_rfl))
        have e3 := hC 3 _ rfl (hw 3 (by kernel_rfl))
        have e4 := hC 4 _ rfl (hw 4 (by kernel_rfl))
        have e5 := hC 5 _ rfl (hw 5 (by kernel_rfl))
        have e9 := hC 9 _ rfl (hw 9 (by kernel_rfl))
        have e10 := hC 10 _ rfl (hw 10 (by kernel_rfl))
        have e11 := hC 11 _ rfl (hw 11 (by kernel_rfl))
        have e12 := hC 12 _ rfl (hw 12 (by kernel_rfl))
        refine inv_step (o := { dst := some 12, op := Go.Op.assign (Go.Operand.tmp 41), type := 33, pos := "law.go:117", after := #[{ on := 12, ground := Go.Ground.data }, { on := 14, ground := Go.Ground.chain }, { on := 0, ground := Go.Ground.phase }, { on := 1, ground := Go.Ground.phase }, { on := 2, ground := Go.Ground.phase }, { on := 3, ground := Go.Ground.phase }, { on := 4, ground := Go.Ground.phase }, { on := 5, ground := Go.Ground.phase }, { on := 6, ground := Go.Ground.phase }, { on := 7, ground := Go.Ground.phase }, { on := 8, ground := Go.Ground.phase }, { on := 9, ground := Go.Ground.phase }, { on := 10, ground := Go.Ground.phase }, { on := 11, ground := Go.Ground.phase }, { on := 12, ground := Go.Ground.phase }, { on := 13, ground := Go.Ground.phase }, { on := 14, ground := Go.Ground.phase }], guard := none }) (by rfl) (fun K2 hK => ?_)
        simp only [putTs, upd_ap, Act.put, List.setIfInBounds_toArray, List.set_cons_zero, List.set_cons_succ, Nat.reduceEqDiff, Nat.reduceAdd, reduceIte] at hK ⊢
        simp only [e0, e2, e3, e4, e5, e9, e10, e11, e12] at hK ⊢
        replace hK := Lib.hid hK
        go_simp
        exact hK.out _ _ (fun c hc => Option.some.inj (Option.some.inj hc)) (hV.pure (by decide) (by decide) (by decide) (by decide) (by decide) (by decide))
    · intro ts w9 hC hV
      have e0 := hC 0 _ (by decide) rfl
      have e2 := hC 2 _ (by decide) rfl
      have e3 := hC 3 _ (by decide) rfl
      have e4 := hC 4 _ (by decide) rfl
      have e5 := hC 5 _ (by decide) rfl
      have e9 := hC 9 _ (by decide) rfl
      have e10 := hC 10 _ (by decide) rfl
      have e11 := hC 11 _ (by decide) rfl
      have e12 := hC 12 _ (by decide) rfl
      have e15 := hC 15 _ (by decide) rfl
      simp only [putTs, upd_ap, Act.put, List.setIfInBounds_toArray, List.set_cons_zero, List.set_cons_succ, Nat.reduceEqDiff, Nat.reduceAdd, reduceIte]
      simp only [e0, e2, e3, e4, e5, e9, e10, e11, e12, e15]
      obtain ⟨g, e13, _, hg, hgN, hgne⟩ := hV.2.2.2.2 rfl
      have hg := hg rfl
      have hBS := hV.2.1
      have hB0 := hV.1
      clear hV hC
      simp only [e13]
      clear e13 e0 e2 e3 e4 e5 e9 e10 e11 e12 e15
      refine any_stage ?_
      refine stage_done (by kernel_rfl) ?_ _
      go_wp2_with fail
      go_meet
      exact ⟨g, rfl, rfl, Lib.hid hg, Lib.hid hBS, Lib.hid hB0, hgN, Lib.hid hgne⟩
  clear HT HL HF HCH6
  obtain ⟨gp, rfl, rfl, HPB, HBS, HB0, hgp, hgne⟩ := hcut
  generalize wc = w8 at *
  go_upto_region 7 with (fail)
  go_cut [13, 14] (fun p e wx => ∃ g, p = .pointer (some ⟨g, 0, none⟩) ∧ e = .int .i64 er ∧ Hid (Box wx g [.int .i64 R.ix, .bool R.lo.op, .int .i64 R.lo.v.k, .int .i64 R.lo.v.n, .string R.lo.v.s, .bool R.lo.inn, .bool R.hi.op, .int .i64 R.hi.v.k, .int .i64 R.hi.v.n, .string R.hi.v.s, .bool R.hi.inn, .bool R.emp]) ∧ Hid (∀ b ∈ ([(w.heap.size, [.string nm, .slice A cs.length ca, .int .i64 k, .slice B xs.length cb]), (gl, [.int .i64 0, .int .i64 v.k, .int .i64 v.n, .string v.s, .string ⟨#[]⟩, .string ⟨#[]⟩, .slice none 0 0]), (gp, [.int .i64 R.ix, .bool R.lo.op, .int .i64 R.lo.v.k, .int .i64 R.lo.v.n, .string R.lo.v.s, .bool R.lo.inn, .bool R.hi.op, .int .i64 R.hi.v.k, .int .i64 R.hi.v.n, .string R.hi.v.s, .bool R.hi.inn, .bool R.emp])] : List (Nat × List Value)), Box wx b.1 b.2) ∧ Hid (Below w.heap.size w wx) ∧ w.heap.size ≤ g ∧ Hid (∀ b ∈ ([(w.heap.size, [.string nm, .slice A cs.length ca, .int .i64 k, .slice B xs.length cb]), (gl, [.int .i64 0, .int .i64 v.k, .int .i64 v.n, .string v.s, .string ⟨#[]⟩, .string ⟨#[]⟩, .slice none 0 0]), (gp, [.int .i64 R.ix, .bool R.lo.op, .int .i64 R.lo.v.k, .int .i64 R.lo.v.n, .string R.lo.v.s, .bool R.lo.inn, .bool R.hi.op, .int .i64 R.hi.v.k, .int .i64 R.hi.v.n, .string R.hi.v.s, .bool R.hi.inn, .bool R.emp])] : List (Nat × List Value)), b.1 ≠ g))
  case first =>
    have hBS : ∀ b ∈ ([(w.heap.size, [.string nm, .slice A cs.length ca, .int .i64 k, .slice B xs.length cb]), (gl, [.int .i64 0, .int .i64 v.k, .int .i64 v.n, .string v.s, .string ⟨#[]⟩, .string ⟨#[]⟩, .slice none 0 0]), (gp, [.int .i64 R.ix, .bool R.lo.op, .int .i64 R.lo.v.k, .int .i64 R.lo.v.n, .string R.lo.v.s, .bool R.lo.inn, .bool R.hi.op, .int .i64 R.hi.v.k, .int .i64 R.hi.v.n, .string R.hi.v.s, .bool R.hi.inn, .bool R.emp])] : List (Nat × List Value)), Box w8.drew b.1 b.2 := by
      intro b hb
      simp only [List.mem_cons, List.not_mem_nil, or_false] at hb
      rcases hb with rfl | rfl | rfl
      · exact (HBS.out _ (by simp)).drew
      · exact (HBS.out _ (by simp)).drew
      · exact HPB.out.drew
    have hB0 : Below w.heap.size w w8.drew := below_drewN HB0.out 1
    clear HBS HB0 HPB hgne
    have HBS := hBS
    have HB0 := hB0
    clear hBS hB0
    refine inv_begin (k := 16) (m := 0) 6 [some 43, some 44, some 45, some 46, some 47, some 48, some 49, some 50, some 51, some 52, some 42, some 53, some 54, some 13, none, some 14] [some (.agg #[.string nm, .slice A cs.length ca, .int .i64 k, .slice B xs.length cb]), none, some (.int .i64 op3), some (.agg #[.int .i64 0, .int .i64 v.k, .int .i64 v.n, .string v.s, .string ⟨#[]⟩, .string ⟨#[]⟩, .slice none 0 0]), some (.int .i64 at1), some (.agg #[.int .i64 1, .int .i64 1, .int .i64 at1, .string ⟨#[]⟩, .string ⟨#[]⟩, .string ⟨#[]⟩, .slice none 0 0]), none, none, none, some (.tuple #[.agg #[.int .i64 R.ix, .bool R.lo.op, .int .i64 R.lo.v.k, .int .i64 R.lo.v.n, .string R.lo.v.s, .bool R.lo.inn, .bool R.hi.op, .int .i64 R.hi.v.k, .int .i64 R.hi.v.n, .string R.hi.v.s, .bool R.hi.inn, .bool R.emp], .int .i64 er]), some (.tuple #[.agg #[.int .i64 R.ix, .bool R.lo.op, .int .i64 R.lo.v.k, .int .i64 R.lo.v.n, .string R.lo.v.s, .bool R.lo.inn, .bool R.hi.op, .int .i64 R.hi.v.k, .int .i64 R.hi.v.n, .string R.hi.v.s, .bool R.hi.inn, .bool R.emp], .int .i64 er]), some (.agg #[.int .i64 R.ix, .bool R.lo.op, .int .i64 R.lo.v.k, .int .i64 R.lo.v.n, .string R.lo.v.s, .bool R.lo.inn, .bool R.hi.op, .int .i64 R.hi.v.k, .int .i64 R.hi.v.n, .string R.hi.v.s, .bool R.hi.inn, .bool R.emp]), some (.int .i64 er), none, none, some (.int .i64 er)] (turnV w [(w.heap.size, [.string nm, .slice A cs.length ca, .int .i64 k, .slice B xs.length cb]), (gl, [.int .i64 0, .int .i64 v.k, .int .i64 v.n, .string v.s, .string ⟨#[]⟩, .string ⟨#[]⟩, .slice none 0 0]), (gp, [.int .i64 R.ix, .bool R.lo.op, .int .i64 R.lo.v.k, .int .i64 R.lo.v.n, .string R.lo.v.s, .bool R.lo.inn, .bool R.hi.op, .int .i64 R.hi.v.k, .int .i64 R.hi.v.n, .string R.hi.v.s, .bool R.hi.inn, .bool R.emp])] nm cs k xs op3 (sideE 0 v) (sideE 1 ⟨1, at1, ⟨#[]⟩⟩) R) (fun i => ([u43, u44, u45, u46, u47, u48, u49, u50, u51, u52, u42, u53, u54, undef, undef, undef][i]?).getD undef) (by kernel_rfl) (by simp) (by kernel_rfl) (by kernel_rfl) (by kernel_rfl) (by rfl) (by simp only [putTs, upd_ap, Act.put, List.setIfInBounds_toArray, List.set_cons_zero, List.set_cons_succ, Nat.reduceEqDiff, Nat.reduceAdd, reduceIte, List.getElem?_cons_zero, List.getElem?_cons_succ, Option.getD_some]) (⟨HB0, HBS, (fun h => by cases h), (fun _ => ⟨(fun h => by cases h), (fun h => by cases h), (fun h => by cases h), (fun h => by cases h)⟩), (fun h => by cases h)⟩) ?_ ?_
    · intro i hi l ts w9 hl hw hC hV
      rcases (show i = 0 ∨ i = 1 ∨ i = 2 ∨ i = 3 ∨ i = 4 ∨ i = 5 ∨ i = 6 ∨ i = 7 ∨ i = 8 ∨ i = 9 ∨ i = 10 ∨ i = 11 ∨ i = 12 ∨ i = 13 ∨ i = 14 ∨ i = 15 by omega) with rfl | rfl | rfl | rfl | rfl | rfl | rfl | rfl | rfl | rfl | rfl | rfl | rfl | rfl | rfl | rfl
      · refine inv_step (o := { dst := some 43, op := Go.Op.load 25 (Go.Operand.tmp 4), type := 25, pos := "law.go:118", after := #[], guard := none }) (by rfl) (fun K2 hK => ?_)
        simp only [putTs, upd_ap, Act.put, List.setIfInBounds_toArray, List.set_cons_zero, List.set_cons_succ, Nat.reduceEqDiff, Nat.reduceAdd, reduceIte] at hK ⊢
        replace hK := Lib.hid hK
        have zA := hV.2.1 _ (List.mem_cons_self ..)
        dsimp only at zA
        have z0 := zA.c 0 _ rfl
        have z1 := zA.c 1 _ rfl
        have z2 := zA.c 2 _ rfl
        have z3 := zA.c 3 _ rfl
        clear zA
        go_simp
        exact hK.out _ _ (fun c hc => Option.some.inj (Option.some.inj hc)) (hV.pure (by decide) (by decide) (by decide) (by decide) (by decide) (by decide))
      · have e0 := hC 0 _ rfl (hw 0 (by kernel_rfl))
        refine inv_step (o := { dst := some 44, op := Go.Op.call { callee := Go.Callee.value (Go.Operand.func 9), args := #[Go.Operand.tmp 43], argTypes := #[25] }, type := 38, pos := "law.go:118", after := #[{ on := 0, ground := Go.Ground.data }], guard := none }) (by rfl) (fun K2 hK => ?_)
        simp only [putTs, upd_ap, Act.put, List.setIfInBounds_toArray, List.set_cons_zero, List.set_cons_succ, Nat.reduceEqDiff, Nat.reduceAdd, reduceIte] at hK ⊢
        simp only [e0] at hK ⊢
        replace hK := Lib.hid hK
        have hof := HOFC.out w9 hV.1
        go_simp
        go_wp2_with (go_at_call 9; (with_reducible refine hof.mono ?_); rintro e w8 ⟨A1, c1, B1, d1, rfl, r1, r2, h⟩)
        exact hK.out _ _ (fun c hc => by cases Option.some.inj hc) ((hV.mv h).put (by decide) (fun e => absurd e (by decide)) (fun _ => ⟨A1, c1, B1, d1, rfl, r1, r2⟩) (fun e => absurd e (by decide)) (fun e => absurd e (by decide)) (fun e => absurd e (by decide)) (fun e => absurd e (by decide)))
      · refine inv_step (o := { dst := some 45, op := Go.Op.move (Go.Operand.tmp 9), type := 3, pos := "law.go:118", after := #[], guard := none }) (by rfl) (fun K2 hK => ?_)
        simp only [putTs, upd_ap, Act.put, List.setIfInBounds_toArray, List.set_cons_zero, List.set_cons_succ, Nat.reduceEqDiff, Nat.reduceAdd, reduceIte] at hK ⊢
        replace hK := Lib.hid hK
        go_simp
        exact hK.out _ _ (fun c hc => Option.some.inj (Option.some.inj hc)) (hV.pure (by decide) (by decide) (by decide) (by decide) (by decide) (by decide))
      · refine inv_step (o := { dst := some 46, op := Go.Op.load 51 (Go.Operand.tmp 10), type := 51, pos := "law.go:118", after := #[], guard := none }) (by rfl) (fun K2 hK => ?_)
        simp only [putTs, upd_ap, Act.put, List.setIfInBounds_toArray, List.set_cons_zero, List.set_cons_succ, Nat.reduceEqDiff, Nat.reduceAdd, reduceIte] at hK ⊢
        replace hK := Lib.hid hK
        have zA := hV.2.1 _ (List.mem_cons_of_mem _ (List.mem_cons_self ..))
        dsimp only at zA
        have z0 := zA.c 0 _ rfl
        have z1 := zA.c 1 _ rfl
        have z2 := zA.c 2 _ rfl
        have z3 := zA.c 3 _ rfl
        have z4 := zA.c 4 _ rfl
        have z5 := zA.c 5 _ rfl
        have z6 := zA.c 6 _ rfl
        clear zA
        go_simp
        exact hK.out _ _ (fun c hc => Option.some.inj (Option.some.inj hc)) (hV.pure (by decide) (by decide) (by decide) (by decide) (by decide) (by decide))
      · refine inv_step (o := { dst := some 47, op := Go.Op.move (Go.Operand.tmp 2), type := 3, pos := "law.go:118", after := #[], guard := none }) (by rfl) (fun K2 hK => ?_)
        simp only [putTs, upd_ap, Act.put, List.setIfInBounds_toArray, List.set_cons_zero, List.set_cons_succ, Nat.reduceEqDiff, Nat.reduceAdd, reduceIte] at hK ⊢
        replace hK := Lib.hid hK
        go_simp
        exact hK.out _ _ (fun c hc => Option.some.inj (Option.some.inj hc)) (hV.pure (by decide) (by decide) (by decide) (by decide) (by decide) (by decide))
      · have e4 := hC 4 _ rfl (hw 4 (by kernel_rfl))
        refine inv_step (o := { dst := some 48, op := Go.Op.call { callee := Go.Callee.value (Go.Operand.func 14), args := #[Go.Operand.tmp 47], argTypes := #[3] }, type := 51, pos := "law.go:118", after := #[{ on := 4, ground := Go.Ground.data }, { on := 1, ground := Go.Ground.chain }], guard := none }) (by rfl) (fun K2 hK => ?_)
        simp only [putTs, upd_ap, Act.put, List.setIfInBounds_toArray, List.set_cons_zero, List.set_cons_succ, Nat.reduceEqDiff, Nat.reduceAdd, reduceIte] at hK ⊢
        simp only [e4] at hK ⊢
        replace hK := Lib.hid hK
        go_simp
        go_wp2_with (go_at_call 14; (with_reducible refine (column_any at1 w9).mono ?_); rintro e w8 ⟨rfl, h⟩)
        exact hK.out _ _ (fun c hc => Option.some.inj (Option.some.inj hc)) ((hV.mv h).pure (by decide) (by decide) (by decide) (by decide) (by decide) (by decide))
      · have e3 := hC 3 _ rfl (hw 3 (by kernel_rfl))
        have e5 := hC 5 _ rfl (hw 5 (by kernel_rfl))
        refine inv_step (o := { dst := some 49, op := Go.Op.buildSlice 26 2 #[(0, Go.Operand.tmp 46), (1, Go.Operand.tmp 48)], type := 26, pos := "law.go:118", after := #[{ on := 3, ground := Go.Ground.data }, { on := 5, ground := Go.Ground.data }], guard := none }) (by rfl) (fun K2 hK => ?_)
        simp only [putTs, upd_ap, Act.put, List.setIfInBounds_toArray, List.set_cons_zero, List.set_cons_succ, Nat.reduceEqDiff, Nat.reduceAdd, reduceIte] at hK ⊢
        simp only [e3, e5] at hK ⊢
        replace hK := Lib.hid hK
        go_simp
        exact hK.out _ _ (fun c hc => by cases Option.some.inj hc) ((hV.mv ((Below.refl _ _).alloc (Nat.le_refl _) _)).put (by decide) (fun e => absurd e (by decide)) (fun e => absurd e (by decide)) (fun _ => ⟨_, rfl, Box.new w9 #[.int .i64 0, .int .i64 v.k, .int .i64 v.n, .string v.s, .string ⟨#[]⟩, .string ⟨#[]⟩, .slice none 0 0, .int .i64 1, .int .i64 1, .int .i64 at1, .string ⟨#[]⟩, .string ⟨#[]⟩, .string ⟨#[]⟩, .slice none 0 0] 51⟩) (fun e => absurd e (by decide)) (fun e => absurd e (by decide)) (fun e => absurd e (by decide)))
      · have e2 := hC 2 _ rfl (hw 2 (by kernel_rfl))
        refine inv_step (o := { dst := some 50, op := Go.Op.build 51 #[(0, Go.Operand.tmp 45), (4, Go.Operand.tmp 49)], type := 51, pos := "law.go:118", after := #[{ on := 2, ground := Go.Ground.data }, { on := 6, ground := Go.Ground.data }], guard := none }) (by rfl) (fun K2 hK => ?_)
        simp only [putTs, upd_ap, Act.put, List.setIfInBounds_toArray, List.set_cons_zero, List.set_cons_succ, Nat.reduceEqDiff, Nat.reduceAdd, reduceIte] at hK ⊢
        simp only [e2] at hK ⊢
        replace hK := Lib.hid hK
        obtain ⟨g, e6, hb⟩ := (hV.2.2.2.1 (hV.not14 (i := 7) (by simp) hl)).2.1 (hw 6 (by kernel_rfl))
        have hK2 := hK.out
        simp only [e6] at hK2 ⊢
        replace hK := Lib.hid hK2
        clear hK2
        go_simp
        exact hK.out _ _ (fun c hc => by cases Option.some.inj hc) (hV.put (by decide) (fun e => absurd e (by decide)) (fun e => absurd e (by decide)) (fun e => absurd e (by decide)) (fun _ => ⟨g, rfl, hb⟩) (fun e => absurd e (by decide)) (fun e => absurd e (by decide)))
      · refine inv_step (o := { dst := some 51, op := Go.Op.buildSlice 26 1 #[(0, Go.Operand.tmp 50)], type := 26, pos := "law.go:118", after := #[{ on := 7, ground := Go.Ground.data }], guard := none }) (by rfl) (fun K2 hK => ?_)
        simp only [putTs, upd_ap, Act.put, List.setIfInBounds_toArray, List.set_cons_zero, List.set_cons_succ, Nat.reduceEqDiff, Nat.reduceAdd, reduceIte] at hK ⊢
        replace hK := Lib.hid hK
        obtain ⟨g, e7, hb⟩ := (hV.2.2.2.1 (hV.not14 (i := 8) (by simp) hl)).2.2.1 (hw 7 (by kernel_rfl))
        have hK2 := hK.out
        simp only [e7] at hK2 ⊢
        replace hK := Lib.hid hK2
        clear hK2
        go_simp
        exact hK.out _ _ (fun c hc => by cases Option.some.inj hc) ((hV.mv ((Below.refl _ _).alloc (Nat.le_refl _) _)).put (by decide) (fun e => absurd e (by decide)) (fun e => absurd e (by decide)) (fun e => absurd e (by decide)) (fun e => absurd e (by decide)) (fun _ => ⟨g, _, rfl, Box.new w9 #[.int .i64 op3, .int .i64 0, .int .i64 0, .string ⟨#[]⟩, .string ⟨#[]⟩, .string ⟨#[]⟩, .slice (some ⟨g, 0, none⟩) 2 2] 51, hb.step ((Below.refl _ _).alloc (Nat.le_refl _) _)⟩) (fun e => absurd e (by decide)))
      · have e5 := hC 5 _ rfl (hw 5 (by kernel_rfl))
        refine inv_step (o := { dst := some 52, op := Go.Op.call { callee := Go.Callee.value (Go.Operand.func 8), args := #[Go.Operand.tmp 44, Go.Operand.tmp 51], argTypes := #[38, 26] }, type := 34, pos := "law.go:118", after := #[{ on := 1, ground := Go.Ground.data }, { on := 8, ground := Go.Ground.data }, { on := 5, ground := Go.Ground.chain }], guard := none }) (by rfl) (fun K2 hK => ?_)
        simp only [putTs, upd_ap, Act.put, List.setIfInBounds_toArray, List.set_cons_zero, List.set_cons_succ, Nat.reduceEqDiff, Nat.reduceAdd, reduceIte] at hK ⊢
        simp only [e5] at hK ⊢
        replace hK := Lib.hid hK
        have h14 := hV.not14 (i := 9) (by simp) hl
        obtain ⟨A1, c1, B1, d1, e1, r1, r2⟩ := (hV.2.2.2.1 h14).1 (hw 1 (by kernel_rfl))
        obtain ⟨g, h, e8, hh, hg⟩ := (hV.2.2.2.1 h14).2.2.2 (hw 8 (by kernel_rfl))
        have hK2 := hK.out
        simp only [e1, e8] at hK2 ⊢
        replace hK := Lib.hid hK2
        clear hK2
        have hch := HCH7.out w9 A1 c1 B1 d1 g h r1 r2 hV.1 hh hg
        go_simp
        go_wp2_with (go_at_call 8; (with_reducible refine hch.mono ?_); rintro e w8 ⟨rfl, hb⟩)
        exact hK.out _ _ (fun c hc => Option.some.inj (Option.some.inj hc)) ((hV.mv hb).pure (by decide) (by decide) (by decide) (by decide) (by decide) (by decide))
      · have e9 := hC 9 _ rfl (hw 9 (by kernel_rfl))
        refine inv_step (o := { dst := some 42, op := Go.Op.move (Go.Operand.tmp 52), type := 34, pos := "law.go:118", after := #[{ on := 9, ground := Go.Ground.data }], guard := none }) (by rfl) (fun K2 hK => ?_)
        simp only [putTs, upd_ap, Act.put, List.setIfInBounds_toArray, List.set_cons_zero, List.set_cons_succ, Nat.reduceEqDiff, Nat.reduceAdd, reduceIte] at hK ⊢
        simp only [e9] at hK ⊢
        replace hK := Lib.hid hK
        go_simp
        exact hK.out _ _ (fun c hc => Option.some.inj (Option.some.inj hc)) (hV.pure (by decide) (by decide) (by decide) (by decide) (by decide) (by decide))
      · have e10 := hC 10 _ rfl (hw 10 (by kernel_rfl))
        refine inv_step (o := { dst := some 53, op := Go.Op.extract (Go.Operand.tmp 42) 0, type := 32, pos := "law.go:118", after := #[{ on := 10, ground := Go.Ground.data }], guard := none }) (by rfl) (fun K2 hK => ?_)
        simp only [putTs, upd_ap, Act.put, List.setIfInBounds_toArray, List.set_cons_zero, List.set_cons_succ, Nat.reduceEqDiff, Nat.reduceAdd, reduceIte] at hK ⊢
        simp only [e10] at hK ⊢
        replace hK := Lib.hid hK
        go_simp
        exact hK.out _ _ (fun c hc => Option.some.inj (Option.some.inj hc)) (hV.pure (by decide) (by decide) (by decide) (by decide) (by decide) (by decide))
      · have e10 := hC 10 _ rfl (hw 10 (by kernel_rfl))
        refine inv_step (o := { dst := some 54, op := Go.Op.extract (Go.Operand.tmp 42) 1, type := 33, pos := "law.go:118", after := #[{ on := 10, ground := Go.Ground.data }, { on := 14, ground := Go.Ground.gcOnly Go.Departure.lateStores }], guard := none }) (by rfl) (fun K2 hK => ?_)
        simp only [putTs, upd_ap, Act.put, List.setIfInBounds_toArray, List.set_cons_zero, List.set_cons_succ, Nat.reduceEqDiff, Nat.reduceAdd, reduceIte] at hK ⊢
        simp only [e10] at hK ⊢
        replace hK := Lib.hid hK
        go_simp
        exact hK.out _ _ (fun c hc => Option.some.inj (Option.some.inj hc)) (hV.pure (by decide) (by decide) (by decide) (by decide) (by decide) (by decide))
      · refine inv_step (o := { dst := some 13, op := Go.Op.alloc 32, type := 0, pos := "law.go:118", after := #[], guard := none }) (by rfl) (fun K2 hK => ?_)
        simp only [putTs, upd_ap, Act.put, List.setIfInBounds_toArray, List.set_cons_zero, List.set_cons_succ, Nat.reduceEqDiff, Nat.reduceAdd, reduceIte] at hK ⊢
        replace hK := Lib.hid hK
        go_simp
        exact hK.out _ _ (fun c hc => by cases Option.some.inj hc) ((hV.mv ((Below.refl _ _).alloc (Nat.le_refl _) _)).put (by decide) (fun _ => hl) (fun e => absurd e (by decide)) (fun e => absurd e (by decide)) (fun e => absurd e (by decide)) (fun e => absurd e (by decide)) (fun _ => ⟨_, rfl, Box.new w9 #[.int .i64 0, .bool false, .int .i64 0, .int .i64 0, .string ⟨#[]⟩, .bool false, .bool false, .int .i64 0, .int .i64 0, .string ⟨#[]⟩, .bool false, .bool false] 32, hV.1.size, fun b hb => Nat.ne_of_lt (hV.2.1 b hb).lt⟩))
      · have e0 := hC 0 _ rfl (hw 0 (by kernel_rfl))
        have e2 := hC 2 _ rfl (hw 2 (by kernel_rfl))
        have e3 := hC 3 _ rfl (hw 3 (by kernel_rfl))
        have e4 := hC 4 _ rfl (hw 4 (by kernel_rfl))
        have e5 := hC 5 _ rfl (hw 5 (by kernel_rfl))
        have e9 := hC 9 _ rfl (hw 9 (by kernel_rfl))
        have e10 := hC 10 _ rfl (hw 10 (by kernel_rfl))
        have e11 := hC 11 _ rfl (hw 11 (by kernel_rfl))
        refine inv_step (o := { dst := none, op := Go.Op.store 32 (Go.Operand.tmp 13) (Go.Operand.tmp 53), type := 0, pos := "law.go:118", after := #[{ on := 13, ground := Go.Ground.data }, { on := 11, ground := Go.Ground.data }, { on := 9, ground := Go.Ground.chain }, { on := 0, ground := Go.Ground.phase }, { on := 1, ground := Go.Ground.phase }, { on := 2, ground := Go.Ground.phase }, { on := 3, ground := Go.Ground.phase }, { on := 4, ground := Go.Ground.phase }, { on := 5, ground := Go.Ground.phase }, { on := 6, ground := Go.Ground.phase }, { on := 7, ground := Go.Ground.phase }, { on := 8, ground := Go.Ground.phase }, { on := 9, ground := Go.Ground.phase }, { on := 10, ground := Go.Ground.phase }, { on := 11, ground := Go.Ground.phase }, { on := 12, ground := Go.Ground.textOnly Go.Departure.lateStores }, { on := 13, ground := Go.Ground.phase }], guard := none }) (by rfl) (fun K2 hK => ?_)
        simp only [putTs, upd_ap, Act.put, List.setIfInBounds_toArray, List.set_cons_zero, List.set_cons_succ, Nat.reduceEqDiff, Nat.reduceAdd, reduceIte] at hK ⊢
        simp only [e0, e2, e3, e4, e5, e9, e10, e11] at hK ⊢
        replace hK := Lib.hid hK
        obtain ⟨g, e13, hg, _, hgN, hgne⟩ := hV.2.2.2.2 (hw 13 (by kernel_rfl))
        have hgz := hg hl
        have HP := Lib.hid hgz
        clear hg hgz
        have hK2 := hK.out
        simp only [e13] at hK2 ⊢
        replace hK := Lib.hid hK2
        clear hK2
        have cHP0 := HP.out.c 0 _ rfl; have fHP0 := HP.out.f 0 (by simp); have cHP1 := HP.out.c 1 _ rfl; have fHP1 := HP.out.f 1 (by simp); have cHP2 := HP.out.c 2 _ rfl; have fHP2 := HP.out.f 2 (by simp); have cHP3 := HP.out.c 3 _ rfl; have fHP3 := HP.out.f 3 (by simp); have cHP4 := HP.out.c 4 _ rfl; have fHP4 := HP.out.f 4 (by simp); have cHP5 := HP.out.c 5 _ rfl; have fHP5 := HP.out.f 5 (by simp); have cHP6 := HP.out.c 6 _ rfl; have fHP6 := HP.out.f 6 (by simp); have cHP7 := HP.out.c 7 _ rfl; have fHP7 := HP.out.f 7 (by simp); have cHP8 := HP.out.c 8 _ rfl; have fHP8 := HP.out.f 8 (by simp); have cHP9 := HP.out.c 9 _ rfl; have fHP9 := HP.out.f 9 (by simp); have cHP10 := HP.out.c 10 _ rfl; have fHP10 := HP.out.f 10 (by simp); have cHP11 := HP.out.c 11 _ rfl; have fHP11 := HP.out.f 11 (by simp); have lHP := HP.out.lt
        go_simp
        clear cHP0 fHP0 cHP1 fHP1 cHP2 fHP2 cHP3 fHP3 cHP4 fHP4 cHP5 fHP5 cHP6 fHP6 cHP7 fHP7 cHP8 fHP8 cHP9 fHP9 cHP10 fHP10 cHP11 fHP11 lHP
        exact hK.out undef _ (fun c hc => by cases Option.some.inj hc) (hV.store hl (hw 1 (by kernel_rfl)) (hw 6 (by kernel_rfl)) (hw 7 (by kernel_rfl)) (hw 8 (by kernel_rfl)) (hw 9 (by kernel_rfl)) (hw 13 (by kernel_rfl)) e13)
      · have e0 := hC 0 _ rfl (hw 0 (by kernel_rfl))
        have e2 := hC 2 _ rfl (hw 2 (by kernel_rfl))
        have e3 := hC 3 _ rfl (hw 3 (by kernel_rfl))
        have e4 := hC 4 _ rfl (hw 4 (by kernel_rfl))
        have e5 := hC 5 _ rfl (hw 5 (by kernel_rfl))
        have e9 := hC 9 _ rfl (hw 9 (by kernel_rfl))
        have e10 := hC 10 _ rfl (hw 10 (by kernel_rfl))
        have e11 := hC 11 _ rfl (hw 11 (by kernel_rfl))
        have e12 := hC 12 _ rfl (hw 12 (by kernel_rfl))
        refine inv_step (o := { dst := some 14, op := Go.Op.assign (Go.Operand.tmp 54), type := 33, pos := "law.go:118", after := #[{ on := 12, ground := Go.Ground.data }, { on := 14, ground := Go.Ground.chain }, { on := 0, ground := Go.Ground.phase }, { on := 1, ground := Go.Ground.phase }, { on := 2, ground := Go.Ground.phase }, { on := 3, ground := Go.Ground.phase }, { on := 4, ground := Go.Ground.phase }, { on := 5, ground := Go.Ground.phase }, { on := 6, ground := Go.Ground.phase }, { on := 7, ground := Go.Ground.phase }, { on := 8, ground := Go.Ground.phase }, { on := 9, ground := Go.Ground.phase }, { on := 10, ground := Go.Ground.phase }, { on := 11, ground := Go.Ground.phase }, { on := 12, ground := Go.Ground.phase }, { on := 13, ground := Go.Ground.phase }, { on := 14, ground := Go.Ground.phase }], guard := none }) (by rfl) (fun K2 hK => ?_)
        simp only [putTs, upd_ap, Act.put, List.setIfInBounds_toArray, List.set_cons_zero, List.set_cons_succ, Nat.reduceEqDiff, Nat.reduceAdd, reduceIte] at hK ⊢
        simp only [e0, e2, e3, e4, e5, e9, e10, e11, e12] at hK ⊢
        replace hK := Lib.hid hK
        go_simp
        exact hK.out _ _ (fun c hc => Option.some.inj (Option.some.inj hc)) (hV.pure (by decide) (by decide) (by decide) (by decide) (by decide) (by decide))
    · intro ts w9 hC hV
      have e0 := hC 0 _ (by decide) rfl
      have e2 := hC 2 _ (by decide) rfl
      have e3 := hC 3 _ (by decide) rfl
      have e4 := hC 4 _ (by decide) rfl
      have e5 := hC 5 _ (by decide) rfl
      have e9 := hC 9 _ (by decide) rfl
      have e10 := hC 10 _ (by decide) rfl
      have e11 := hC 11 _ (by decide) rfl
      have e12 := hC 12 _ (by decide) rfl
      have e15 := hC 15 _ (by decide) rfl
      simp only [putTs, upd_ap, Act.put, List.setIfInBounds_toArray, List.set_cons_zero, List.set_cons_succ, Nat.reduceEqDiff, Nat.reduceAdd, reduceIte]
      simp only [e0, e2, e3, e4, e5, e9, e10, e11, e12, e15]
      obtain ⟨g, e13, _, hg, hgN, hgne⟩ := hV.2.2.2.2 rfl
      have hg := hg rfl
      have hBS := hV.2.1
      have hB0 := hV.1
      clear hV hC
      simp only [e13]
      clear e13 e0 e2 e3 e4 e5 e9 e10 e11 e12 e15
      refine any_stage ?_
      refine stage_done (by kernel_rfl) ?_ _
      go_wp2_with fail
      go_meet
      exact ⟨g, rfl, rfl, Lib.hid hg, Lib.hid hBS, Lib.hid hB0, hgN, Lib.hid hgne⟩
  clear HBS HB0 HPB hgne HCH7 HOFC
  obtain ⟨gq, rfl, rfl, HQ, HBS, HB0, hgq, hgne⟩ := hcut
  generalize wc = w9 at *
  have HP : Hid (Box w9 gp [.int .i64 R.ix, .bool R.lo.op, .int .i64 R.lo.v.k, .int .i64 R.lo.v.n, .string R.lo.v.s, .bool R.lo.inn, .bool R.hi.op, .int .i64 R.hi.v.k, .int .i64 R.hi.v.n, .string R.hi.v.s, .bool R.hi.inn, .bool R.emp]) := Lib.hid (HBS.out (gp, _) (by simp))
  have HFo := HB0.out
  clear HBS hgne HB0
  have cHP0 := HP.out.c 0 _ rfl; have fHP0 := HP.out.f 0 (by simp); have cHP1 := HP.out.c 1 _ rfl; have fHP1 := HP.out.f 1 (by simp); have cHP2 := HP.out.c 2 _ rfl; have fHP2 := HP.out.f 2 (by simp); have cHP3 := HP.out.c 3 _ rfl; have fHP3 := HP.out.f 3 (by simp); have cHP4 := HP.out.c 4 _ rfl; have fHP4 := HP.out.f 4 (by simp); have cHP5 := HP.out.c 5 _ rfl; have fHP5 := HP.out.f 5 (by simp); have cHP6 := HP.out.c 6 _ rfl; have fHP6 := HP.out.f 6 (by simp); have cHP7 := HP.out.c 7 _ rfl; have fHP7 := HP.out.f 7 (by simp); have cHP8 := HP.out.c 8 _ rfl; have fHP8 := HP.out.f 8 (by simp); have cHP9 := HP.out.c 9 _ rfl; have fHP9 := HP.out.f 9 (by simp); have cHP10 := HP.out.c 10 _ rfl; have fHP10 := HP.out.f 10 (by simp); have cHP11 := HP.out.c 11 _ rfl; have fHP11 := HP.out.f 11 (by simp); have lHP := HP.out.lt; have cHQ0 := HQ.out.c 0 _ rfl; have fHQ0 := HQ.out.f 0 (by simp); have cHQ1 := HQ.out.c 1 _ rfl; have fHQ1 := HQ.out.f 1 (by simp); have cHQ2 := HQ.out.c 2 _ rfl; have fHQ2 := HQ.out.f 2 (by simp); have cHQ3 := HQ.out.c 3 _ rfl; have fHQ3 := HQ.out.f 3 (by simp); have cHQ4 := HQ.out.c 4 _ rfl; have fHQ4 := HQ.out.f 4 (by simp); have cHQ5 := HQ.out.c 5 _ rfl; have fHQ5 := HQ.out.f 5 (by simp); have cHQ6 := HQ.out.c 6 _ rfl; have fHQ6 := HQ.out.f 6 (by simp); have cHQ7 := HQ.out.c 7 _ rfl; have fHQ7 := HQ.out.f 7 (by simp); have cHQ8 := HQ.out.c 8 _ rfl; have fHQ8 := HQ.out.f 8 (by simp); have cHQ9 := HQ.out.c 9 _ rfl; have fHQ9 := HQ.out.f 9 (by simp); have cHQ10 := HQ.out.c 10 _ rfl; have fHQ10 := HQ.out.f 10 (by simp); have cHQ11 := HQ.out.c 11 _ rfl; have fHQ11 := HQ.out.f 11 (by simp); have lHQ := HQ.out.lt
  go_wp2
  go_ret
  exact ⟨rfl, HFo⟩
end Go.Proofs.Ytfmfmammcjpboaa
