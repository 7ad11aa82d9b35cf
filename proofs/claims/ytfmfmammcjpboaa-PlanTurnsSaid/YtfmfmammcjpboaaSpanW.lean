/- plan.span: what all conditions about an index's column let in. -/
import Derived.Test.YtfmfmammcjpboaaCondW
import Derived.Test.YtfmfmammcjpboaaMeetW2
import Derived.Test.YtfmfmammcjpboaaHasW
namespace Go.Proofs.Ytfmfmammcjpboaa
open Go.RowKit Go.Shelf
set_option linter.unusedVariables false
set_option linter.unusedSimpArgs false
attribute [local go_sem] Oper.semAt_some
theorem meet_P (p q : Pl) (w : World) : Calls Try.prog 15 #[aggP p, aggP q] w fun e w' => e = .returned (aggP (meetP p q)) ∧ Below w.heap.size w w' := by
  obtain ⟨ax, ⟨alo, ⟨alk, aln, als⟩, ali⟩, ⟨aho, ⟨ahk, ahn, ahs⟩, ahi⟩, ae⟩ := p
  obtain ⟨bx, ⟨blo, ⟨blk, bln, bls⟩, bli⟩, ⟨bho, ⟨bhk, bhn, bhs⟩, bhi⟩, be⟩ := q
  exact meet_any ax alo alk aln als ali aho ahk ahn ahs ahi ae bx blo blk bln bls bli bho bhk bhn bhs bhi be w
def allP (ix : Int) : Pl := ⟨ix, ⟨true, ⟨0, 0, nos⟩, false⟩, ⟨true, ⟨0, 0, nos⟩, false⟩, false⟩
def spanP (ask : Eh → Pl × Bool) (ix : Int) (L : List Eh) : Pl := L.foldl (fun p x => if (ask x).2 then meetP p (ask x).1 else p) (allP ix)
theorem spanP_snoc (ask : Eh → Pl × Bool) (ix : Int) (L : List Eh) (x : Eh) : spanP ask ix (L ++ [x]) = if (ask x).2 then meetP (spanP ask ix L) (ask x).1 else spanP ask ix L := by simp [spanP]
def planCells (p : Pl) : List Value := [.int .i64 p.ix, .bool p.lo.op, .int .i64 p.lo.v.k, .int .i64 p.lo.v.n, .string p.lo.v.s, .bool p.lo.inn, .bool p.hi.op, .int .i64 p.hi.v.k, .int .i64 p.hi.v.n, .string p.hi.v.s, .bool p.hi.inn, .bool p.emp]
theorem KpS.of_below {pb : Nat} {W W' : World} (h : Below W.heap.size W W') : KpS pb W W' := ⟨h.size, fun k o _ ho _ => (h.block k (Array.getElem?_eq_some_iff.1 ho).1).trans ho⟩
theorem KpS.set {pb : Nat} (W : World) (j : Nat) (v : Value) : KpS pb W (W.setCell ⟨pb, j, none⟩ v) := ⟨by simp, fun k o hk ho _ => (Below.heap_setCell _ _ _ _ (fun e => hk (by simpa using e))).trans ho⟩
theorem KeepsFrom.of_below {B : Nat} {W W' : World} (h : Below W.heap.size W W') : KeepsFrom B W W' := ⟨h.size, fun k o _ ho _ => (h.block k (Array.getElem?_eq_some_iff.1 ho).1).trans ho⟩
theorem Box.cells {W : World} {b : Nat} {v : Value} {vs : List Value} (h : Box W b (v :: vs)) : ∃ o : Obj, W.heap[b]? = some o ∧ o.isCells = true := by
  have hc := h.c 0 _ rfl
  cases ho : W.heap[b]? with
  | none => simp [World.cell?, ho] at hc
  | some o =>
    cases o <;> first
      | exact ⟨_, rfl, rfl⟩
      | (simp [World.cell?, ho] at hc; done)
theorem box_ownFrom {B b : Nat} {W W' : World} {row : Option Nat} {v : Value} {vs : List Value} (h : Box W b (v :: vs)) (hg : W.grownBy W' row) (hr : ∀ r, row = some r → B ≤ r ∧ ∃ o : Obj, W.heap[r]? = some o ∧ o.isCells = false) : Box W' b (v :: vs) :=
  h.grown hg (fun e => by
    obtain ⟨_, o, ho, hc⟩ := hr b e.symm
    obtain ⟨o', ho', hc'⟩ := h.cells
    rw [ho] at ho'
    obtain rfl := Option.some.inj ho'
    rw [hc] at hc'; cases hc')
theorem keepsFrom_puts12 {B : Nat} (w : World) (pb : Nat) (v0 v1 v2 v3 v4 v5 v6 v7 v8 v9 v10 v11 : Value) : KeepsFrom B w ((((((((((((w.setCell ⟨pb, 0, none⟩ v0).setCell ⟨pb, 1, none⟩ v1).setCell ⟨pb, 2, none⟩ v2).setCell ⟨pb, 3, none⟩ v3).setCell ⟨pb, 4, none⟩ v4).setCell ⟨pb, 5, none⟩ v5).setCell ⟨pb, 6, none⟩ v6).setCell ⟨pb, 7, none⟩ v7).setCell ⟨pb, 8, none⟩ v8).setCell ⟨pb, 9, none⟩ v9).setCell ⟨pb, 10, none⟩ v10).setCell ⟨pb, 11, none⟩ v11) := by
  have h := KeepsOthers.refl w
  replace h := h.trans (KeepsOthers.setCell _ ⟨pb, 0, none⟩ v0)
  replace h := h.trans (KeepsOthers.setCell _ ⟨pb, 1, none⟩ v1)
  replace h := h.trans (KeepsOthers.setCell _ ⟨pb, 2, none⟩ v2)
  replace h := h.trans (KeepsOthers.setCell _ ⟨pb, 3, none⟩ v3)
  replace h := h.trans (KeepsOthers.setCell _ ⟨pb, 4, none⟩ v4)
  replace h := h.trans (KeepsOthers.setCell _ ⟨pb, 5, none⟩ v5)
  replace h := h.trans (KeepsOthers.setCell _ ⟨pb, 6, none⟩ v6)
  replace h := h.trans (KeepsOthers.setCell _ ⟨pb, 7, none⟩ v7)
  replace h := h.trans (KeepsOthers.setCell _ ⟨pb, 8, none⟩ v8)
  replace h := h.trans (KeepsOthers.setCell _ ⟨pb, 9, none⟩ v9)
  replace h := h.trans (KeepsOthers.setCell _ ⟨pb, 10, none⟩ v10)
  replace h := h.trans (KeepsOthers.setCell _ ⟨pb, 11, none⟩ v11)
  exact h.from B
theorem kps_puts12 (w : World) (pb : Nat) (v0 v1 v2 v3 v4 v5 v6 v7 v8 v9 v10 v11 : Value) : KpS pb w ((((((((((((w.setCell ⟨pb, 0, none⟩ v0).setCell ⟨pb, 1, none⟩ v1).setCell ⟨pb, 2, none⟩ v2).setCell ⟨pb, 3, none⟩ v3).setCell ⟨pb, 4, none⟩ v4).setCell ⟨pb, 5, none⟩ v5).setCell ⟨pb, 6, none⟩ v6).setCell ⟨pb, 7, none⟩ v7).setCell ⟨pb, 8, none⟩ v8).setCell ⟨pb, 9, none⟩ v9).setCell ⟨pb, 10, none⟩ v10).setCell ⟨pb, 11, none⟩ v11) := by
  have h := KpS.refl pb w
  replace h := h.trans (KpS.set _ 0 v0)
  replace h := h.trans (KpS.set _ 1 v1)
  replace h := h.trans (KpS.set _ 2 v2)
  replace h := h.trans (KpS.set _ 3 v3)
  replace h := h.trans (KpS.set _ 4 v4)
  replace h := h.trans (KpS.set _ 5 v5)
  replace h := h.trans (KpS.set _ 6 v6)
  replace h := h.trans (KpS.set _ 7 v7)
  replace h := h.trans (KpS.set _ 8 v8)
  replace h := h.trans (KpS.set _ 9 v9)
  replace h := h.trans (KpS.set _ 10 v10)
  replace h := h.trans (KpS.set _ 11 v11)
  exact h
set_option maxRecDepth 100000 in
set_option maxHeartbeats 8000000 in
theorem span_any (T : Tr) (ix at1 kind : Int) (ask : Eh → Pl × Bool) (w : World) (hT : IsTr w.heap.size w T)
    (hA : ∀ x ∈ T.leaves, ∀ W, Below w.heap.size w W → Calls Try.prog 52 #[aggE x, .int .i64 at1, .int .i64 kind] W fun e W' => e = .returned (.tuple #[aggP (ask x).1, .bool (ask x).2]) ∧ Below W.heap.size W W') :
    Calls Try.prog 26 #[aggE T.head, .int .i64 ix, .int .i64 at1, .int .i64 kind] w fun e w' => e = .returned (aggP (spanP ask ix T.leaves)) ∧ Below w.heap.size w w' := by
  have hmf : ∀ (fn : Fn) (first cap : Array Value) (w : World), (Instr.makeFunc fn first cap).run Try.prog w = .ok (.func fn first cap) w := fun _ _ _ _ => rfl
  have hal := fun W => all_any ix W
  have hE : aggE T.head = .agg #[.int .i64 T.head.op, .int .i64 T.head.v.k, .int .i64 T.head.v.n, .string T.head.v.s, .string T.head.tb, .string T.head.nm, .slice T.head.A T.head.len T.head.c] := rfl
  rw [hE]
  unfold aggP at hal
  dsimp only at hal
  refine (callsIn_wide (n := 5)).1 ?_
  refine callsIn_of_wp_marks Try.func26 rfl trivial ?_ rfl
  simp only [Try.ntmps26, List.size_toArray, List.length_cons, List.length_nil, Nat.reduceAdd, Nat.reduceSub, Array.replicate_succ, Array.replicate_zero, List.push_toArray, List.append_toArray, List.nil_append, List.cons_append]
  gi_wp2_with fail
  have BE := Lib.hid ((((Box.new w #[.int .i64 T.head.op, .int .i64 T.head.v.k, .int .i64 T.head.v.n, .string T.head.v.s, .string T.head.tb, .string T.head.nm, .slice T.head.A T.head.len T.head.c] 51).alloc (.cells #[.int .i64 at1] 3)).alloc (.cells #[.int .i64 kind] 3)).alloc (.cells #[.int .i64 0, .bool false, .int .i64 0, .int .i64 0, .string ⟨#[]⟩, .bool false, .bool false, .int .i64 0, .int .i64 0, .string ⟨#[]⟩, .bool false, .bool false] 32))
  have BA := Lib.hid (((Box.new (w.alloc (.cells #[.int .i64 T.head.op, .int .i64 T.head.v.k, .int .i64 T.head.v.n, .string T.head.v.s, .string T.head.tb, .string T.head.nm, .slice T.head.A T.head.len T.head.c] 51)) #[.int .i64 at1] 3).alloc (.cells #[.int .i64 kind] 3)).alloc (.cells #[.int .i64 0, .bool false, .int .i64 0, .int .i64 0, .string ⟨#[]⟩, .bool false, .bool false, .int .i64 0, .int .i64 0, .string ⟨#[]⟩, .bool false, .bool false] 32))
  have BK := Lib.hid ((Box.new ((w.alloc (.cells #[.int .i64 T.head.op, .int .i64 T.head.v.k, .int .i64 T.head.v.n, .string T.head.v.s, .string T.head.tb, .string T.head.nm, .slice T.head.A T.head.len T.head.c] 51)).alloc (.cells #[.int .i64 at1] 3)) #[.int .i64 kind] 3).alloc (.cells #[.int .i64 0, .bool false, .int .i64 0, .int .i64 0, .string ⟨#[]⟩, .bool false, .bool false, .int .i64 0, .int .i64 0, .string ⟨#[]⟩, .bool false, .bool false] 32))
  have BR := Lib.hid (Box.new (((w.alloc (.cells #[.int .i64 T.head.op, .int .i64 T.head.v.k, .int .i64 T.head.v.n, .string T.head.v.s, .string T.head.tb, .string T.head.nm, .slice T.head.A T.head.len T.head.c] 51)).alloc (.cells #[.int .i64 at1] 3)).alloc (.cells #[.int .i64 kind] 3)) #[.int .i64 0, .bool false, .int .i64 0, .int .i64 0, .string ⟨#[]⟩, .bool false, .bool false, .int .i64 0, .int .i64 0, .string ⟨#[]⟩, .bool false, .bool false] 32)
  have HF : Hid (Below w.heap.size w ((((w.alloc (.cells #[.int .i64 T.head.op, .int .i64 T.head.v.k, .int .i64 T.head.v.n, .string T.head.v.s, .string T.head.tb, .string T.head.nm, .slice T.head.A T.head.len T.head.c] 51)).alloc (.cells #[.int .i64 at1] 3)).alloc (.cells #[.int .i64 kind] 3)).alloc (.cells #[.int .i64 0, .bool false, .int .i64 0, .int .i64 0, .string ⟨#[]⟩, .bool false, .bool false, .int .i64 0, .int .i64 0, .string ⟨#[]⟩, .bool false, .bool false] 32))) := Lib.hid (by (repeat (first | (with_reducible exact Below.refl _ _) | apply below_alloc _ (Nat.le_refl _) | refine below_set ?_ (by first | exact Nat.le_refl _ | omega) | apply below_drewN | refine below_step ?_ HB)))
  have hs4 : ((((w.alloc (.cells #[.int .i64 T.head.op, .int .i64 T.head.v.k, .int .i64 T.head.v.n, .string T.head.v.s, .string T.head.tb, .string T.head.nm, .slice T.head.A T.head.len T.head.c] 51)).alloc (.cells #[.int .i64 at1] 3)).alloc (.cells #[.int .i64 kind] 3)).alloc (.cells #[.int .i64 0, .bool false, .int .i64 0, .int .i64 0, .string ⟨#[]⟩, .bool false, .bool false, .int .i64 0, .int .i64 0, .string ⟨#[]⟩, .bool false, .bool false] 32)).heap.size = w.heap.size + 1 + 1 + 1 + 1 := by simp
  simp only [World.size_alloc] at BA BK BR
  generalize ((((w.alloc (.cells #[.int .i64 T.head.op, .int .i64 T.head.v.k, .int .i64 T.head.v.n, .string T.head.v.s, .string T.head.tb, .string T.head.nm, .slice T.head.A T.head.len T.head.c] 51)).alloc (.cells #[.int .i64 at1] 3)).alloc (.cells #[.int .i64 kind] 3)).alloc (.cells #[.int .i64 0, .bool false, .int .i64 0, .int .i64 0, .string ⟨#[]⟩, .bool false, .bool false, .int .i64 0, .int .i64 0, .string ⟨#[]⟩, .bool false, .bool false] 32)) = w4 at *
  refine ⟨trivial, ?_⟩
  gi_at_call 23
  refine (callsIn_wide.2 (hal w4)).mono ?_
  rintro e w5 ⟨rfl, h5⟩
  replace BE := Lib.hid ((BE.out.step h5).alloc (.cells #[.int .i64 ix, .bool true, .int .i64 0, .int .i64 0, .string nos, .bool false, .bool true, .int .i64 0, .int .i64 0, .string nos, .bool false, .bool false] 32))
  replace BA := Lib.hid ((BA.out.step h5).alloc (.cells #[.int .i64 ix, .bool true, .int .i64 0, .int .i64 0, .string nos, .bool false, .bool true, .int .i64 0, .int .i64 0, .string nos, .bool false, .bool false] 32))
  replace BK := Lib.hid ((BK.out.step h5).alloc (.cells #[.int .i64 ix, .bool true, .int .i64 0, .int .i64 0, .string nos, .bool false, .bool true, .int .i64 0, .int .i64 0, .string nos, .bool false, .bool false] 32))
  replace BR := Lib.hid ((BR.out.step h5).alloc (.cells #[.int .i64 ix, .bool true, .int .i64 0, .int .i64 0, .string nos, .bool false, .bool true, .int .i64 0, .int .i64 0, .string nos, .bool false, .bool false] 32))
  have BP := Lib.hid (Box.new w5 #[.int .i64 ix, .bool true, .int .i64 0, .int .i64 0, .string nos, .bool false, .bool true, .int .i64 0, .int .i64 0, .string nos, .bool false, .bool false] 32)
  have hs5 := h5.size
  replace HF := Lib.hid ((below_step' HF.out h5).alloc (by omega) (.cells #[.int .i64 ix, .bool true, .int .i64 0, .int .i64 0, .string nos, .bool false, .bool true, .int .i64 0, .int .i64 0, .string nos, .bool false, .bool false] 32))
  have hsl : (w5.alloc (.cells #[.int .i64 ix, .bool true, .int .i64 0, .int .i64 0, .string nos, .bool false, .bool true, .int .i64 0, .int .i64 0, .string nos, .bool false, .bool false] 32)).heap.size = w5.heap.size + 1 := by simp
  clear h5 hal
  gi_wp2
  generalize w5.alloc (.cells #[.int .i64 ix, .bool true, .int .i64 0, .int .i64 0, .string nos, .bool false, .bool true, .int .i64 0, .int .i64 0, .string nos, .bool false, .bool false] 32) = wl at *
  generalize w5.heap.size = pb at *
  have hpN : w.heap.size + 4 ≤ pb := by omega
  clear hs5 hs4
  refine wpIn_rangeFunc_ownH rfl (by decide) (gf := 50) (lb := #[.pointer (some ⟨w.heap.size, 0, none⟩)]) rfl trivial (enters_of Try.func50 (by kernel_rfl) rfl)
    (span_stops Fence.wide rfl 4 trivial trivial rfl w.heap.size w.heap.size pb (by omega) T wl BE.out (by omega) (hT.below HF.out) (by omega)) (fun h k => h.trans k) (fun W l o o' _ hl hc _ => KpS.putObj W l o o' hl hc) (Below.refl _ _) (fun _ => rfl)
    (fun pre W => Box W pb (planCells (spanP ask ix (pre.map (·.1)))) ∧ Box W (w.heap.size + 1) [.int .i64 at1] ∧ Box W (w.heap.size + 1 + 1) [.int .i64 kind] ∧ Box W (w.heap.size + 1 + 1 + 1) [.int .i64 0, .bool false, .int .i64 0, .int .i64 0, .string ⟨#[]⟩, .bool false, .bool false, .int .i64 0, .int .i64 0, .string ⟨#[]⟩, .bool false, .bool false] ∧ Below w.heap.size w W ∧ wl.heap.size ≤ W.heap.size)
    (fun _ _ _ => False)
    (fun s A B row hs hg hr => ⟨box_ownFrom hs.1 hg hr, box_ownFrom hs.2.1 hg hr, box_ownFrom hs.2.2.1 hg hr, box_ownFrom hs.2.2.2.1 hg hr, hs.2.2.2.2.1.grown hg hs.2.2.2.2.1.size (fun k hk => by have := (hr k hk).1; omega), Nat.le_trans hs.2.2.2.2.2 hg.size⟩)
    (fun _ _ _ _ _ hs _ _ => hs)
    ⟨BP.out, BA.out, BK.out, BR.out, HF.out, Nat.le_refl _⟩
    (fun x a' W => ∃ Bx, wl.heap.size ≤ Bx ∧ Box W Bx (cellsE x.1) ∧ a' = { tmps := #[.agg #[.int .i64 T.head.op, .int .i64 T.head.v.k, .int .i64 T.head.v.n, .string T.head.v.s, .string T.head.tb, .string T.head.nm, .slice T.head.A T.head.len T.head.c], .int .i64 ix, .int .i64 at1, .int .i64 kind, .pointer (some ⟨w.heap.size, 0, none⟩), undef, .pointer (some ⟨w.heap.size + 1, 0, none⟩), .pointer (some ⟨w.heap.size + 1 + 1, 0, none⟩), .pointer (some ⟨w.heap.size + 1 + 1 + 1, 0, none⟩), .pointer (some ⟨pb, 0, none⟩), .pointer (some ⟨Bx, 0, none⟩), undef, undef, .int .i64 ix, .agg #[.int .i64 ix, .bool true, .int .i64 0, .int .i64 0, .string nos, .bool false, .bool true, .int .i64 0, .int .i64 0, .string nos, .bool false, .bool false], .func (.func 50) #[] #[.pointer (some ⟨w.heap.size, 0, none⟩)], aggE x.1, undef, undef, undef, undef, undef, undef, undef, undef, undef, undef, undef, undef], defers := [] })
    (fun x a' s A B row hs hg hr => by obtain ⟨Bx, h1, h2, h3⟩ := hs; exact ⟨Bx, h1, box_ownFrom h2 hg hr, h3⟩)
    ?assign ?body ?done ?stop
  case assign =>
    rintro l pre ⟨⟨xop, xv, xtb, xnm, xA, xlen, xc⟩, hxm⟩ W K ⟨HP, HA1, HK1, HR1, HF1, hwl⟩ hK
    unfold aggE cellsE at hK
    unfold aggE
    dsimp only at hK ⊢
    gi_wp2
    exact hK _ _ ((KeepsOthers.alloc _ _).from _) (KpS.alloc pb W _) ⟨HP.alloc _, HA1.alloc _, HK1.alloc _, HR1.alloc _, HF1.alloc HF1.size _, by simp; omega⟩ ⟨W.heap.size, hwl, Box.new W #[.int .i64 xop, .int .i64 xv.k, .int .i64 xv.n, .string xv.s, .string xtb, .string xnm, .slice xA xlen xc] _, rfl⟩
  case body =>
    rintro l pre ⟨x, hxm⟩ a' W hl hr ⟨HP, HA1, HK1, HR1, HF1, hwl⟩ ⟨Bx, hBx, bX, rfl⟩ hlt
    have hask := hA x hxm W HF1
    have hmeet := fun W' => meet_P (spanP ask ix (pre.map (·.1))) (ask x).1 W'
    have hsn : spanP ask ix ((pre ++ [(⟨x, hxm⟩ : {x : Eh // x ∈ T.leaves})]).map (·.1)) = if (ask x).2 then meetP (spanP ask ix (pre.map (·.1))) (ask x).1 else spanP ask ix (pre.map (·.1)) := by
      rw [List.map_append]; exact spanP_snoc ..
    have HSN := Lib.hid hsn
    clear hsn hA
    generalize spanP ask ix (pre.map (·.1)) = P at *
    generalize ask x = q at *
    obtain ⟨Q, qb⟩ := q
    generalize hMP : meetP P Q = M at *
    clear hMP
    obtain ⟨xop, xv, xtb, xnm, xA, xlen, xc⟩ := x
    unfold aggE at hask
    unfold cellsE at bX
    unfold aggE
    unfold aggP at hask hmeet
    unfold planCells at HP
    dsimp only at hask hmeet bX HP ⊢
    have x0 := bX.c 0 _ rfl
    have x1 := bX.c 1 _ rfl
    have x2 := bX.c 2 _ rfl
    have x3 := bX.c 3 _ rfl
    have x4 := bX.c 4 _ rfl
    have x5 := bX.c 5 _ rfl
    have x6 := bX.c 6 _ rfl
    have y0 := HA1.c 0 _ rfl
    have z0 := HK1.c 0 _ rfl
    gi_wp2_with fail
    refine ⟨trivial, ?_⟩
    gi_at_call 52
    refine (CallsIn.inRound l (callsIn_wide.2 hask)).mono ?_
    rintro e W1 ⟨rfl, h1⟩
    have HP1 := Lib.hid (HP.step h1)
    have HA2 := Lib.hid (HA1.step h1)
    have HK2 := Lib.hid (HK1.step h1)
    have HR2 := Lib.hid (HR1.step h1)
    have HF2 := Lib.hid (below_step' HF1 h1)
    have hs1 := h1.size
    have KF1 := KeepsFrom.of_below (B := wl.heap.size) h1
    have KP1 := KpS.of_below (pb := pb) h1
    clear x0 x1 x2 x3 x4 x5 x6 y0 z0 hask bX HP HA1 HK1 HR1 HF1 h1 hT
    cases qb
    · gi_wp2
      refine ⟨KF1.trans ((KeepsOthers.alloc _ _).from _), KP1.trans (KpS.alloc pb W1 _), ?_⟩
      exact ⟨(by show Box _ pb (planCells (spanP ask ix _)); rw [HSN.out]; exact HP1.out.alloc _), HA2.out.alloc _, HK2.out.alloc _, HR2.out.alloc _, HF2.out.alloc HF2.out.size _, by simp; omega⟩
    · have cHP10 := HP1.out.c 0 _ rfl; have fHP10 := HP1.out.f 0 (by simp); have cHP11 := HP1.out.c 1 _ rfl; have fHP11 := HP1.out.f 1 (by simp); have cHP12 := HP1.out.c 2 _ rfl; have fHP12 := HP1.out.f 2 (by simp); have cHP13 := HP1.out.c 3 _ rfl; have fHP13 := HP1.out.f 3 (by simp); have cHP14 := HP1.out.c 4 _ rfl; have fHP14 := HP1.out.f 4 (by simp); have cHP15 := HP1.out.c 5 _ rfl; have fHP15 := HP1.out.f 5 (by simp); have cHP16 := HP1.out.c 6 _ rfl; have fHP16 := HP1.out.f 6 (by simp); have cHP17 := HP1.out.c 7 _ rfl; have fHP17 := HP1.out.f 7 (by simp); have cHP18 := HP1.out.c 8 _ rfl; have fHP18 := HP1.out.f 8 (by simp); have cHP19 := HP1.out.c 9 _ rfl; have fHP19 := HP1.out.f 9 (by simp); have cHP110 := HP1.out.c 10 _ rfl; have fHP110 := HP1.out.f 10 (by simp); have cHP111 := HP1.out.c 11 _ rfl; have fHP111 := HP1.out.f 11 (by simp); have lHP1 := HP1.out.lt
      gi_wp2_with fail
      clear cHP10 fHP10 cHP11 fHP11 cHP12 fHP12 cHP13 fHP13 cHP14 fHP14 cHP15 fHP15 cHP16 fHP16 cHP17 fHP17 cHP18 fHP18 cHP19 fHP19 cHP110 fHP110 cHP111 fHP111 lHP1
      have HP3 := Lib.hid (HP1.out.alloc (.cells #[.int .i64 Q.ix, .bool Q.lo.op, .int .i64 Q.lo.v.k, .int .i64 Q.lo.v.n, .string Q.lo.v.s, .bool Q.lo.inn, .bool Q.hi.op, .int .i64 Q.hi.v.k, .int .i64 Q.hi.v.n, .string Q.hi.v.s, .bool Q.hi.inn, .bool Q.emp] 32))
      have HA3 := Lib.hid (HA2.out.alloc (.cells #[.int .i64 Q.ix, .bool Q.lo.op, .int .i64 Q.lo.v.k, .int .i64 Q.lo.v.n, .string Q.lo.v.s, .bool Q.lo.inn, .bool Q.hi.op, .int .i64 Q.hi.v.k, .int .i64 Q.hi.v.n, .string Q.hi.v.s, .bool Q.hi.inn, .bool Q.emp] 32))
      have HK3 := Lib.hid (HK2.out.alloc (.cells #[.int .i64 Q.ix, .bool Q.lo.op, .int .i64 Q.lo.v.k, .int .i64 Q.lo.v.n, .string Q.lo.v.s, .bool Q.lo.inn, .bool Q.hi.op, .int .i64 Q.hi.v.k, .int .i64 Q.hi.v.n, .string Q.hi.v.s, .bool Q.hi.inn, .bool Q.emp] 32))
      have HR3 := Lib.hid (HR2.out.alloc (.cells #[.int .i64 Q.ix, .bool Q.lo.op, .int .i64 Q.lo.v.k, .int .i64 Q.lo.v.n, .string Q.lo.v.s, .bool Q.lo.inn, .bool Q.hi.op, .int .i64 Q.hi.v.k, .int .i64 Q.hi.v.n, .string Q.hi.v.s, .bool Q.hi.inn, .bool Q.emp] 32))
      have HF3 := Lib.hid (HF2.out.alloc HF2.out.size (.cells #[.int .i64 Q.ix, .bool Q.lo.op, .int .i64 Q.lo.v.k, .int .i64 Q.lo.v.n, .string Q.lo.v.s, .bool Q.lo.inn, .bool Q.hi.op, .int .i64 Q.hi.v.k, .int .i64 Q.hi.v.n, .string Q.hi.v.s, .bool Q.hi.inn, .bool Q.emp] 32))
      have KF3 := KF1.trans ((KeepsOthers.alloc W1 (.cells #[.int .i64 Q.ix, .bool Q.lo.op, .int .i64 Q.lo.v.k, .int .i64 Q.lo.v.n, .string Q.lo.v.s, .bool Q.lo.inn, .bool Q.hi.op, .int .i64 Q.hi.v.k, .int .i64 Q.hi.v.n, .string Q.hi.v.s, .bool Q.hi.inn, .bool Q.emp] 32)).from _)
      have KP3 := KP1.trans (KpS.alloc pb W1 (.cells #[.int .i64 Q.ix, .bool Q.lo.op, .int .i64 Q.lo.v.k, .int .i64 Q.lo.v.n, .string Q.lo.v.s, .bool Q.lo.inn, .bool Q.hi.op, .int .i64 Q.hi.v.k, .int .i64 Q.hi.v.n, .string Q.hi.v.s, .bool Q.hi.inn, .bool Q.emp] 32))
      have hs3 : W.heap.size ≤ (W1.alloc (.cells #[.int .i64 Q.ix, .bool Q.lo.op, .int .i64 Q.lo.v.k, .int .i64 Q.lo.v.n, .string Q.lo.v.s, .bool Q.lo.inn, .bool Q.hi.op, .int .i64 Q.hi.v.k, .int .i64 Q.hi.v.n, .string Q.hi.v.s, .bool Q.hi.inn, .bool Q.emp] 32)).heap.size := by simp; omega
      generalize (W1.alloc (.cells #[.int .i64 Q.ix, .bool Q.lo.op, .int .i64 Q.lo.v.k, .int .i64 Q.lo.v.n, .string Q.lo.v.s, .bool Q.lo.inn, .bool Q.hi.op, .int .i64 Q.hi.v.k, .int .i64 Q.hi.v.n, .string Q.hi.v.s, .bool Q.hi.inn, .bool Q.emp] 32)) = W3 at *
      refine ⟨trivial, ?_⟩
      gi_at_call 15
      refine (CallsIn.inRound l (callsIn_wide.2 (hmeet W3))).mono ?_
      rintro e W4 ⟨rfl, h4⟩
      have HP5 := Lib.hid (HP3.out.step h4)
      have HA5 := Lib.hid (HA3.out.step h4)
      have HK5 := Lib.hid (HK3.out.step h4)
      have HR5 := Lib.hid (HR3.out.step h4)
      have HF5 := Lib.hid (below_step' HF3.out h4)
      have KF5 := KF3.trans (KeepsFrom.of_below h4)
      have KP5 := KP3.trans (KpS.of_below h4)
      have hs5 := h4.size
      clear h4 hmeet KF3 KP3 KF1 KP1 HP1 HA2 HK2 HR2 HF2 HP3 HA3 HK3 HR3 HF3
      have cHP50 := HP5.out.c 0 _ rfl; have fHP50 := HP5.out.f 0 (by simp); have cHP51 := HP5.out.c 1 _ rfl; have fHP51 := HP5.out.f 1 (by simp); have cHP52 := HP5.out.c 2 _ rfl; have fHP52 := HP5.out.f 2 (by simp); have cHP53 := HP5.out.c 3 _ rfl; have fHP53 := HP5.out.f 3 (by simp); have cHP54 := HP5.out.c 4 _ rfl; have fHP54 := HP5.out.f 4 (by simp); have cHP55 := HP5.out.c 5 _ rfl; have fHP55 := HP5.out.f 5 (by simp); have cHP56 := HP5.out.c 6 _ rfl; have fHP56 := HP5.out.f 6 (by simp); have cHP57 := HP5.out.c 7 _ rfl; have fHP57 := HP5.out.f 7 (by simp); have cHP58 := HP5.out.c 8 _ rfl; have fHP58 := HP5.out.f 8 (by simp); have cHP59 := HP5.out.c 9 _ rfl; have fHP59 := HP5.out.f 9 (by simp); have cHP510 := HP5.out.c 10 _ rfl; have fHP510 := HP5.out.f 10 (by simp); have cHP511 := HP5.out.c 11 _ rfl; have fHP511 := HP5.out.f 11 (by simp); have lHP5 := HP5.out.lt
      gi_wp2
      exact ⟨KF5.trans (keepsFrom_puts12 _ _ (.int .i64 M.ix) (.bool M.lo.op) (.int .i64 M.lo.v.k) (.int .i64 M.lo.v.n) (.string M.lo.v.s) (.bool M.lo.inn) (.bool M.hi.op) (.int .i64 M.hi.v.k) (.int .i64 M.hi.v.n) (.string M.hi.v.s) (.bool M.hi.inn) (.bool M.emp)), KP5.trans (kps_puts12 _ _ (.int .i64 M.ix) (.bool M.lo.op) (.int .i64 M.lo.v.k) (.int .i64 M.lo.v.n) (.string M.lo.v.s) (.bool M.lo.inn) (.bool M.hi.op) (.int .i64 M.hi.v.k) (.int .i64 M.hi.v.n) (.string M.hi.v.s) (.bool M.hi.inn) (.bool M.emp)), (by show Box _ pb (planCells (spanP ask ix _)); rw [HSN.out]; exact puts12 HP5.out (.int .i64 M.ix) (.bool M.lo.op) (.int .i64 M.lo.v.k) (.int .i64 M.lo.v.n) (.string M.lo.v.s) (.bool M.lo.inn) (.bool M.hi.op) (.int .i64 M.hi.v.k) (.int .i64 M.hi.v.n) (.string M.hi.v.s) (.bool M.hi.inn) (.bool M.emp)), puts12_other HA5.out (by omega) (.int .i64 M.ix) (.bool M.lo.op) (.int .i64 M.lo.v.k) (.int .i64 M.lo.v.n) (.string M.lo.v.s) (.bool M.lo.inn) (.bool M.hi.op) (.int .i64 M.hi.v.k) (.int .i64 M.hi.v.n) (.string M.hi.v.s) (.bool M.hi.inn) (.bool M.emp), puts12_other HK5.out (by omega) (.int .i64 M.ix) (.bool M.lo.op) (.int .i64 M.lo.v.k) (.int .i64 M.lo.v.n) (.string M.lo.v.s) (.bool M.lo.inn) (.bool M.hi.op) (.int .i64 M.hi.v.k) (.int .i64 M.hi.v.n) (.string M.hi.v.s) (.bool M.hi.inn) (.bool M.emp), puts12_other HR5.out (by omega) (.int .i64 M.ix) (.bool M.lo.op) (.int .i64 M.lo.v.k) (.int .i64 M.lo.v.n) (.string M.lo.v.s) (.bool M.lo.inn) (.bool M.hi.op) (.int .i64 M.hi.v.k) (.int .i64 M.hi.v.n) (.string M.hi.v.s) (.bool M.hi.inn) (.bool M.emp), puts12_below HF5.out (by omega) (.int .i64 M.ix) (.bool M.lo.op) (.int .i64 M.lo.v.k) (.int .i64 M.lo.v.n) (.string M.lo.v.s) (.bool M.lo.inn) (.bool M.hi.op) (.int .i64 M.hi.v.k) (.int .i64 M.hi.v.n) (.string M.hi.v.s) (.bool M.hi.inn) (.bool M.emp), by simp; omega⟩
  case done =>
    rintro D ys W hD hys ⟨HP, HA1, HK1, HR1, HF1, hwl⟩ hK
    have hys' : ys.map (·.1) = T.leaves := hys
    have hPP : spanP ask ix (ys.map (·.1)) = spanP ask ix T.leaves := by rw [hys']
    have HPX : Box W pb (planCells (spanP ask ix T.leaves)) := by rw [← hPP]; exact HP
    clear HP hPP hys hys'
    unfold planCells at HPX
    have HPh := Lib.hid HPX
    have HRh := Lib.hid HR1
    clear HPX HR1 HA1 HK1
    have cHPh0 := HPh.out.c 0 _ rfl; have fHPh0 := HPh.out.f 0 (by simp); have cHPh1 := HPh.out.c 1 _ rfl; have fHPh1 := HPh.out.f 1 (by simp); have cHPh2 := HPh.out.c 2 _ rfl; have fHPh2 := HPh.out.f 2 (by simp); have cHPh3 := HPh.out.c 3 _ rfl; have fHPh3 := HPh.out.f 3 (by simp); have cHPh4 := HPh.out.c 4 _ rfl; have fHPh4 := HPh.out.f 4 (by simp); have cHPh5 := HPh.out.c 5 _ rfl; have fHPh5 := HPh.out.f 5 (by simp); have cHPh6 := HPh.out.c 6 _ rfl; have fHPh6 := HPh.out.f 6 (by simp); have cHPh7 := HPh.out.c 7 _ rfl; have fHPh7 := HPh.out.f 7 (by simp); have cHPh8 := HPh.out.c 8 _ rfl; have fHPh8 := HPh.out.f 8 (by simp); have cHPh9 := HPh.out.c 9 _ rfl; have fHPh9 := HPh.out.f 9 (by simp); have cHPh10 := HPh.out.c 10 _ rfl; have fHPh10 := HPh.out.f 10 (by simp); have cHPh11 := HPh.out.c 11 _ rfl; have fHPh11 := HPh.out.f 11 (by simp); have lHPh := HPh.out.lt; have cHRh0 := HRh.out.c 0 _ rfl; have fHRh0 := HRh.out.f 0 (by simp); have cHRh1 := HRh.out.c 1 _ rfl; have fHRh1 := HRh.out.f 1 (by simp); have cHRh2 := HRh.out.c 2 _ rfl; have fHRh2 := HRh.out.f 2 (by simp); have cHRh3 := HRh.out.c 3 _ rfl; have fHRh3 := HRh.out.f 3 (by simp); have cHRh4 := HRh.out.c 4 _ rfl; have fHRh4 := HRh.out.f 4 (by simp); have cHRh5 := HRh.out.c 5 _ rfl; have fHRh5 := HRh.out.f 5 (by simp); have cHRh6 := HRh.out.c 6 _ rfl; have fHRh6 := HRh.out.f 6 (by simp); have cHRh7 := HRh.out.c 7 _ rfl; have fHRh7 := HRh.out.f 7 (by simp); have cHRh8 := HRh.out.c 8 _ rfl; have fHRh8 := HRh.out.f 8 (by simp); have cHRh9 := HRh.out.c 9 _ rfl; have fHRh9 := HRh.out.f 9 (by simp); have cHRh10 := HRh.out.c 10 _ rfl; have fHRh10 := HRh.out.f 10 (by simp); have cHRh11 := HRh.out.c 11 _ rfl; have fHRh11 := HRh.out.f 11 (by simp); have lHRh := HRh.out.lt
    gi_wp2
    clear cHRh0 fHRh0 cHRh1 fHRh1 cHRh2 fHRh2 cHRh3 fHRh3 cHRh4 fHRh4 cHRh5 fHRh5 cHRh6 fHRh6 cHRh7 fHRh7 cHRh8 fHRh8 cHRh9 fHRh9 cHRh10 fHRh10 cHRh11 fHRh11 lHRh; clear cHPh0 fHPh0 cHPh1 fHPh1 cHPh2 fHPh2 cHPh3 fHPh3 cHPh4 fHPh4 cHPh5 fHPh5 cHPh6 fHPh6 cHPh7 fHPh7 cHPh8 fHPh8 cHPh9 fHPh9 cHPh10 fHPh10 cHPh11 fHPh11 lHPh
    have HRf := puts12 HRh.out (.int .i64 (spanP ask ix T.leaves).ix) (.bool (spanP ask ix T.leaves).lo.op) (.int .i64 (spanP ask ix T.leaves).lo.v.k) (.int .i64 (spanP ask ix T.leaves).lo.v.n) (.string (spanP ask ix T.leaves).lo.v.s) (.bool (spanP ask ix T.leaves).lo.inn) (.bool (spanP ask ix T.leaves).hi.op) (.int .i64 (spanP ask ix T.leaves).hi.v.k) (.int .i64 (spanP ask ix T.leaves).hi.v.n) (.string (spanP ask ix T.leaves).hi.v.s) (.bool (spanP ask ix T.leaves).hi.inn) (.bool (spanP ask ix T.leaves).emp)
    have HFf := puts12_below HF1 (show w.heap.size ≤ w.heap.size + 1 + 1 + 1 by omega) (.int .i64 (spanP ask ix T.leaves).ix) (.bool (spanP ask ix T.leaves).lo.op) (.int .i64 (spanP ask ix T.leaves).lo.v.k) (.int .i64 (spanP ask ix T.leaves).lo.v.n) (.string (spanP ask ix T.leaves).lo.v.s) (.bool (spanP ask ix T.leaves).lo.inn) (.bool (spanP ask ix T.leaves).hi.op) (.int .i64 (spanP ask ix T.leaves).hi.v.k) (.int .i64 (spanP ask ix T.leaves).hi.v.n) (.string (spanP ask ix T.leaves).hi.v.s) (.bool (spanP ask ix T.leaves).hi.inn) (.bool (spanP ask ix T.leaves).emp)
    have hKf := (keepsFrom_puts12 (B := wl.heap.size) W (w.heap.size + 1 + 1 + 1) (.int .i64 (spanP ask ix T.leaves).ix) (.bool (spanP ask ix T.leaves).lo.op) (.int .i64 (spanP ask ix T.leaves).lo.v.k) (.int .i64 (spanP ask ix T.leaves).lo.v.n) (.string (spanP ask ix T.leaves).lo.v.s) (.bool (spanP ask ix T.leaves).lo.inn) (.bool (spanP ask ix T.leaves).hi.op) (.int .i64 (spanP ask ix T.leaves).hi.v.k) (.int .i64 (spanP ask ix T.leaves).hi.v.n) (.string (spanP ask ix T.leaves).hi.v.s) (.bool (spanP ask ix T.leaves).hi.inn) (.bool (spanP ask ix T.leaves).emp)).same D _ hD hK rfl
    generalize ((((((((((((W.setCell ⟨w.heap.size + 1 + 1 + 1, 0, none⟩ (.int .i64 (spanP ask ix T.leaves).ix)).setCell ⟨w.heap.size + 1 + 1 + 1, 1, none⟩ (.bool (spanP ask ix T.leaves).lo.op)).setCell ⟨w.heap.size + 1 + 1 + 1, 2, none⟩ (.int .i64 (spanP ask ix T.leaves).lo.v.k)).setCell ⟨w.heap.size + 1 + 1 + 1, 3, none⟩ (.int .i64 (spanP ask ix T.leaves).lo.v.n)).setCell ⟨w.heap.size + 1 + 1 + 1, 4, none⟩ (.string (spanP ask ix T.leaves).lo.v.s)).setCell ⟨w.heap.size + 1 + 1 + 1, 5, none⟩ (.bool (spanP ask ix T.leaves).lo.inn)).setCell ⟨w.heap.size + 1 + 1 + 1, 6, none⟩ (.bool (spanP ask ix T.leaves).hi.op)).setCell ⟨w.heap.size + 1 + 1 + 1, 7, none⟩ (.int .i64 (spanP ask ix T.leaves).hi.v.k)).setCell ⟨w.heap.size + 1 + 1 + 1, 8, none⟩ (.int .i64 (spanP ask ix T.leaves).hi.v.n)).setCell ⟨w.heap.size + 1 + 1 + 1, 9, none⟩ (.string (spanP ask ix T.leaves).hi.v.s)).setCell ⟨w.heap.size + 1 + 1 + 1, 10, none⟩ (.bool (spanP ask ix T.leaves).hi.inn)).setCell ⟨w.heap.size + 1 + 1 + 1, 11, none⟩ (.bool (spanP ask ix T.leaves).emp)) = Wf at *
    have HR2 : Box (Wf.putObj D (.deferred none)) (w.heap.size + 1 + 1 + 1) _ := box_ownFrom (B := 0) HRf (grownBy_putObj' _ _ _) (fun r e => by cases e; exact ⟨Nat.zero_le _, _, hKf, rfl⟩)
    have HB2 : Below w.heap.size w (Wf.putObj D (.deferred none)) := HFf.grown (grownBy_putObj' Wf D _) HFf.size (fun k e => by cases e; omega)
    refine ⟨by simp, .inl ⟨_, _, rfl, run_takeDeferred hKf, ?_⟩⟩
    have k0 := HR2.c 0 _ rfl
    have k1 := HR2.c 1 _ rfl
    have k2 := HR2.c 2 _ rfl
    have k3 := HR2.c 3 _ rfl
    have k4 := HR2.c 4 _ rfl
    have k5 := HR2.c 5 _ rfl
    have k6 := HR2.c 6 _ rfl
    have k7 := HR2.c 7 _ rfl
    have k8 := HR2.c 8 _ rfl
    have k9 := HR2.c 9 _ rfl
    have k10 := HR2.c 10 _ rfl
    have k11 := HR2.c 11 _ rfl
    refine ⟨_, by simp [results, Try.results26, go_sem, k0, k1, k2, k3, k4, k5, k6, k7, k8, k9, k10, k11]; rfl, ?_⟩
    exact ⟨rfl, HB2⟩
  case stop =>
    rintro D c pre W _ _ h _
    exact h.elim
end Go.Proofs.Ytfmfmammcjpboaa
