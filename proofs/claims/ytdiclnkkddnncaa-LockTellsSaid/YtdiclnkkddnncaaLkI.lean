/- slices.Insert of one lock: with room, in place; without, in a new row; at the end. -/
import Derived.Test.YtdiclnkkddnncaaLkS
import Derived.Laws.CopyOwn
import Derived.Laws.IdiomCopy
import Derived.Laws.Externs
import Derived.Lib.AppendZerosOnto
import Derived.Lib.Overlaps
import Derived.Lib.JoinLaws
import Derived.Lib.AppendZeros
import Derived.Lib.Builder
import Derived.Deep.RegionLaw
namespace Go.Proofs.Ytdiclnkkddnncaa
open Go.RowKit
open Go.Shelf
set_option linter.unusedVariables false
set_option linter.unusedSimpArgs false
/-- copy, of elements of k cells, into a row of the call's own. -/
theorem run_copy_rowK {P : Program} (w : World) (dT sT ty elem : TypeId) (g o dLen dCap : Nat) (a : Addr) (sLen sCap : Nat) (cur : Array Value) (t : TypeId) (cs : List Value) (k n : Nat)
    (hu : P.underlying dT = some (.slice elem)) (hs : (P.info? elem).map (·.size) = some k)
    (hg : w.heap[g]? = some (.cells cur t (0, 0))) (hn : Nat.min sLen dLen = n) (hl : cs.length = n * k)
    (hsrc : ∀ j v, cs[j]? = some v → w.cell? (a.add j) = some v) (hfit : o + cs.length ≤ cur.size) (h1 : ∀ v ∈ cs, v.oneCell' = true) :
    (Builtin.copy_ #[dT, sT] ty #[.slice (some ⟨g, o, none⟩) dLen dCap, .slice (some a) sLen sCap]).run P w =
      .ok (goInt n) (w.setRow g (cur.toList.take o ++ cs ++ cur.toList.drop (o + cs.length)).toArray) := by
  have hl' := run_loadCells_list (P := P) w a cs hsrc
  have hst := run_storeCells_at P g o t cs 0 cur w hg (by simpa using hfit) h1
  cases hq : P.info? elem with
  | none => simp [hq] at hs
  | some i =>
    have hi : i.size = k := by simpa [hq] using hs
    rw [hl] at hl'
    simp [Builtin.copy_, run_underlying hu, Builtin.lenOf, Builtin.firstCells, sizeOf, typeInfo, hq, hi, hn, hl', hst]
section
variable {P : Program}
theorem wp_copy_at (w : World) {o : Oper} {a : Act} {K : Act → World → Prop} {Q : Exit → Act → World → Prop} (d s : Operand) (t t' : TypeId)
    (ho : o.op = .call { callee := .builtin .copy, args := #[d, s], argTypes := #[t, t'] }) (v u : Value) (hd : a.eval d = v) (hs : a.eval s = u) {v' : Value} {w' : World}
    (hr : (Builtin.copy_ #[t, t'] o.type #[v, u]).run P w = .ok v' w') (h : K (a.put o.dst v') w') : o.wp P a w K Q := by
  unfold Oper.wp execOp
  simp only [ho, resolve, invoke, builtin, Sem.run_bind, Sem.run_pure, Result.andThen_ok, List.map_toArray, List.map_cons, List.map_nil, hd, hs, hr]
  exact h
theorem wpList_copy_at (w : World) {ops : Array Oper} {rest : List Oper} {o : Oper} {a : Act} {Q : Exit → Act → World → Prop} (hgd : o.guard = none) (d s : Operand) (t t' : TypeId)
    (ho : o.op = .call { callee := .builtin .copy, args := #[d, s], argTypes := #[t, t'] }) (v u : Value) (hd : a.eval d = v) (hs : a.eval s = u) {v' : Value} {w' : World}
    (hr : (Builtin.copy_ #[t, t'] o.type #[v, u]).run P w = .ok v' w') (h : wpList P ops Q rest (a.put o.dst v') w') : wpList P ops Q (o :: rest) a w :=
  wpList_plain hgd fun _ hK => wp_copy_at w d s t t' ho v u hd hs hr (hK _ _ h)
theorem step_copy_at {ops : Array Oper} {o : Oper} {a : Act} {w : World} {K : Act → World → Prop} {Q : Exit → Act → World → Prop} {E : Prop}
    (hg : o.guard = none) (d x : Operand) (dT sT : TypeId) (hop : o.op = Op.call { callee := Callee.builtin Builtin.copy, args := #[d, x], argTypes := #[dT, sT] })
    (v u : Value) (hd : a.eval d = v) (hx : a.eval x = u) {v' : Value} {w' : World} (hr : (Builtin.copy_ #[dT, sT] o.type #[v, u]).run P w = .ok v' w') (hK : K (a.put o.dst v') w') :
    if Region.wanted o (yielded ops a.tmps) = true then Oper.wp P o a w K Q else E := by
  have hw : Region.wanted o (yielded ops a.tmps) = true := by simp [Region.wanted, hg]
  rw [if_pos hw]
  unfold Oper.wp
  simp [execOp, hop, resolve, invoke, builtin, hd, hx, hr, Result.andThen]
  exact hK
end
theorem infoL : ∃ i0, Try.prog.info? 35 = some i0 ∧ i0.zero = some (.agg #[.int .i64 0, .string ⟨#[]⟩, .string ⟨#[]⟩]) ∧ i0.size = 3 ∧ i0.bytes = 40 :=
  info_parts (show (Try.prog.info? 35).map (fun i => (i.zero, i.size, i.bytes)) = some (some (.agg #[.int .i64 0, .string ⟨#[]⟩, .string ⟨#[]⟩]), 3, 40) by kernel_rfl)
theorem encL_cells (x : Lk) : ∀ v ∈ encL x, v.oneCell' = true := fun v hv => encL_one [x] v (by simpa using hv)
/-- What lies behind a move up by one and a store. -/
theorem fill_room {α : Type} (C A X Y : List α) (i n : Nat) (hi : i < n) (hA : A.length = i * 3) (hX : X.length = 3) (hY : Y.length = (n - i) * 3) (hC : C.take (n * 3) = A ++ Y) (hCl : (n + 1) * 3 ≤ C.length) (c1 : List α) (h1 : c1 = C.take ((i + 1) * 3) ++ Y ++ C.drop ((i + 1) * 3 + Y.length)) :
    (c1.take (i * 3) ++ X ++ c1.drop (i * 3 + X.length)).take ((n + 1) * 3) = A ++ X ++ Y := by
  have hm : i * 3 ≤ n * 3 := Nat.mul_le_mul_right 3 (by omega)
  have e0 : C.take (i * 3) = A := by
    have := congrArg (List.take (i * 3)) hC
    rw [List.take_take, Nat.min_eq_left hm] at this
    rw [this, ← hA]
    exact List.take_left
  have hl1 : (C.take ((i + 1) * 3)).length = (i + 1) * 3 := by rw [List.length_take, Nat.min_eq_left (by omega)]
  have e1 : c1.take (i * 3) = A := by
    rw [h1, List.append_assoc, List.take_append_of_le_length (by rw [hl1]; omega), List.take_take, Nat.min_eq_left (by omega), e0]
  have e2 : c1.drop (i * 3 + X.length) = Y ++ C.drop ((i + 1) * 3 + Y.length) := by
    have : i * 3 + X.length = (C.take ((i + 1) * 3)).length := by rw [hl1, hX]; omega
    rw [h1, List.append_assoc, this, List.drop_left]
  rw [e1, e2, ← List.append_assoc, List.take_append_of_le_length (by simp only [List.length_append]; omega), List.take_of_length_le (by simp only [List.length_append]; omega)]
theorem fill_new {α : Type} (Z A X Y : List α) (i n : Nat) (hi : i < n) (hA : A.length = i * 3) (hX : X.length = 3) (hY : Y.length = (n - i) * 3) (hZ : Z.take (i * 3) = A) (hZl : (n + 1) * 3 ≤ Z.length) (z1 : List α) (h1 : z1 = Z.take (i * 3) ++ X ++ Z.drop (i * 3 + X.length)) :
    (z1.take ((i + 1) * 3) ++ Y ++ z1.drop ((i + 1) * 3 + Y.length)).take ((n + 1) * 3) = A ++ X ++ Y := by
  have e1 : z1.take ((i + 1) * 3) = A ++ X := by
    have : (i + 1) * 3 = (A ++ X).length := by rw [List.length_append, hA, hX]; omega
    rw [h1, hZ, this, List.take_left]
  rw [e1, List.take_append_of_le_length (by simp only [List.length_append]; omega), List.take_of_length_le (by simp only [List.length_append]; omega)]
theorem zero_len (k : Nat) : (Builtin.zeroCells (Value.agg #[.int .i64 0, .string ⟨#[]⟩, .string ⟨#[]⟩]).cells k).size = k * 3 := by
  simp [Builtin.zeroCells, Value.cells]
/-- One more at a place. -/
def putAt (l : List Lk) (i : Nat) (x : Lk) : List Lk := l.take i ++ x :: l.drop i
theorem putAt_flat (l : List Lk) (i : Nat) (x : Lk) : (putAt l i x).flatMap encL = (l.take i).flatMap encL ++ encL x ++ (l.drop i).flatMap encL := by
  unfold putAt; simp
theorem putAt_len (l : List Lk) (i : Nat) (x : Lk) (hi : i ≤ l.length) : (putAt l i x).length = l.length + 1 := by
  unfold putAt; simp; omega
set_option maxHeartbeats 4000000 in
set_option maxRecDepth 100000 in
theorem insert_room (base g q n cap i : Nat) (l : List Lk) (x : Lk) (cur : Array Value) (w : World) (hn : n = l.length) (hin : i < n) (hroom : n + 1 ≤ cap) (hcm : cap ≤ maxLen) (hl : n ≤ 1000)
    (hg : w.heap[g]? = some (.cells cur 35 (0, 0))) (hcs : cur.size = cap * 3) (htake : cur.toList.take (n * 3) = l.flatMap encL)
    (hq : w.heap[q]? = some (.cells (encL x).toArray 35 (0, 0))) (hqg : q ≠ g) (hbg : base ≤ g) (hbw : base ≤ w.heap.size) :
    Calls Try.prog 48 #[.slice (some ⟨g, 0, none⟩) n cap, .int .i64 i, .slice (some ⟨q, 0, none⟩) 1 1] w fun e w' => ∃ v, e = .returned v ∧ w'.ownsRow base 35 3 v (n + 1) ((putAt l i x).flatMap encL) ∧ Below base w w' := by
  have hsz : (Try.prog.info? 35).map (·.size) = some 3 := by kernel_rfl
  have hX : (encL x).length = 3 := rfl
  have hA : ((l.take i).flatMap encL).length = i * 3 := by rw [flat_len encL_len, List.length_take, Nat.min_eq_left (by omega)]
  have hY : ((l.drop i).flatMap encL).length = (n - i) * 3 := by rw [flat_len encL_len, List.length_drop, hn]
  have hAY : l.flatMap encL = (l.take i).flatMap encL ++ (l.drop i).flatMap encL := by rw [← List.flatMap_append, List.take_append_drop]
  have hov : ∀ lb cb, (callFunc 53 #[.slice (some ⟨q, 0, none⟩) 1 1, .slice (some ⟨g, (i + 1) * 3, none⟩) lb cb]).run Try.prog w = .ok (.value (.bool false)) w := fun lb cb => by
    rw [run_callFunc_extern Try.func53 (by kernel_rfl) (by kernel_rfl) (by kernel_rfl) (e := Extern.SlicesOverlaps.overlaps #[28, 28] #[4]) (by kernel_rfl),
      Lib.run_overlaps_apart w 28 4 35 Try.underlying28 3 Try.sizeOf35 ⟨q, 0, none⟩ ⟨g, (i + 1) * 3, none⟩ 1 1 lb cb hqg 35 35 3 cur.size (by simp [World.shape?, hq, hX]) (by simp [World.shape?, hg]) (by omega) (Lib.frozen_of_heap hq 0) (Lib.frozen_of_heap hq _)]
    rfl
  have hcp1 : ∀ ty dc sc, (Builtin.copy_ #[28, 28] ty #[.slice (some ⟨g, (i + 1) * 3, none⟩) (n - i) dc, .slice (some ⟨g, i * 3, none⟩) (n + 1 - i) sc]).run Try.prog w.drew =
      .ok (goInt ((n - i : Nat) : Int)) (w.drew.setRow g (cur.toList.take ((i + 1) * 3) ++ (l.drop i).flatMap encL ++ cur.toList.drop ((i + 1) * 3 + ((l.drop i).flatMap encL).length)).toArray) := fun ty dc sc =>
    run_copy_rowK w.drew _ _ ty 35 g ((i + 1) * 3) (n - i) dc ⟨g, i * 3, none⟩ (n + 1 - i) sc cur 35 ((l.drop i).flatMap encL) 3 (n - i) Try.underlying28 hsz hg (by show min (n + 1 - i) (n - i) = n - i; omega) hY
      (fun j v hj => by
        rw [Addr.add_lit]
        have hj' : j < (n - i) * 3 := by
          rcases Nat.lt_or_ge j ((n - i) * 3) with h' | h'
          · exact h'
          · rw [List.getElem?_eq_none (by omega)] at hj; cases hj
        have e : (l.flatMap encL)[i * 3 + j]? = some v := by
          rw [hAY, List.getElem?_append_right (by omega), hA, Nat.add_sub_cancel_left]; exact hj
        rw [← htake, List.getElem?_take, if_pos (by omega), Array.getElem?_toList] at e
        show w.cell? _ = _
        rw [Lib.cell_of_heap hg]; exact e)
      (by rw [hY]; omega) (encL_one _)
  obtain ⟨c1, hc1⟩ : ∃ c1, c1 = (cur.toList.take ((i + 1) * 3) ++ (l.drop i).flatMap encL ++ cur.toList.drop ((i + 1) * 3 + ((l.drop i).flatMap encL).length)).toArray := ⟨_, rfl⟩
  rw [← hc1] at hcp1
  have hs1 : c1.size = cur.size := by
    rw [hc1]; simp [hY, Nat.min_def]; split <;> omega
  have hcp2 : ∀ ty dc, (Builtin.copy_ #[28, 28] ty #[.slice (some ⟨g, i * 3, none⟩) (n + 1 - i) dc, .slice (some ⟨q, 0, none⟩) 1 1]).run Try.prog (w.drew.setRow g c1) =
      .ok (goInt 1) ((w.drew.setRow g c1).setRow g (c1.toList.take (i * 3) ++ encL x ++ c1.toList.drop (i * 3 + (encL x).length)).toArray) := fun ty dc =>
    run_copy_rowK (w.drew.setRow g c1) _ _ ty 35 g (i * 3) (n + 1 - i) dc ⟨q, 0, none⟩ 1 1 c1 35 (encL x) 3 1 Try.underlying28 hsz (setRow_heap w.drew g cur c1 _ _ hg) (by show min 1 (n + 1 - i) = 1; omega) hX
      (fun j v hj => by
        rw [Addr.add_lit, Nat.zero_add]
        have hq' : (w.drew.setRow g c1).heap[q]? = some (.cells (encL x).toArray 35 (0, 0)) := by
          rw [World.setRow]
          simp [Array.getElem?_modify, Ne.symm hqg]
          exact hq
        rw [Lib.cell_of_heap hq']; simpa using hj)
      (by rw [hX, hs1]; omega) (encL_cells x)
  obtain ⟨c2, hc2⟩ : ∃ c2, c2 = (c1.toList.take (i * 3) ++ encL x ++ c1.toList.drop (i * 3 + (encL x).length)).toArray := ⟨_, rfl⟩
  rw [← hc2] at hcp2
  have hfin : c2.toList.take ((n + 1) * 3) = (putAt l i x).flatMap encL := by
    rw [hc2, putAt_flat]
    exact fill_room cur.toList _ (encL x) _ i n hin hA hX hY (by rw [htake, hAY]) (by rw [Array.length_toList, hcs]; exact Nat.mul_le_mul_right 3 hroom) c1.toList (by rw [hc1])
  have hs2 : c2.size = cap * 3 := by
    rw [hc2]; simp [hX, hs1, hcs, Nat.min_def]; split <;> omega
  have hlen : ((putAt l i x).flatMap encL).length = (n + 1) * 3 := by rw [flat_len encL_len, putAt_len _ _ _ (by omega), hn]
  have z1 : ¬ ((i : Int) = (n : Int)) := by omega
  have z2 : ¬ ((cap : Int) < (n : Int) + 1) := by omega
  have z3 : (0 : Int) ≤ (n : Int) + 1 := by omega
  have z4 : ((n : Int) + 1).toNat = n + 1 := by omega
  have z5 : ¬ (cap = i + 1) := by omega
  have z6 : ¬ (cap = i) := by omega
  have z8 : ((i : Int) + 1).toNat = i + 1 := by omega
  have z9 : (i : Int) ≤ (n : Int) := by omega
  have z10 : (i : Int) + 1 ≤ (n : Int) + 1 := by omega
  have z11 : n + 1 - (i + 1) = n - i := by omega
  have ZL := Lib.hid hlen
  clear hc1 hc2 htake hn hs1 hY hX hA hAY hlen
  generalize hPA : (putAt l i x).flatMap encL = PA at *
  clear hPA
  go_enter Try.func48, Try.ntmps48
  go_wp2_with (simp only [hov])
  have hw1 : IntKind.i64.wrap 1 = 1 := by decide
  have hw2 : IntKind.i64.wrap ((i : Int) + 1) = (i : Int) + 1 := IntWalk.i64_in _ ⟨by omega, by omega⟩
  have hb1 : (0 : Int) ≤ (i : Int) + 1 := by omega
  have hb2 : (i : Int) + 1 ≤ (n : Int) + 1 := by omega
  have hb3 : (i : Int) ≤ (n : Int) + 1 := by omega
  go_region_law (refine step_copy_at rfl _ _ 28 28 rfl _ _ (by simp [Act.eval, Act.put]) (by simp [Act.eval, Act.put]) (hcp1 _ _ _) ?_)
  go_wp2_with (at_builtin; refine wpList_copy_at _ rfl _ _ 28 28 rfl _ _ rfl rfl (hcp2 _ _) ?_)
  go_ret
  refine ⟨_, rfl, ?_, below_setRow (below_setRow (Below.drew (Below.refl base w)) hbg _) hbg _⟩
  exact ⟨ZL.out, .inr ⟨g, cap, c2, rfl, hbg, setRow_heap _ g c1 c2 _ _ (setRow_heap w.drew g cur c1 _ _ hg), hroom, hcm, hs2, hfin⟩⟩
set_option maxHeartbeats 4000000 in
set_option maxRecDepth 100000 in
theorem insert_grow (base g q n cap i : Nat) (l : List Lk) (x : Lk) (cur : Array Value) (w : World) (hn : n = l.length) (hin : i < n) (hnc : n ≤ cap) (hroom : cap < n + 1) (hl : n ≤ 1000)
    (hg : w.heap[g]? = some (.cells cur 35 (0, 0))) (htake : cur.toList.take (n * 3) = l.flatMap encL)
    (hq : w.heap[q]? = some (.cells (encL x).toArray 35 (0, 0))) (hbw : base ≤ w.heap.size) :
    Calls Try.prog 48 #[.slice (some ⟨g, 0, none⟩) n cap, .int .i64 i, .slice (some ⟨q, 0, none⟩) 1 1] w fun e w' => ∃ v, e = .returned v ∧ w'.ownsRow base 35 3 v (n + 1) ((putAt l i x).flatMap encL) ∧ Below base w w' := by
  have hsz : (Try.prog.info? 35).map (·.size) = some 3 := by kernel_rfl
  have hX : (encL x).length = 3 := rfl
  have hA : ((l.take i).flatMap encL).length = i * 3 := by rw [flat_len encL_len, List.length_take, Nat.min_eq_left (by omega)]
  have hY : ((l.drop i).flatMap encL).length = (n - i) * 3 := by rw [flat_len encL_len, List.length_drop, hn]
  have hAY : l.flatMap encL = (l.take i).flatMap encL ++ (l.drop i).flatMap encL := by rw [← List.flatMap_append, List.take_append_drop]
  obtain ⟨i0, hi, hz0, hz1, hz2⟩ := infoL
  have hgl : g < w.heap.size := by
    rcases Nat.lt_or_ge g w.heap.size with h' | h'
    · exact h'
    · simp [Array.getElem?_eq_none h'] at hg
  have hql : q < w.heap.size := by
    rcases Nat.lt_or_ge q w.heap.size with h' | h'
    · exact h'
    · simp [Array.getElem?_eq_none h'] at hq
  have cellg : ∀ j v, (l.flatMap encL)[j]? = some v → (Obj.cells cur 35 (0, 0) : Obj) = .cells cur 35 (0, 0) → cur[j]? = some v := fun j v hj _ => by
    have hj' : j < n * 3 := by
      have := lt_of_get hj; rw [flat_len encL_len, ← hn] at this; exact this
    rw [← htake, List.getElem?_take, if_pos hj', Array.getElem?_toList] at hj
    exact hj
  have hk : i + (n + 1 - i) = n + 1 := by omega
  have hkz : ((n + 1 - i : Nat) : Int) = (n : Int) + 1 - (i : Int) := by omega
  have hrz : ∀ ty, (Builtin.append_ #[28, 3] ty #[.slice (some ⟨g, 0, none⟩) i cap, .int .i64 ((n : Int) + 1 - (i : Int))]).run Try.prog w = .ok (.slice (some ⟨w.heap.size, 0, none⟩) (n + 1) (grownCap w (n + 1) cap 35)) (w.drew.alloc (.cells (((l.take i).flatMap encL).toArray ++ Builtin.zeroCells (Value.agg #[.int .i64 0, .string ⟨#[]⟩, .string ⟨#[]⟩]).cells (n + 1 - i) ++ Builtin.zeroCells (Value.agg #[.int .i64 0, .string ⟨#[]⟩, .string ⟨#[]⟩]).cells (grownCap w (n + 1) cap 35 - (n + 1))) 35)) := fun ty => by
    have h := Lib.run_append_grow_zeros w 28 3 ty 35 i0 _ .i64 .i64 Try.underlying28 Try.underlying3 hi hz0 (some ⟨g, 0, none⟩) i cap ((l.take i).flatMap encL) (by rw [hz1]; exact run_firstCells_some w.drew 3 i ⟨g, 0, none⟩ i cap _ hA (fun j v hj => by
      rw [Addr.add_lit, Nat.zero_add]
      show w.cell? _ = _
      rw [Lib.cell_of_heap hg]
      exact cellg j v (by rw [hAY, List.getElem?_append_left (lt_of_get hj)]; exact hj) rfl)) (n + 1 - i) (by omega) (by omega) (by omega) (by omega) (by rw [hz2]; omega) (by rw [hz2, hk]; exact growslice_fits hroom (by omega))
    rw [hk, hkz] at h
    exact h
  obtain ⟨G, hG⟩ : ∃ G, G = grownCap w (n + 1) cap 35 := ⟨_, rfl⟩
  have hGn : n + 1 ≤ G := by rw [hG]; exact grownCap_ge w _ _ _
  have hGm : G ≤ maxLen := by rw [hG]; exact grownCap_le_maxLen w _ _ _ (by unfold maxLen; omega)
  rw [← hG] at hrz
  obtain ⟨Z, hZ⟩ : ∃ Z : Array Value, Z = ((l.take i).flatMap encL).toArray ++ Builtin.zeroCells (Value.agg #[.int .i64 0, .string ⟨#[]⟩, .string ⟨#[]⟩]).cells (n + 1 - i) ++ Builtin.zeroCells (Value.agg #[.int .i64 0, .string ⟨#[]⟩, .string ⟨#[]⟩]).cells (G - (n + 1)) := ⟨_, rfl⟩
  rw [← hZ] at hrz
  have hZs : Z.size = G * 3 := by
    rw [hZ, Array.size_append, Array.size_append, zero_len, zero_len, List.size_toArray, hA]; omega
  have hZt : Z.toList.take (i * 3) = (l.take i).flatMap encL := by
    rw [hZ, Array.toList_append, Array.toList_append, List.append_assoc, ← hA]
    exact List.take_left
  obtain ⟨z1, hz1'⟩ : ∃ z1, z1 = (Z.toList.take (i * 3) ++ encL x ++ Z.toList.drop (i * 3 + (encL x).length)).toArray := ⟨_, rfl⟩
  have hs1 : z1.size = G * 3 := by
    rw [hz1']; simp [hX, hZs, Nat.min_def]; split <;> omega
  have hcpA : ∀ (W : World), W.heap[w.heap.size]? = some (.cells Z 35 (0, 0)) → W.heap[q]? = some (.cells (encL x).toArray 35 (0, 0)) → ∀ ty dc, (Builtin.copy_ #[28, 28] ty #[.slice (some ⟨w.heap.size, i * 3, none⟩) (n + 1 - i) dc, .slice (some ⟨q, 0, none⟩) 1 1]).run Try.prog W =
      .ok (goInt 1) (W.setRow w.heap.size z1) := fun W hN hQ ty dc => by
    rw [hz1']
    exact run_copy_rowK W _ _ ty 35 w.heap.size (i * 3) (n + 1 - i) dc ⟨q, 0, none⟩ 1 1 Z 35 (encL x) 3 1 Try.underlying28 hsz hN (by show min 1 (n + 1 - i) = 1; omega) hX
      (fun j v hj => by
        rw [Addr.add_lit, Nat.zero_add, Lib.cell_of_heap hQ]; simpa using hj)
      (by rw [hX, hZs]; omega) (encL_cells x)
  obtain ⟨z2, hz2'⟩ : ∃ z2, z2 = (z1.toList.take ((i + 1) * 3) ++ (l.drop i).flatMap encL ++ z1.toList.drop ((i + 1) * 3 + ((l.drop i).flatMap encL).length)).toArray := ⟨_, rfl⟩
  have hcpB : ∀ (W : World), W.heap[w.heap.size]? = some (.cells z1 35 (0, 0)) → W.heap[g]? = some (.cells cur 35 (0, 0)) → ∀ ty dc sc, (Builtin.copy_ #[28, 28] ty #[.slice (some ⟨w.heap.size, (i + 1) * 3, none⟩) (n - i) dc, .slice (some ⟨g, i * 3, none⟩) (n - i) sc]).run Try.prog W =
      .ok (goInt ((n - i : Nat) : Int)) (W.setRow w.heap.size z2) := fun W hN hQ ty dc sc => by
    rw [hz2']
    exact run_copy_rowK W _ _ ty 35 w.heap.size ((i + 1) * 3) (n - i) dc ⟨g, i * 3, none⟩ (n - i) sc z1 35 ((l.drop i).flatMap encL) 3 (n - i) Try.underlying28 hsz hN (by show min (n - i) (n - i) = n - i; omega) hY
      (fun j v hj => by
        rw [Addr.add_lit, Lib.cell_of_heap hQ]
        exact cellg (i * 3 + j) v (by rw [hAY, List.getElem?_append_right (by omega), hA, Nat.add_sub_cancel_left]; exact hj) rfl)
      (by rw [hY, hs1]; omega) (encL_one _)
  have hfin : z2.toList.take ((n + 1) * 3) = (putAt l i x).flatMap encL := by
    rw [hz2', putAt_flat]
    exact fill_new Z.toList _ (encL x) _ i n hin hA hX hY hZt (by rw [Array.length_toList, hZs]; exact Nat.mul_le_mul_right 3 hGn) z1.toList (by rw [hz1'])
  have hs2 : z2.size = G * 3 := by
    rw [hz2']; simp [hY, hs1, Nat.min_def]; split <;> omega
  have hlen : ((putAt l i x).flatMap encL).length = (n + 1) * 3 := by rw [flat_len encL_len, putAt_len _ _ _ (by omega), hn]
  have A1 : ((w.alloc (.cells Z 35)).drew).heap[w.heap.size]? = some (.cells Z 35 (0, 0)) := heap_alloc_new w _
  have A2 : ((w.alloc (.cells Z 35)).drew).heap[q]? = some (.cells (encL x).toArray 35 (0, 0)) := (Lib.alloc_old w _ q hql).trans hq
  have A3 : ((w.alloc (.cells Z 35)).drew).heap[g]? = some (.cells cur 35 (0, 0)) := (Lib.alloc_old w _ g hgl).trans hg
  have B1 : ((((w.alloc (.cells Z 35)).drew).setRow w.heap.size z1).drew).heap[w.heap.size]? = some (.cells z1 35 (0, 0)) := setRow_heap ((w.alloc (.cells Z 35)).drew) w.heap.size Z z1 _ _ A1
  have B2 : ((((w.alloc (.cells Z 35)).drew).setRow w.heap.size z1).drew).heap[g]? = some (.cells cur 35 (0, 0)) := by
    show (((w.alloc (.cells Z 35)).drew).setRow w.heap.size z1).heap[g]? = _
    rw [World.setRow]
    simp only [Array.getElem?_modify, if_neg (Nat.ne_of_gt hgl)]
    exact A3
  have HA := Lib.hid A1
  have HA2 := Lib.hid A2
  have HB1 := Lib.hid B1
  have HB2 := Lib.hid B2
  have HF := Lib.hid hfin
  have HG := Lib.hid hGm
  have ZL := Lib.hid hlen
  have y1 : ¬ ((i : Int) = (n : Int)) := by omega
  have y2 : (cap : Int) < (n : Int) + 1 := by omega
  have y3 : (0 : Int) ≤ (n : Int) + 1 := by omega
  have y4 : ((n : Int) + 1).toNat = n + 1 := by omega
  have y5 : ¬ (G = i + 1) := by omega
  have y6 : ¬ (cap = i) := by omega
  have y7 : ¬ (G = i) := by omega
  have y8 : ((i : Int) + 1).toNat = i + 1 := by omega
  have y9 : (i : Int) ≤ (n : Int) := by omega
  have y10 : (i : Int) ≤ (cap : Int) := by omega
  have y11 : n + 1 - (i + 1) = n - i := by omega
  have hw1 : IntKind.i64.wrap 1 = 1 := by decide
  have hw2 : IntKind.i64.wrap ((i : Int) + 1) = (i : Int) + 1 := IntWalk.i64_in _ ⟨by omega, by omega⟩
  have hw3 : IntKind.i64.wrap ((n : Int) + 1 - (i : Int)) = (n : Int) + 1 - (i : Int) := IntWalk.i64_in _ ⟨by omega, by omega⟩
  have hb1 : (0 : Int) ≤ (i : Int) + 1 := by omega
  have hb2 : (i : Int) + 1 ≤ (n : Int) + 1 := by omega
  have hb3 : (i : Int) ≤ (n : Int) + 1 := by omega
  clear hz1' hz2' htake hn hY hX hZ hs1 hZs hG A1 A2 A3 B1 B2 hfin hGm hi hz0 hz1 hz2 hsz cellg hA hAY hZt hlen hk hkz
  generalize hPA : (putAt l i x).flatMap encL = PA at *
  clear hPA
  go_enter Try.func48, Try.ntmps48
  go_upto_region 10 with (at_builtin; refine Lib.wpList_append_run _ rfl _ _ _ _ rfl _ _ rfl rfl _ _ (hrz _) ?_)
  have hA := fun ty dc => hcpA _ HA.out HA2.out ty dc
  go_wp2_with fail
  clear hA
  go_region_law (refine step_copy_at rfl _ _ 28 28 rfl (.slice (some ⟨w.heap.size, (i + 1) * 3, none⟩) (n - i) (G - (i + 1))) (.slice (some ⟨g, i * 3, none⟩) (n - i) (cap - i)) (by simp [Act.eval, Act.put]) (by simp [Act.eval, Act.put]) (hcpB _ HB1.out HB2.out _ _ _) ?_)
  go_wp2
  go_ret
  refine ⟨_, rfl, ⟨ZL.out, .inr ⟨w.heap.size, G, z2, rfl, hbw, setRow_heap _ w.heap.size z1 z2 _ _ HB1.out, hGn, HG.out, hs2, HF.out⟩⟩, ?_⟩
  exact below_setRow (Below.drew (below_setRow (Below.drew ((Below.refl base w).alloc hbw _)) hbw _)) hbw _
set_option maxHeartbeats 4000000 in
set_option maxRecDepth 100000 in
theorem insert_end (base q n cap : Nat) (A : Option Addr) (l : List Lk) (x : Lk) (w : World) (hn : n = l.length) (hl : n ≤ 1000) (hown : w.ownsRow base 35 3 (.slice A n cap) n (l.flatMap encL))
    (hq : w.heap[q]? = some (.cells (encL x).toArray 35 (0, 0))) (hbw : base ≤ w.heap.size) :
    Calls Try.prog 48 #[.slice A n cap, .int .i64 n, .slice (some ⟨q, 0, none⟩) 1 1] w fun e w' => ∃ v, e = .returned v ∧ w'.ownsRow base 35 3 v (n + 1) ((putAt l n x).flatMap encL) ∧ Below base w w' := by
  obtain ⟨i0, hi, hz0, hz1, hz2⟩ := infoL
  have hPA : (putAt l n x).flatMap encL = l.flatMap encL ++ encL x := by
    rw [putAt_flat, hn, List.take_length, List.drop_length]; simp
  have hnc : n ≤ cap := by
    obtain ⟨A', c', hv, hc', _⟩ := own_slice hown
    cases hv; exact hc'
  rw [hPA]
  clear hPA hn
  have hw1 : IntKind.i64.wrap 1 = 1 := by decide
  by_cases hcn : cap = n
  · subst hcn
    go_enter Try.func48, Try.ntmps48
    go_upto_region 7 with fail
    go_wp2_with (at_builtin; refine wpList_append_own _ rfl _ _ 28 rfl base 35 i0 (.agg #[.int .i64 0, .string ⟨#[]⟩, .string ⟨#[]⟩]) 3 40 Try.underlying28 hi hz0 hz1 hz2 rfl (by decide) _ _ _ rfl hown ⟨q, 0, none⟩ 1 1 (encL x) rfl rfl ?c1 ?c2 ?c3 ?c4 ?c5 ?_)
    case c1 =>
      intro j u hj
      rw [Addr.add_lit, Nat.zero_add, Lib.cell_of_heap hq]; simpa using hj
    case c2 => exact encL_cells x
    case c3 => unfold maxLen; omega
    case c4 => omega
    case c5 => exact hbw
    intro v' w1 hown' hgrow hnil
    go_wp2
    go_ret
    exact ⟨v', rfl, hown', (Below.refl base w).grown hgrow hbw (fun k hk => (hown.lt k hk).1)⟩
  · have y5 : ¬ n = cap := fun h => hcn h.symm
    go_enter Try.func48, Try.ntmps48
    go_upto_region 7 with fail
    go_wp2_with (at_builtin; refine wpList_append_own _ rfl _ _ 28 rfl base 35 i0 (.agg #[.int .i64 0, .string ⟨#[]⟩, .string ⟨#[]⟩]) 3 40 Try.underlying28 hi hz0 hz1 hz2 rfl (by decide) _ _ _ rfl hown ⟨q, 0, none⟩ 1 1 (encL x) rfl rfl ?d1 ?d2 ?d3 ?d4 ?d5 ?_)
    case d1 =>
      intro j u hj
      rw [Addr.add_lit, Nat.zero_add, Lib.cell_of_heap hq]; simpa using hj
    case d2 => exact encL_cells x
    case d3 => unfold maxLen; omega
    case d4 => omega
    case d5 => exact hbw
    intro v' w1 hown' hgrow hnil
    go_wp2
    go_ret
    exact ⟨v', rfl, hown', (Below.refl base w).grown hgrow hbw (fun k hk => (hown.lt k hk).1)⟩
/-- Insert of one at a place. -/
theorem insert_any (base q i : Nat) (v : Value) (l : List Lk) (x : Lk) (w : World) (hl : l.length ≤ 1000) (hi : i ≤ l.length) (hown : w.ownsRow base 35 3 v l.length (l.flatMap encL))
    (hq : w.heap[q]? = some (.cells (encL x).toArray 35 (0, 0))) (hqv : v.ownBlock ≠ some q) (hbw : base ≤ w.heap.size) :
    Calls Try.prog 48 #[v, .int .i64 i, .slice (some ⟨q, 0, none⟩) 1 1] w fun e w' => ∃ v', e = .returned v' ∧ w'.ownsRow base 35 3 v' (l.length + 1) ((putAt l i x).flatMap encL) ∧ Below base w w' := by
  by_cases h0 : i = l.length
  · subst h0
    obtain ⟨A, c, rfl, _, _⟩ := own_slice hown
    exact insert_end base q l.length c A l x w rfl hl hown hq hbw
  · have hp : i < l.length := by omega
    rcases hown.2 with ⟨rfl, h⟩ | ⟨g, cap, cur, rfl, hbg, hg, hnc, hcm, hcs, htake⟩
    · omega
    · have hqg : q ≠ g := fun e => hqv (by simp [Value.ownBlock, e])
      by_cases hr : l.length + 1 ≤ cap
      · exact insert_room base g q l.length cap i l x cur w rfl hp hr hcm hl hg hcs htake hq hqg hbg hbw
      · exact insert_grow base g q l.length cap i l x cur w rfl hp hnc (by omega) hl hg htake hq hbw
end Go.Proofs.Ytdiclnkkddnncaa
