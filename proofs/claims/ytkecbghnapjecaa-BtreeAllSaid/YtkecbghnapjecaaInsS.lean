/- slices.Insert of one text: with room, in place; without, in a new row; at the end. -/
import Derived.Test.YtkecbghnapjecaaCloneS
import Derived.Test.YtkecbghnapjecaaStage
import Derived.Laws.CopyOwn
import Derived.Laws.IdiomCopy
import Derived.Laws.Externs
import Derived.Lib.AppendZerosOnto
import Derived.Lib.Overlaps
import Derived.Lib.JoinLaws
import Derived.Lib.AppendZeros
import Derived.Lib.Builder
import Derived.Deep.RegionLaw
import Derived.Maps.AppendAt
import Derived.Lib.Walk
import Derived.Lib.Hide
namespace Go.Proofs.Ytkecbghnapjecaa
open Go.RowKit
set_option linter.unusedVariables false
set_option linter.unusedSimpArgs false
/-- copy, of elements of k cells, into a row of the call's own. -/
theorem run_copy_rowK {P : Program} (w : World) (dT sT ty elem : TypeId) (g o dLen dCap : Nat) (a : Addr) (sLen sCap : Nat) (cur : Array Value) (t : TypeId) (cs : List Value) (k n : Nat)
    (hu : P.underlying dT = some (.slice elem)) (hs : (P.info? elem).map (·.size) = some k)
    (hg : w.heap[g]? = some (.cells cur t (0, 0))) (hn : Nat.min sLen dLen = n) (hl : cs.length = n * k)
    (hsrc : ∀ j v, cs[j]? = some v → w.cell? (a.add j) = some v) (hfit : o + cs.length ≤ cur.size) (h1 : ∀ v ∈ cs, v.oneCell' = true) :
    (Builtin.copy_ #[dT, sT] ty #[.slice (some ⟨g, o, none⟩) dLen dCap, .slice (some a) sLen sCap]).run P w =
      .ok (goInt n) (w.setRow g (cur.toList.take o ++ cs ++ cur.toList.drop (o + cs.length)).toArray) := by
  have hl' := run_loadCells_list (P := P) w a cs hsrc
  have hst := run_storeCells_at P g o t cs 0 cur w hg (by simpa using hfit) h1
  cases hq : P.info? elem with
  | none => simp [hq] at hs
  | some i =>
    have hi : i.size = k := by simpa [hq] using hs
    rw [hl] at hl'
    simp [Builtin.copy_, run_underlying hu, Builtin.lenOf, Builtin.firstCells, sizeOf, typeInfo, hq, hi, hn, hl', hst]
section
variable {P : Program}
theorem wp_copy_at (w : World) {o : Oper} {a : Act} {K : Act → World → Prop} {Q : Exit → Act → World → Prop} (d s : Operand) (t t' : TypeId)
    (ho : o.op = .call { callee := .builtin .copy, args := #[d, s], argTypes := #[t, t'] }) (v u : Value) (hd : a.eval d = v) (hs : a.eval s = u) {v' : Value} {w' : World}
    (hr : (Builtin.copy_ #[t, t'] o.type #[v, u]).run P w = .ok v' w') (h : K (a.put o.dst v') w') : o.wp P a w K Q := by
  unfold Oper.wp execOp
  simp only [ho, resolve, invoke, builtin, Sem.run_bind, Sem.run_pure, Result.andThen_ok, List.map_toArray, List.map_cons, List.map_nil, hd, hs, hr]
  exact h
theorem wpList_copy_at (w : World) {ops : Array Oper} {rest : List Oper} {o : Oper} {a : Act} {Q : Exit → Act → World → Prop} (hgd : o.guard = none) (d s : Operand) (t t' : TypeId)
    (ho : o.op = .call { callee := .builtin .copy, args := #[d, s], argTypes := #[t, t'] }) (v u : Value) (hd : a.eval d = v) (hs : a.eval s = u) {v' : Value} {w' : World}
    (hr : (Builtin.copy_ #[t, t'] o.type #[v, u]).run P w = .ok v' w') (h : wpList P ops Q rest (a.put o.dst v') w') : wpList P ops Q (o :: rest) a w :=
  wpList_plain hgd fun _ hK => wp_copy_at w d s t t' ho v u hd hs hr (hK _ _ h)
theorem step_copy_at {ops : Array Oper} {o : Oper} {a : Act} {w : World} {K : Act → World → Prop} {Q : Exit → Act → World → Prop} {E : Prop}
    (hg : o.guard = none) (d x : Operand) (dT sT : TypeId) (hop : o.op = Op.call { callee := Callee.builtin Builtin.copy, args := #[d, x], argTypes := #[dT, sT] })
    (v u : Value) (hd : a.eval d = v) (hx : a.eval x = u) {v' : Value} {w' : World} (hr : (Builtin.copy_ #[dT, sT] o.type #[v, u]).run P w = .ok v' w') (hK : K (a.put o.dst v') w') :
    if Region.wanted o (yielded ops a.tmps) = true then Oper.wp P o a w K Q else E := by
  have hw : Region.wanted o (yielded ops a.tmps) = true := by simp [Region.wanted, hg]
  rw [if_pos hw]
  unfold Oper.wp
  simp [execOp, hop, resolve, invoke, builtin, hd, hx, hr, Result.andThen]
  exact hK
end
/-- One more at a place. -/
def putV {α : Type} (l : List α) (i : Nat) (x : α) : List α := l.take i ++ x :: l.drop i
theorem putV_len {α : Type} (l : List α) (i : Nat) (x : α) (hi : i ≤ l.length) : (putV l i x).length = l.length + 1 := by
  unfold putV; simp; omega
theorem putV_eq {α : Type} (l : List α) (i : Nat) (x : α) : putV l i x = l.take i ++ [x] ++ l.drop i := by simp [putV]
theorem grown_below {w w' : World} {row : Option Nat} (h : Below w.heap.size w w') : w.grownBy w' row := ⟨h.os, h.tape, h.output, h.size, fun k hk _ => h.block k hk⟩
theorem grown_setRow (w : World) (g : Nat) (c : Array Value) : w.grownBy (w.setRow g c) (some g) := by
  refine ⟨rfl, rfl, rfl, by simp [World.setRow], fun k hk hne => ?_⟩
  rw [World.setRow]
  simp only [Array.getElem?_modify]
  rw [if_neg (fun e => hne (by rw [e]))]
/-- What an Insert leaves as it was; where the new row lies. -/
def InsP (w w' : World) (row : Option Nat) (v : Value) : Prop := w.grownBy w' row ∧ (v.ownBlock = row ∨ v.ownBlock = some w.heap.size)
/-- What lies behind a move up by one and a store. -/
theorem insS_fill_room {α : Type} (C A X Y : List α) (i n : Nat) (hi : i < n) (hA : A.length = i) (hX : X.length = 1) (hY : Y.length = (n - i)) (hC : C.take (n) = A ++ Y) (hCl : (n + 1) ≤ C.length) (c1 : List α) (h1 : c1 = C.take ((i + 1)) ++ Y ++ C.drop ((i + 1) + Y.length)) :
    (c1.take (i) ++ X ++ c1.drop (i + X.length)).take ((n + 1)) = A ++ X ++ Y := by
  have hm : i ≤ n := by omega
  have e0 : C.take (i) = A := by
    have := congrArg (List.take (i)) hC
    rw [List.take_take, Nat.min_eq_left hm] at this
    rw [this, ← hA]
    exact List.take_left
  have hl1 : (C.take ((i + 1))).length = (i + 1) := by rw [List.length_take, Nat.min_eq_left (by omega)]
  have e1 : c1.take (i) = A := by
    rw [h1, List.append_assoc, List.take_append_of_le_length (by rw [hl1]; omega), List.take_take, Nat.min_eq_left (by omega), e0]
  have e2 : c1.drop (i + X.length) = Y ++ C.drop ((i + 1) + Y.length) := by
    have : i + X.length = (C.take ((i + 1))).length := by rw [hl1, hX] <;> omega
    rw [h1, List.append_assoc, this, List.drop_left]
  rw [e1, e2, ← List.append_assoc, List.take_append_of_le_length (by simp only [List.length_append]; omega), List.take_of_length_le (by simp only [List.length_append]; omega)]
theorem insS_fill_new {α : Type} (Z A X Y : List α) (i n : Nat) (hi : i < n) (hA : A.length = i) (hX : X.length = 1) (hY : Y.length = (n - i)) (hZ : Z.take (i) = A) (hZl : (n + 1) ≤ Z.length) (z1 : List α) (h1 : z1 = Z.take (i) ++ X ++ Z.drop (i + X.length)) :
    (z1.take ((i + 1)) ++ Y ++ z1.drop ((i + 1) + Y.length)).take ((n + 1)) = A ++ X ++ Y := by
  have e1 : z1.take ((i + 1)) = A ++ X := by
    have : (i + 1) = (A ++ X).length := by rw [List.length_append, hA, hX] <;> omega
    rw [h1, hZ, this, List.take_left]
  rw [e1, List.take_append_of_le_length (by simp only [List.length_append]; omega), List.take_of_length_le (by simp only [List.length_append]; omega)]
theorem insS_zero (k : Nat) : (Builtin.zeroCells (Value.string ⟨#[]⟩).cells k).size = k := by
  simp [Builtin.zeroCells, Value.cells]
set_option maxHeartbeats 4000000 in
set_option maxRecDepth 100000 in
theorem insS_room (base g q n cap i : Nat) (l : List Value) (x : Value) (cur : Array Value) (w : World) (h1 : ∀ u ∈ l, u.oneCell' = true) (hx1 : x.oneCell' = true) (hn : n = l.length) (hin : i < n) (hroom : n + 1 ≤ cap) (hcm : cap ≤ maxLen) (hl : n ≤ 2048)
    (hg : w.heap[g]? = some (.cells cur 9 (0, 0))) (hcs : cur.size = cap) (htake : cur.toList.take (n) = l)
    (hq : w.heap[q]? = some (.cells #[x] 9 (0, 0))) (hqg : q ≠ g) (hbg : base ≤ g) (hbw : base ≤ w.heap.size) :
    Calls Try.prog 47 #[.slice (some ⟨g, 0, none⟩) n cap, .int .i64 i, .slice (some ⟨q, 0, none⟩) 1 1] w fun e w' => ∃ v, e = .returned v ∧ w'.ownsRow base 9 1 v (n + 1) (putV l i x) ∧ InsP w w' (some g) v := by
  have hsz : (Try.prog.info? 9).map (·.size) = some 1 := by kernel_rfl
  have hX : [x].length = 1 := rfl
  have hA : (l.take i).length = i := by rw [List.length_take, Nat.min_eq_left (by omega)]
  have hY : (l.drop i).length = n - i := by rw [List.length_drop, hn]
  have hAY : l = l.take i ++ l.drop i := (List.take_append_drop i l).symm
  have hov : ∀ lb cb, (callFunc 58 #[.slice (some ⟨q, 0, none⟩) 1 1, .slice (some ⟨g, (i + 1), none⟩) lb cb]).run Try.prog w = .ok (.value (.bool false)) w := fun lb cb => by
    rw [run_callFunc_extern Try.func58 (by kernel_rfl) (by kernel_rfl) (by kernel_rfl) (e := Extern.SlicesOverlaps.overlaps #[57, 57] #[4]) (by kernel_rfl),
      Lib.run_overlaps_apart w 57 4 9 Try.underlying57 1 Try.sizeOf9 ⟨q, 0, none⟩ ⟨g, (i + 1), none⟩ 1 1 lb cb hqg 9 9 1 cur.size (by simp [World.shape?, hq, hX]) (by simp [World.shape?, hg]) (by omega) (Lib.frozen_of_heap hq 0) (Lib.frozen_of_heap hq _)]
    rfl
  have hcp1 : ∀ ty dc sc, (Builtin.copy_ #[57, 57] ty #[.slice (some ⟨g, (i + 1), none⟩) (n - i) dc, .slice (some ⟨g, i, none⟩) (n + 1 - i) sc]).run Try.prog w.drew =
      .ok (goInt ((n - i : Nat) : Int)) (w.drew.setRow g (cur.toList.take ((i + 1)) ++ l.drop i ++ cur.toList.drop ((i + 1) + (l.drop i).length)).toArray) := fun ty dc sc =>
    run_copy_rowK w.drew _ _ ty 9 g ((i + 1)) (n - i) dc ⟨g, i, none⟩ (n + 1 - i) sc cur 9 (l.drop i) 1 (n - i) Try.underlying57 hsz hg (by show min (n + 1 - i) (n - i) = n - i; omega) (by rw [Nat.mul_one]; exact hY)
      (fun j v hj => by
        rw [Addr.add_lit]
        have hj' : j < (n - i) := by
          rcases Nat.lt_or_ge j ((n - i)) with h' | h'
          · exact h'
          · rw [List.getElem?_eq_none (by omega)] at hj; cases hj
        have e : l[i + j]? = some v := by
          rw [hAY, List.getElem?_append_right (by omega), hA, Nat.add_sub_cancel_left]; exact hj
        rw [← htake, List.getElem?_take, if_pos (by omega), Array.getElem?_toList] at e
        show w.cell? _ = _
        rw [Lib.cell_of_heap hg]; exact e)
      (by rw [hY]; omega) (fun u hu => h1 u (List.mem_of_mem_drop hu))
  obtain ⟨c1, hc1⟩ : ∃ c1, c1 = (cur.toList.take ((i + 1)) ++ l.drop i ++ cur.toList.drop ((i + 1) + (l.drop i).length)).toArray := ⟨_, rfl⟩
  rw [← hc1] at hcp1
  have hs1 : c1.size = cur.size := by
    rw [hc1]; simp [hY, Nat.min_def]; split <;> omega
  have hcp2 : ∀ ty dc, (Builtin.copy_ #[57, 57] ty #[.slice (some ⟨g, i, none⟩) (n + 1 - i) dc, .slice (some ⟨q, 0, none⟩) 1 1]).run Try.prog (w.drew.setRow g c1) =
      .ok (goInt 1) ((w.drew.setRow g c1).setRow g (c1.toList.take (i) ++ [x] ++ c1.toList.drop (i + [x].length)).toArray) := fun ty dc =>
    run_copy_rowK (w.drew.setRow g c1) _ _ ty 9 g (i) (n + 1 - i) dc ⟨q, 0, none⟩ 1 1 c1 9 [x] 1 1 Try.underlying57 hsz (setRow_heap w.drew g cur c1 _ _ hg) (by show min 1 (n + 1 - i) = 1; omega) hX
      (fun j v hj => by
        rw [Addr.add_lit, Nat.zero_add]
        have hq' : (w.drew.setRow g c1).heap[q]? = some (.cells #[x] 9 (0, 0)) := by
          rw [World.setRow]
          simp [Array.getElem?_modify, Ne.symm hqg]
          exact hq
        rw [Lib.cell_of_heap hq']; simpa using hj)
      (by rw [hX, hs1]; omega) (by simpa using hx1)
  obtain ⟨c2, hc2⟩ : ∃ c2, c2 = (c1.toList.take (i) ++ [x] ++ c1.toList.drop (i + [x].length)).toArray := ⟨_, rfl⟩
  rw [← hc2] at hcp2
  have hfin : c2.toList.take ((n + 1)) = putV l i x := by
    rw [hc2, putV_eq]
    exact insS_fill_room cur.toList _ [x] _ i n hin hA hX hY (by rw [htake]; exact hAY) (by rw [Array.length_toList, hcs]; exact hroom) c1.toList (by rw [hc1])
  have hs2 : c2.size = cap := by
    rw [hc2]; simp [hX, hs1, hcs, Nat.min_def]; split <;> omega
  have hlen : (putV l i x).length = (n + 1) := by rw [putV_len _ _ _ (by omega), hn]
  have z1 : ¬ ((i : Int) = (n : Int)) := by omega
  have z2 : ¬ ((cap : Int) < (n : Int) + 1) := by omega
  have z3 : (0 : Int) ≤ (n : Int) + 1 := by omega
  have z4 : ((n : Int) + 1).toNat = n + 1 := by omega
  have z5 : ¬ (cap = i + 1) := by omega
  have z6 : ¬ (cap = i) := by omega
  have z8 : ((i : Int) + 1).toNat = i + 1 := by omega
  have z9 : (i : Int) ≤ (n : Int) := by omega
  have z10 : (i : Int) + 1 ≤ (n : Int) + 1 := by omega
  have z11 : n + 1 - (i + 1) = n - i := by omega
  have ZL := Lib.hid hlen
  clear hc1 hc2 htake hn hs1 hY hX hA hAY hlen
  generalize hPA : putV l i x = PA at *
  clear hPA
  go_enter Try.func47, Try.ntmps47
  go_wp2_with (simp only [hov])
  have hw1 : IntKind.i64.wrap 1 = 1 := by decide
  have hw2 : IntKind.i64.wrap ((i : Int) + 1) = (i : Int) + 1 := IntWalk.i64_in _ ⟨by omega, by omega⟩
  have hb1 : (0 : Int) ≤ (i : Int) + 1 := by omega
  have hb2 : (i : Int) + 1 ≤ (n : Int) + 1 := by omega
  have hb3 : (i : Int) ≤ (n : Int) + 1 := by omega
  go_region_law (refine step_copy_at rfl _ _ 57 57 rfl _ _ (by simp [Act.eval, Act.put]) (by simp [Act.eval, Act.put]) (hcp1 _ _ _) ?_)
  go_wp2_with (at_builtin; refine wpList_copy_at _ rfl _ _ 57 57 rfl _ _ rfl rfl (hcp2 _ _) ?_)
  go_ret
  refine ⟨_, rfl, ?_, grown_trans (grown_trans (⟨rfl, rfl, rfl, Nat.le_refl _, fun _ _ _ => rfl⟩ : w.grownBy w.drew (some g)) (grown_setRow _ g c1)) (grown_setRow _ g c2), .inl rfl⟩
  exact ⟨by rw [Nat.mul_one]; exact ZL.out, .inr ⟨g, cap, c2, rfl, hbg, setRow_heap _ g c1 c2 _ _ (setRow_heap w.drew g cur c1 _ _ hg), hroom, hcm, by rw [Nat.mul_one]; exact hs2, by rw [Nat.mul_one]; exact hfin⟩⟩
set_option maxHeartbeats 4000000 in
set_option maxRecDepth 100000 in
theorem insS_grow (base g q n cap i : Nat) (l : List Value) (x : Value) (cur : Array Value) (w : World) (h1 : ∀ u ∈ l, u.oneCell' = true) (hx1 : x.oneCell' = true) (hn : n = l.length) (hin : i < n) (hnc : n ≤ cap) (hroom : cap < n + 1) (hl : n ≤ 2048)
    (hg : w.heap[g]? = some (.cells cur 9 (0, 0))) (htake : cur.toList.take (n) = l)
    (hq : w.heap[q]? = some (.cells #[x] 9 (0, 0))) (hbw : base ≤ w.heap.size) :
    Calls Try.prog 47 #[.slice (some ⟨g, 0, none⟩) n cap, .int .i64 i, .slice (some ⟨q, 0, none⟩) 1 1] w fun e w' => ∃ v, e = .returned v ∧ w'.ownsRow base 9 1 v (n + 1) (putV l i x) ∧ InsP w w' (some g) v := by
  have hsz : (Try.prog.info? 9).map (·.size) = some 1 := by kernel_rfl
  have hX : [x].length = 1 := rfl
  have hA : (l.take i).length = i := by rw [List.length_take, Nat.min_eq_left (by omega)]
  have hY : (l.drop i).length = n - i := by rw [List.length_drop, hn]
  have hAY : l = l.take i ++ l.drop i := (List.take_append_drop i l).symm
  obtain ⟨i0, hi, hz0, hz1, hz2⟩ := infoS
  have hgl : g < w.heap.size := by
    rcases Nat.lt_or_ge g w.heap.size with h' | h'
    · exact h'
    · simp [Array.getElem?_eq_none h'] at hg
  have hql : q < w.heap.size := by
    rcases Nat.lt_or_ge q w.heap.size with h' | h'
    · exact h'
    · simp [Array.getElem?_eq_none h'] at hq
  have cellg : ∀ j v, l[j]? = some v → (Obj.cells cur 9 (0, 0) : Obj) = .cells cur 9 (0, 0) → cur[j]? = some v := fun j v hj _ => by
    have hj' : j < n := by
      have := lt_of_get hj; rw [← hn] at this; exact this
    rw [← htake, List.getElem?_take, if_pos hj', Array.getElem?_toList] at hj
    exact hj
  have hk : i + (n + 1 - i) = n + 1 := by omega
  have hkz : ((n + 1 - i : Nat) : Int) = (n : Int) + 1 - (i : Int) := by omega
  have hrz : ∀ ty, (Builtin.append_ #[57, 3] ty #[.slice (some ⟨g, 0, none⟩) i cap, .int .i64 ((n : Int) + 1 - (i : Int))]).run Try.prog w = .ok (.slice (some ⟨w.heap.size, 0, none⟩) (n + 1) (grownCap w (n + 1) cap 9)) (w.drew.alloc (.cells ((l.take i).toArray ++ Builtin.zeroCells (Value.string ⟨#[]⟩).cells (n + 1 - i) ++ Builtin.zeroCells (Value.string ⟨#[]⟩).cells (grownCap w (n + 1) cap 9 - (n + 1))) 9)) := fun ty => by
    have h := Lib.run_append_grow_zeros w 57 3 ty 9 i0 _ .i64 .i64 Try.underlying57 Try.underlying3 hi hz0 (some ⟨g, 0, none⟩) i cap (l.take i) (by rw [hz1]; exact run_firstCells_some w.drew 1 i ⟨g, 0, none⟩ i cap _ (by rw [Nat.mul_one]; exact hA) (fun j v hj => by
      rw [Addr.add_lit, Nat.zero_add]
      show w.cell? _ = _
      rw [Lib.cell_of_heap hg]
      exact cellg j v (by rw [hAY, List.getElem?_append_left (lt_of_get hj)]; exact hj) rfl)) (n + 1 - i) (by omega) (by omega) (by omega) (by omega) (by rw [hz2]; omega) (by rw [hz2, hk]; exact growslice_fits hroom (by omega))
    rw [hk, hkz] at h
    exact h
  obtain ⟨G, hG⟩ : ∃ G, G = grownCap w (n + 1) cap 9 := ⟨_, rfl⟩
  have hGn : n + 1 ≤ G := by rw [hG]; exact grownCap_ge w _ _ _
  have hGm : G ≤ maxLen := by rw [hG]; exact grownCap_le_maxLen w _ _ _ (by unfold maxLen; omega)
  rw [← hG] at hrz
  obtain ⟨Z, hZ⟩ : ∃ Z : Array Value, Z = (l.take i).toArray ++ Builtin.zeroCells (Value.string ⟨#[]⟩).cells (n + 1 - i) ++ Builtin.zeroCells (Value.string ⟨#[]⟩).cells (G - (n + 1)) := ⟨_, rfl⟩
  rw [← hZ] at hrz
  have hZs : Z.size = G := by
    rw [hZ, Array.size_append, Array.size_append, insS_zero, insS_zero, List.size_toArray, hA]; omega
  have hZt : Z.toList.take (i) = l.take i := by
    rw [hZ, Array.toList_append, Array.toList_append, List.append_assoc]
    exact List.take_left' hA
  obtain ⟨z1, hz1'⟩ : ∃ z1, z1 = (Z.toList.take (i) ++ [x] ++ Z.toList.drop (i + [x].length)).toArray := ⟨_, rfl⟩
  have hs1 : z1.size = G := by
    rw [hz1']; simp [hX, hZs, Nat.min_def]; split <;> omega
  have hcpA : ∀ (W : World), W.heap[w.heap.size]? = some (.cells Z 9 (0, 0)) → W.heap[q]? = some (.cells #[x] 9 (0, 0)) → ∀ ty dc, (Builtin.copy_ #[57, 57] ty #[.slice (some ⟨w.heap.size, i, none⟩) (n + 1 - i) dc, .slice (some ⟨q, 0, none⟩) 1 1]).run Try.prog W =
      .ok (goInt 1) (W.setRow w.heap.size z1) := fun W hN hQ ty dc => by
    rw [hz1']
    exact run_copy_rowK W _ _ ty 9 w.heap.size (i) (n + 1 - i) dc ⟨q, 0, none⟩ 1 1 Z 9 [x] 1 1 Try.underlying57 hsz hN (by show min 1 (n + 1 - i) = 1; omega) hX
      (fun j v hj => by
        rw [Addr.add_lit, Nat.zero_add, Lib.cell_of_heap hQ]; simpa using hj)
      (by rw [hX, hZs]; omega) (by simpa using hx1)
  obtain ⟨z2, hz2'⟩ : ∃ z2, z2 = (z1.toList.take ((i + 1)) ++ l.drop i ++ z1.toList.drop ((i + 1) + (l.drop i).length)).toArray := ⟨_, rfl⟩
  have hcpB : ∀ (W : World), W.heap[w.heap.size]? = some (.cells z1 9 (0, 0)) → W.heap[g]? = some (.cells cur 9 (0, 0)) → ∀ ty dc sc, (Builtin.copy_ #[57, 57] ty #[.slice (some ⟨w.heap.size, (i + 1), none⟩) (n - i) dc, .slice (some ⟨g, i, none⟩) (n - i) sc]).run Try.prog W =
      .ok (goInt ((n - i : Nat) : Int)) (W.setRow w.heap.size z2) := fun W hN hQ ty dc sc => by
    rw [hz2']
    exact run_copy_rowK W _ _ ty 9 w.heap.size ((i + 1)) (n - i) dc ⟨g, i, none⟩ (n - i) sc z1 9 (l.drop i) 1 (n - i) Try.underlying57 hsz hN (by show min (n - i) (n - i) = n - i; omega) (by rw [Nat.mul_one]; exact hY)
      (fun j v hj => by
        rw [Addr.add_lit, Lib.cell_of_heap hQ]
        exact cellg (i + j) v (by rw [hAY, List.getElem?_append_right (by omega), hA, Nat.add_sub_cancel_left]; exact hj) rfl)
      (by rw [hY, hs1]; omega) (fun u hu => h1 u (List.mem_of_mem_drop hu))
  have hfin : z2.toList.take ((n + 1)) = putV l i x := by
    rw [hz2', putV_eq]
    exact insS_fill_new Z.toList _ [x] _ i n hin hA hX hY hZt (by rw [Array.length_toList, hZs]; exact hGn) z1.toList (by rw [hz1'])
  have hs2 : z2.size = G := by
    rw [hz2']; simp [hY, hs1, Nat.min_def]; split <;> omega
  have hlen : (putV l i x).length = (n + 1) := by rw [putV_len _ _ _ (by omega), hn]
  have A1 : ((w.alloc (.cells Z 9)).drew).heap[w.heap.size]? = some (.cells Z 9 (0, 0)) := heap_alloc_new w _
  have A2 : ((w.alloc (.cells Z 9)).drew).heap[q]? = some (.cells #[x] 9 (0, 0)) := (Lib.alloc_old w _ q hql).trans hq
  have A3 : ((w.alloc (.cells Z 9)).drew).heap[g]? = some (.cells cur 9 (0, 0)) := (Lib.alloc_old w _ g hgl).trans hg
  have B1 : ((((w.alloc (.cells Z 9)).drew).setRow w.heap.size z1).drew).heap[w.heap.size]? = some (.cells z1 9 (0, 0)) := setRow_heap ((w.alloc (.cells Z 9)).drew) w.heap.size Z z1 _ _ A1
  have B2 : ((((w.alloc (.cells Z 9)).drew).setRow w.heap.size z1).drew).heap[g]? = some (.cells cur 9 (0, 0)) := by
    show (((w.alloc (.cells Z 9)).drew).setRow w.heap.size z1).heap[g]? = _
    rw [World.setRow]
    simp only [Array.getElem?_modify, if_neg (Nat.ne_of_gt hgl)]
    exact A3
  have HA := Lib.hid A1
  have HA2 := Lib.hid A2
  have HB1 := Lib.hid B1
  have HB2 := Lib.hid B2
  have HF := Lib.hid hfin
  have HG := Lib.hid hGm
  have ZL := Lib.hid hlen
  have y1 : ¬ ((i : Int) = (n : Int)) := by omega
  have y2 : (cap : Int) < (n : Int) + 1 := by omega
  have y3 : (0 : Int) ≤ (n : Int) + 1 := by omega
  have y4 : ((n : Int) + 1).toNat = n + 1 := by omega
  have y5 : ¬ (G = i + 1) := by omega
  have y6 : ¬ (cap = i) := by omega
  have y7 : ¬ (G = i) := by omega
  have y8 : ((i : Int) + 1).toNat = i + 1 := by omega
  have y9 : (i : Int) ≤ (n : Int) := by omega
  have y10 : (i : Int) ≤ (cap : Int) := by omega
  have y11 : n + 1 - (i + 1) = n - i := by omega
  have hw1 : IntKind.i64.wrap 1 = 1 := by decide
  have hw2 : IntKind.i64.wrap ((i : Int) + 1) = (i : Int) + 1 := IntWalk.i64_in _ ⟨by omega, by omega⟩
  have hw3 : IntKind.i64.wrap ((n : Int) + 1 - (i : Int)) = (n : Int) + 1 - (i : Int) := IntWalk.i64_in _ ⟨by omega, by omega⟩
  have hb1 : (0 : Int) ≤ (i : Int) + 1 := by omega
  have hb2 : (i : Int) + 1 ≤ (n : Int) + 1 := by omega
  have hb3 : (i : Int) ≤ (n : Int) + 1 := by omega
  clear hz1' hz2' htake hn hY hX hZ hs1 hZs hG A1 A2 A3 B1 B2 hfin hGm hi hz0 hz1 hz2 hsz cellg hA hAY hZt hlen hk hkz
  generalize hPA : putV l i x = PA at *
  clear hPA
  go_enter Try.func47, Try.ntmps47
  go_upto_region 10 with (at_builtin; refine Lib.wpList_append_run _ rfl _ _ _ _ rfl _ _ rfl rfl _ _ (hrz _) ?_)
  have hA := fun ty dc => hcpA _ HA.out HA2.out ty dc
  go_wp2_with fail
  clear hA
  go_region_law (refine step_copy_at rfl _ _ 57 57 rfl (.slice (some ⟨w.heap.size, (i + 1), none⟩) (n - i) (G - (i + 1))) (.slice (some ⟨g, i, none⟩) (n - i) (cap - i)) (by simp [Act.eval, Act.put]) (by simp [Act.eval, Act.put]) (hcpB _ HB1.out HB2.out _ _ _) ?_)
  go_wp2
  go_ret
  refine ⟨_, rfl, ⟨by rw [Nat.mul_one]; exact ZL.out, .inr ⟨w.heap.size, G, z2, rfl, hbw, setRow_heap _ w.heap.size z1 z2 _ _ HB1.out, hGn, HG.out, by rw [Nat.mul_one]; exact hs2, by rw [Nat.mul_one]; exact HF.out⟩⟩, ?_⟩
  exact ⟨grown_below (below_setRow (Below.drew (below_setRow (Below.drew ((Below.refl w.heap.size w).alloc (Nat.le_refl _) _)) (Nat.le_refl _) _)) (Nat.le_refl _) _), .inr rfl⟩
set_option maxHeartbeats 4000000 in
set_option maxRecDepth 100000 in
theorem insS_end (base q n cap : Nat) (A : Option Addr) (l : List Value) (x : Value) (w : World) (h1 : ∀ u ∈ l, u.oneCell' = true) (hx1 : x.oneCell' = true) (hn : n = l.length) (hl : n ≤ 2048) (hown : w.ownsRow base 9 1 (.slice A n cap) n l)
    (hq : w.heap[q]? = some (.cells #[x] 9 (0, 0))) (hbw : base ≤ w.heap.size) :
    Calls Try.prog 47 #[.slice A n cap, .int .i64 n, .slice (some ⟨q, 0, none⟩) 1 1] w fun e w' => ∃ v, e = .returned v ∧ w'.ownsRow base 9 1 v (n + 1) (putV l n x) ∧ InsP w w' (Value.slice A n cap).ownBlock v := by
  obtain ⟨i0, hi, hz0, hz1, hz2⟩ := infoS
  have hPA : putV l n x = l ++ [x] := by
    rw [putV_eq, hn, List.take_length, List.drop_length]; simp
  have hnc : n ≤ cap := by
    obtain ⟨A', c', hv, hc', _⟩ := own_slice hown
    cases hv; exact hc'
  rw [hPA]
  clear hPA hn
  have hw1 : IntKind.i64.wrap 1 = 1 := by decide
  by_cases hcn : cap = n
  · subst hcn
    go_enter Try.func47, Try.ntmps47
    go_upto_region 7 with fail
    go_wp2_with (at_builtin; refine wpList_append_own_at _ rfl _ _ 57 rfl base 9 i0 (.string ⟨#[]⟩) 1 16 Try.underlying57 hi hz0 hz1 hz2 rfl (by decide) _ _ _ rfl hown ⟨q, 0, none⟩ 1 1 [x] rfl rfl ?c1 ?c2 ?c3 ?c4 ?c5 ?_)
    case c1 =>
      intro j u hj
      rw [Addr.add_lit, Nat.zero_add, Lib.cell_of_heap hq]; simpa using hj
    case c2 => exact by simpa using hx1
    case c3 => unfold maxLen; omega
    case c4 => omega
    case c5 => exact hbw
    intro v' w1 hown' hgrow hnil hat
    go_wp2
    go_ret
    exact ⟨v', rfl, hown', hgrow, hat⟩
  · have y5 : ¬ n = cap := fun h => hcn h.symm
    go_enter Try.func47, Try.ntmps47
    go_upto_region 7 with fail
    go_wp2_with (at_builtin; refine wpList_append_own_at _ rfl _ _ 57 rfl base 9 i0 (.string ⟨#[]⟩) 1 16 Try.underlying57 hi hz0 hz1 hz2 rfl (by decide) _ _ _ rfl hown ⟨q, 0, none⟩ 1 1 [x] rfl rfl ?d1 ?d2 ?d3 ?d4 ?d5 ?_)
    case d1 =>
      intro j u hj
      rw [Addr.add_lit, Nat.zero_add, Lib.cell_of_heap hq]; simpa using hj
    case d2 => exact by simpa using hx1
    case d3 => unfold maxLen; omega
    case d4 => omega
    case d5 => exact hbw
    intro v' w1 hown' hgrow hnil hat
    go_wp2
    go_ret
    exact ⟨v', rfl, hown', hgrow, hat⟩
/-- Insert of one at a place. -/
theorem insS_any (base q i : Nat) (v : Value) (l : List Value) (x : Value) (w : World) (h1 : ∀ u ∈ l, u.oneCell' = true) (hx1 : x.oneCell' = true) (hl : l.length ≤ 2048) (hi : i ≤ l.length) (hown : w.ownsRow base 9 1 v l.length l)
    (hq : w.heap[q]? = some (.cells #[x] 9 (0, 0))) (hqv : v.ownBlock ≠ some q) (hbw : base ≤ w.heap.size) :
    Calls Try.prog 47 #[v, .int .i64 i, .slice (some ⟨q, 0, none⟩) 1 1] w fun e w' => ∃ v', e = .returned v' ∧ w'.ownsRow base 9 1 v' (l.length + 1) (putV l i x) ∧ InsP w w' v.ownBlock v' := by
  by_cases h0 : i = l.length
  · subst h0
    obtain ⟨A, c, rfl, _, _⟩ := own_slice hown
    exact insS_end base q l.length c A l x w h1 hx1 rfl hl hown hq hbw
  · have hp : i < l.length := by omega
    rcases hown.2 with ⟨rfl, h⟩ | ⟨g, cap, cur, rfl, hbg, hg, hnc, hcm, hcs, htake⟩
    · omega
    · rw [Nat.mul_one] at hcs htake
      have hqg : q ≠ g := fun e => hqv (by simp [Value.ownBlock, e])
      by_cases hr : l.length + 1 ≤ cap
      · exact insS_room base g q l.length cap i l x cur w h1 hx1 rfl hp hr hcm hl hg hcs htake hq hqg hbg hbw
      · exact insS_grow base g q l.length cap i l x cur w h1 hx1 rfl hp hnc (by omega) hl hg htake hq hbw
end Go.Proofs.Ytkecbghnapjecaa
