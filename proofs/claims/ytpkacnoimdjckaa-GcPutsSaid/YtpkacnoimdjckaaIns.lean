/- slices.Insert of one version at the head: with room, in place; without, in a new row. -/
import Derived.Test.YtpkacnoimdjckaaVerW3
import Derived.Laws.CopyOwn
import Derived.Laws.IdiomCopy
import Derived.Laws.Externs
import Derived.Lib.AppendZerosOnto
import Derived.Lib.Overlaps
import Derived.Lib.JoinLaws
import Derived.Lib.AppendZeros
import Derived.Lib.Builder
import Derived.Deep.RegionLaw
namespace Go.Proofs.Ytpkacnoimdjckaa
open Go.RowKit
open Go.Shelf
set_option linter.unusedVariables false
set_option linter.unusedSimpArgs false
/-- copy, of elements of k cells, into a row of the call's own. -/
theorem run_copy_rowK {P : Program} (w : World) (dT sT ty elem : TypeId) (g o dLen dCap : Nat) (a : Addr) (sLen sCap : Nat) (cur : Array Value) (t : TypeId) (cs : List Value) (k n : Nat)
    (hu : P.underlying dT = some (.slice elem)) (hs : (P.info? elem).map (·.size) = some k)
    (hg : w.heap[g]? = some (.cells cur t (0, 0))) (hn : Nat.min sLen dLen = n) (hl : cs.length = n * k)
    (hsrc : ∀ j v, cs[j]? = some v → w.cell? (a.add j) = some v) (hfit : o + cs.length ≤ cur.size) (h1 : ∀ v ∈ cs, v.oneCell' = true) :
    (Builtin.copy_ #[dT, sT] ty #[.slice (some ⟨g, o, none⟩) dLen dCap, .slice (some a) sLen sCap]).run P w =
      .ok (goInt n) (w.setRow g (cur.toList.take o ++ cs ++ cur.toList.drop (o + cs.length)).toArray) := by
  have hl' := run_loadCells_list (P := P) w a cs hsrc
  have hst := run_storeCells_at P g o t cs 0 cur w hg (by simpa using hfit) h1
  cases hq : P.info? elem with
  | none => simp [hq] at hs
  | some i =>
    have hi : i.size = k := by simpa [hq] using hs
    rw [hl] at hl'
    simp [Builtin.copy_, run_underlying hu, Builtin.lenOf, Builtin.firstCells, sizeOf, typeInfo, hq, hi, hn, hl', hst]
section
variable {P : Program}
theorem wp_copy_at (w : World) {o : Oper} {a : Act} {K : Act → World → Prop} {Q : Exit → Act → World → Prop} (d s : Operand) (t t' : TypeId)
    (ho : o.op = .call { callee := .builtin .copy, args := #[d, s], argTypes := #[t, t'] }) (v u : Value) (hd : a.eval d = v) (hs : a.eval s = u) {v' : Value} {w' : World}
    (hr : (Builtin.copy_ #[t, t'] o.type #[v, u]).run P w = .ok v' w') (h : K (a.put o.dst v') w') : o.wp P a w K Q := by
  unfold Oper.wp execOp
  simp only [ho, resolve, invoke, builtin, Sem.run_bind, Sem.run_pure, Result.andThen_ok, List.map_toArray, List.map_cons, List.map_nil, hd, hs, hr]
  exact h
theorem wpList_copy_at (w : World) {ops : Array Oper} {rest : List Oper} {o : Oper} {a : Act} {Q : Exit → Act → World → Prop} (hgd : o.guard = none) (d s : Operand) (t t' : TypeId)
    (ho : o.op = .call { callee := .builtin .copy, args := #[d, s], argTypes := #[t, t'] }) (v u : Value) (hd : a.eval d = v) (hs : a.eval s = u) {v' : Value} {w' : World}
    (hr : (Builtin.copy_ #[t, t'] o.type #[v, u]).run P w = .ok v' w') (h : wpList P ops Q rest (a.put o.dst v') w') : wpList P ops Q (o :: rest) a w :=
  wpList_plain hgd fun _ hK => wp_copy_at w d s t t' ho v u hd hs hr (hK _ _ h)
theorem step_copy_at {ops : Array Oper} {o : Oper} {a : Act} {w : World} {K : Act → World → Prop} {Q : Exit → Act → World → Prop} {E : Prop}
    (hg : o.guard = none) (d x : Operand) (dT sT : TypeId) (hop : o.op = Op.call { callee := Callee.builtin Builtin.copy, args := #[d, x], argTypes := #[dT, sT] })
    (v u : Value) (hd : a.eval d = v) (hx : a.eval x = u) {v' : Value} {w' : World} (hr : (Builtin.copy_ #[dT, sT] o.type #[v, u]).run P w = .ok v' w') (hK : K (a.put o.dst v') w') :
    if Region.wanted o (yielded ops a.tmps) = true then Oper.wp P o a w K Q else E := by
  have hw : Region.wanted o (yielded ops a.tmps) = true := by simp [Region.wanted, hg]
  rw [if_pos hw]
  unfold Oper.wp
  simp [execOp, hop, resolve, invoke, builtin, hd, hx, hr, Result.andThen]
  exact hK
end
theorem fill_head {α : Type} (X T Y D : List α) (n : Nat) (hX : X.length = 4) (hT : T.length = 4) (hY : Y.length = n * 4) : ([] ++ X ++ (T ++ Y ++ D).drop (0 + X.length)).take ((n + 1) * 4) = X ++ Y := by
  have e : (T ++ Y ++ D).drop (0 + X.length) = Y ++ D := by
    rw [List.append_assoc, Nat.zero_add, hX, ← hT, List.drop_left]
  rw [e, List.nil_append, ← List.append_assoc, List.take_append_of_le_length (by rw [List.length_append]; omega), List.take_of_length_le (by rw [List.length_append]; omega)]
theorem encVer_cells (x : Ver) : ∀ v ∈ encVer x, v.oneCell' = true := fun v hv => by
  simp [encVer] at hv
  rcases hv with rfl | rfl | rfl | rfl <;> rfl
set_option maxHeartbeats 4000000 in
set_option maxRecDepth 100000 in
/-- Insert of one at the head of a row that is not empty and has room. -/
theorem insert_room (base g q n cap : Nat) (l : List Ver) (x : Ver) (cur : Array Value) (w : World) (hn : n = l.length) (h0 : 0 < n) (hroom : n + 1 ≤ cap) (hcm : cap ≤ maxLen) (hl : n ≤ 1000)
    (hg : w.heap[g]? = some (.cells cur 45 (0, 0))) (hcs : cur.size = cap * 4) (htake : cur.toList.take (n * 4) = l.flatMap encVer)
    (hq : w.heap[q]? = some (.cells (encVer x).toArray 45 (0, 0))) (hqg : q ≠ g) (hbg : base ≤ g) (hbw : base ≤ w.heap.size) :
    Calls Try.prog 52 #[.slice (some ⟨g, 0, none⟩) n cap, .int .i64 0, .slice (some ⟨q, 0, none⟩) 1 1] w fun e w' => ∃ v, e = .returned v ∧ w'.ownsRow base 45 4 v (n + 1) ((x :: l).flatMap encVer) ∧ Below base w w' := by
  have hsz : (Try.prog.info? 45).map (·.size) = some 4 := by kernel_rfl
  have hX : (encVer x).length = 4 := rfl
  have hY : (l.flatMap encVer).length = n * 4 := by rw [flat_len encVer_len, hn]
  have hov : ∀ lb cb, (callFunc 65 #[.slice (some ⟨q, 0, none⟩) 1 1, .slice (some ⟨g, 4, none⟩) lb cb]).run Try.prog w = .ok (.value (.bool false)) w := fun lb cb => by
    rw [run_callFunc_extern Try.func65 (by kernel_rfl) (by kernel_rfl) (by kernel_rfl) (e := Extern.SlicesOverlaps.overlaps #[44, 44] #[4]) (by kernel_rfl),
      Lib.run_overlaps_apart w 44 4 45 Try.underlying44 4 Try.sizeOf45 ⟨q, 0, none⟩ ⟨g, 4, none⟩ 1 1 lb cb hqg 45 45 4 cur.size (by simp [World.shape?, hq, hX]) (by simp [World.shape?, hg]) (by omega) (Lib.frozen_of_heap hq 0) (Lib.frozen_of_heap hq _)]
    rfl
  have hcp1 : ∀ ty dc sc, (Builtin.copy_ #[44, 44] ty #[.slice (some ⟨g, 4, none⟩) n dc, .slice (some ⟨g, 0, none⟩) (n + 1) sc]).run Try.prog w.drew =
      .ok (goInt n) (w.drew.setRow g (cur.toList.take 4 ++ l.flatMap encVer ++ cur.toList.drop (4 + (l.flatMap encVer).length)).toArray) := fun ty dc sc =>
    run_copy_rowK w.drew _ _ ty 45 g 4 n dc ⟨g, 0, none⟩ (n + 1) sc cur 45 (l.flatMap encVer) 4 n Try.underlying44 hsz hg (by show min (n + 1) n = n; omega) hY
      (fun j v hj => by
        rw [Addr.add_lit, Nat.zero_add]
        have hj' : j < n * 4 := by
          rcases Nat.lt_or_ge j (n * 4) with h' | h'
          · exact h'
          · rw [List.getElem?_eq_none (by omega)] at hj; cases hj
        rw [← htake, List.getElem?_take, if_pos hj', Array.getElem?_toList] at hj
        show w.cell? _ = _
        rw [Lib.cell_of_heap hg]; exact hj)
      (by rw [hY]; omega) (encVer_one l)
  obtain ⟨c1, hc1⟩ : ∃ c1, c1 = (cur.toList.take 4 ++ l.flatMap encVer ++ cur.toList.drop (4 + (l.flatMap encVer).length)).toArray := ⟨_, rfl⟩
  rw [← hc1] at hcp1
  have hs1 : c1.size = cur.size := by
    rw [hc1]; simp [hY, Nat.min_def]; split <;> omega
  have hcp2 : ∀ ty dc, (Builtin.copy_ #[44, 44] ty #[.slice (some ⟨g, 0, none⟩) (n + 1) dc, .slice (some ⟨q, 0, none⟩) 1 1]).run Try.prog (w.drew.setRow g c1) =
      .ok (goInt 1) ((w.drew.setRow g c1).setRow g (c1.toList.take 0 ++ encVer x ++ c1.toList.drop (0 + (encVer x).length)).toArray) := fun ty dc =>
    run_copy_rowK (w.drew.setRow g c1) _ _ ty 45 g 0 (n + 1) dc ⟨q, 0, none⟩ 1 1 c1 45 (encVer x) 4 1 Try.underlying44 hsz (setRow_heap w.drew g cur c1 _ _ hg) (by show min 1 (n + 1) = 1; omega) hX
      (fun j v hj => by
        rw [Addr.add_lit, Nat.zero_add]
        have hq' : (w.drew.setRow g c1).heap[q]? = some (.cells (encVer x).toArray 45 (0, 0)) := by
          rw [World.setRow]
          simp [Array.getElem?_modify, Ne.symm hqg]
          exact hq
        rw [Lib.cell_of_heap hq']; simpa using hj)
      (by rw [hX, hs1]; omega) (encVer_cells x)
  obtain ⟨c2, hc2⟩ : ∃ c2, c2 = (c1.toList.take 0 ++ encVer x ++ c1.toList.drop (0 + (encVer x).length)).toArray := ⟨_, rfl⟩
  rw [← hc2] at hcp2
  have hfin : c2.toList.take ((n + 1) * 4) = (x :: l).flatMap encVer := by
    rw [hc2, hc1, List.flatMap_cons]
    exact fill_head (encVer x) (cur.toList.take 4) (l.flatMap encVer) _ n hX (by rw [List.length_take, Array.length_toList]; omega) hY
  have hs2 : c2.size = cap * 4 := by
    rw [hc2]; simp [hX, hs1, hcs]; omega
  have z1 : ¬ ((0 : Int) = (n : Int)) := by omega
  have z2 : ¬ ((cap : Int) < (n : Int) + 1) := by omega
  have z3 : (0 : Int) ≤ (n : Int) + 1 := by omega
  have z4 : ((n : Int) + 1).toNat = n + 1 := by omega
  have z5 : ¬ (cap = 1) := by omega
  have z6 : ¬ (cap = 0) := by omega
  have z7 : l.length = n := hn.symm
  have Z7 := Lib.hid z7
  clear hc1 hc2 htake hn hs1 hY hX z7
  go_enter Try.func52, Try.ntmps52
  go_wp2_with (simp only [hov])
  have hw1 : IntKind.i64.wrap 1 = 1 := by decide
  have hb1 : (1 : Int) ≤ (n : Int) + 1 := by omega
  go_region_law (refine step_copy_at rfl _ _ 44 44 rfl _ _ (by simp [Act.eval, Act.put]) (by simp [Act.eval, Act.put]) (hcp1 _ _ _) ?_)
  go_wp2_with (at_builtin; refine wpList_copy_at _ rfl _ _ 44 44 rfl _ _ rfl rfl (hcp2 _ _) ?_)
  go_ret
  refine ⟨_, rfl, ?_, below_setRow (below_setRow (Below.drew (Below.refl base w)) hbg _) hbg _⟩
  exact ⟨by rw [flat_len encVer_len]; simp [Z7.out], .inr ⟨g, cap, c2, rfl, hbg, setRow_heap _ g c1 c2 _ _ (setRow_heap w.drew g cur c1 _ _ hg), hroom, hcm, hs2, hfin⟩⟩
theorem fill_both {α : Type} (Z X Y : List α) (n : Nat) (hX : X.length = 4) (hY : Y.length = n * 4) (z1 : List α) (h1 : z1 = Z.take 0 ++ X ++ Z.drop (0 + X.length)) : (z1.take 4 ++ Y ++ z1.drop (4 + Y.length)).take ((n + 1) * 4) = X ++ Y := by
  have e : z1.take 4 = X := by
    rw [h1, List.take_zero, List.nil_append, ← hX, List.take_left]
  rw [e, List.take_append_of_le_length (by rw [List.length_append]; omega), List.take_of_length_le (by rw [List.length_append]; omega)]
theorem zero_len (k : Nat) : (Builtin.zeroCells (Value.agg #[.int .i64 0, .int .i64 0, .bool false, .string ⟨#[]⟩]).cells k).size = k * 4 := by
  simp [Builtin.zeroCells, Value.cells]
set_option maxHeartbeats 4000000 in
set_option maxRecDepth 100000 in
/-- Insert of one at the head of a row that is not empty and has no room. -/
theorem insert_grow (base g q n cap : Nat) (l : List Ver) (x : Ver) (cur : Array Value) (w : World) (hn : n = l.length) (h0 : 0 < n) (hnc : n ≤ cap) (hroom : cap < n + 1) (hl : n ≤ 1000)
    (hg : w.heap[g]? = some (.cells cur 45 (0, 0))) (htake : cur.toList.take (n * 4) = l.flatMap encVer)
    (hq : w.heap[q]? = some (.cells (encVer x).toArray 45 (0, 0))) (hbw : base ≤ w.heap.size) :
    Calls Try.prog 52 #[.slice (some ⟨g, 0, none⟩) n cap, .int .i64 0, .slice (some ⟨q, 0, none⟩) 1 1] w fun e w' => ∃ v, e = .returned v ∧ w'.ownsRow base 45 4 v (n + 1) ((x :: l).flatMap encVer) ∧ Below base w w' := by
  have hsz : (Try.prog.info? 45).map (·.size) = some 4 := by kernel_rfl
  have hX : (encVer x).length = 4 := rfl
  have hY : (l.flatMap encVer).length = n * 4 := by rw [flat_len encVer_len, hn]
  obtain ⟨i0, hi, hz0, hz1, hz2⟩ := infoVer
  have hgl : g < w.heap.size := by
    rcases Nat.lt_or_ge g w.heap.size with h' | h'
    · exact h'
    · simp [Array.getElem?_eq_none h'] at hg
  have hql : q < w.heap.size := by
    rcases Nat.lt_or_ge q w.heap.size with h' | h'
    · exact h'
    · simp [Array.getElem?_eq_none h'] at hq
  have hrz : ∀ ty, (Builtin.append_ #[44, 3] ty #[.slice (some ⟨g, 0, none⟩) 0 cap, .int .i64 ((n : Int) + 1)]).run Try.prog w = .ok (.slice (some ⟨w.heap.size, 0, none⟩) (n + 1) (grownCap w (n + 1) cap 45)) (w.drew.alloc (.cells (([] : List Value).toArray ++ Builtin.zeroCells (Value.agg #[.int .i64 0, .int .i64 0, .bool false, .string ⟨#[]⟩]).cells (n + 1) ++ Builtin.zeroCells (Value.agg #[.int .i64 0, .int .i64 0, .bool false, .string ⟨#[]⟩]).cells (grownCap w (n + 1) cap 45 - (n + 1))) 45)) := fun ty => by
    have h := Lib.run_append_grow_zeros w 44 3 ty 45 i0 _ .i64 .i64 Try.underlying44 Try.underlying3 hi hz0 (some ⟨g, 0, none⟩) 0 cap [] (by rw [hz1]; exact run_firstCells_some w.drew 4 0 ⟨g, 0, none⟩ 0 cap [] (by simp) (fun j v hj => by simp at hj)) (n + 1) (by omega) (by omega) (by omega) (by omega) (by rw [hz2]; omega) (by rw [hz2, Nat.zero_add]; exact growslice_fits hroom (by omega))
    simp only [Nat.zero_add] at h
    exact h
  obtain ⟨G, hG⟩ : ∃ G, G = grownCap w (n + 1) cap 45 := ⟨_, rfl⟩
  have hGn : n + 1 ≤ G := by rw [hG]; exact grownCap_ge w _ _ _
  have hGm : G ≤ maxLen := by rw [hG]; exact grownCap_le_maxLen w _ _ _ (by unfold maxLen; omega)
  rw [← hG] at hrz
  obtain ⟨Z, hZ⟩ : ∃ Z : Array Value, Z = ([] : List Value).toArray ++ Builtin.zeroCells (Value.agg #[.int .i64 0, .int .i64 0, .bool false, .string ⟨#[]⟩]).cells (n + 1) ++ Builtin.zeroCells (Value.agg #[.int .i64 0, .int .i64 0, .bool false, .string ⟨#[]⟩]).cells (G - (n + 1)) := ⟨_, rfl⟩
  rw [← hZ] at hrz
  have hZs : Z.size = G * 4 := by
    rw [hZ, Array.size_append, Array.size_append, zero_len, zero_len]; simp; omega
  obtain ⟨z1, hz1'⟩ : ∃ z1, z1 = (Z.toList.take 0 ++ encVer x ++ Z.toList.drop (0 + (encVer x).length)).toArray := ⟨_, rfl⟩
  have hs1 : z1.size = G * 4 := by
    rw [hz1']; simp [hX, hZs]; omega
  have hcpA : ∀ (W : World), W.heap[w.heap.size]? = some (.cells Z 45 (0, 0)) → W.heap[q]? = some (.cells (encVer x).toArray 45 (0, 0)) → ∀ ty dc, (Builtin.copy_ #[44, 44] ty #[.slice (some ⟨w.heap.size, 0, none⟩) (n + 1) dc, .slice (some ⟨q, 0, none⟩) 1 1]).run Try.prog W =
      .ok (goInt 1) (W.setRow w.heap.size z1) := fun W hN hQ ty dc => by
    rw [hz1']
    exact run_copy_rowK W _ _ ty 45 w.heap.size 0 (n + 1) dc ⟨q, 0, none⟩ 1 1 Z 45 (encVer x) 4 1 Try.underlying44 hsz hN (by show min 1 (n + 1) = 1; omega) hX
      (fun j v hj => by
        rw [Addr.add_lit, Nat.zero_add, Lib.cell_of_heap hQ]; simpa using hj)
      (by rw [hX, hZs]; omega) (encVer_cells x)
  obtain ⟨z2, hz2'⟩ : ∃ z2, z2 = (z1.toList.take 4 ++ l.flatMap encVer ++ z1.toList.drop (4 + (l.flatMap encVer).length)).toArray := ⟨_, rfl⟩
  have hcpB : ∀ (W : World), W.heap[w.heap.size]? = some (.cells z1 45 (0, 0)) → W.heap[g]? = some (.cells cur 45 (0, 0)) → ∀ ty dc sc, (Builtin.copy_ #[44, 44] ty #[.slice (some ⟨w.heap.size, 4, none⟩) n dc, .slice (some ⟨g, 0, none⟩) n sc]).run Try.prog W =
      .ok (goInt n) (W.setRow w.heap.size z2) := fun W hN hQ ty dc sc => by
    rw [hz2']
    exact run_copy_rowK W _ _ ty 45 w.heap.size 4 n dc ⟨g, 0, none⟩ n sc z1 45 (l.flatMap encVer) 4 n Try.underlying44 hsz hN (by show min n n = n; omega) hY
      (fun j v hj => by
        rw [Addr.add_lit, Nat.zero_add]
        have hj' : j < n * 4 := by
          rcases Nat.lt_or_ge j (n * 4) with h' | h'
          · exact h'
          · rw [List.getElem?_eq_none (by omega)] at hj; cases hj
        rw [← htake, List.getElem?_take, if_pos hj', Array.getElem?_toList] at hj
        rw [Lib.cell_of_heap hQ]; exact hj)
      (by rw [hY, hs1]; omega) (encVer_one l)
  have hfin : z2.toList.take ((n + 1) * 4) = (x :: l).flatMap encVer := by
    rw [hz2', List.flatMap_cons]
    exact fill_both Z.toList (encVer x) (l.flatMap encVer) n hX hY z1.toList (by rw [hz1'])
  have hs2 : z2.size = G * 4 := by
    rw [hz2']; simp [hY, hs1, Nat.min_def]; split <;> omega
  have Z7 : Hid (l.length = n) := Lib.hid hn.symm
  have A1 : ((w.alloc (.cells Z 45)).drew).heap[w.heap.size]? = some (.cells Z 45 (0, 0)) := heap_alloc_new w _
  have A2 : ((w.alloc (.cells Z 45)).drew).heap[q]? = some (.cells (encVer x).toArray 45 (0, 0)) := (Lib.alloc_old w _ q hql).trans hq
  have A3 : ((w.alloc (.cells Z 45)).drew).heap[g]? = some (.cells cur 45 (0, 0)) := (Lib.alloc_old w _ g hgl).trans hg
  have B1 : ((((w.alloc (.cells Z 45)).drew).setRow w.heap.size z1).drew).heap[w.heap.size]? = some (.cells z1 45 (0, 0)) := setRow_heap ((w.alloc (.cells Z 45)).drew) w.heap.size Z z1 _ _ A1
  have B2 : ((((w.alloc (.cells Z 45)).drew).setRow w.heap.size z1).drew).heap[g]? = some (.cells cur 45 (0, 0)) := by
    show (((w.alloc (.cells Z 45)).drew).setRow w.heap.size z1).heap[g]? = _
    rw [World.setRow]
    simp only [Array.getElem?_modify, if_neg (Nat.ne_of_gt hgl)]
    exact A3
  have HA := Lib.hid A1
  have HA2 := Lib.hid A2
  have HB1 := Lib.hid B1
  have HB2 := Lib.hid B2
  have y1 : ¬ ((0 : Int) = (n : Int)) := by omega
  have y2 : (cap : Int) < (n : Int) + 1 := by omega
  have y3 : (0 : Int) ≤ (n : Int) + 1 := by omega
  have y4 : ((n : Int) + 1).toNat = n + 1 := by omega
  have y5 : ¬ (G = 1) := by omega
  have y6 : ¬ (cap = 0) := by omega
  have y7 : ¬ (G = 0) := by omega
  have hw1 : IntKind.i64.wrap 1 = 1 := by decide
  have hb1 : (1 : Int) ≤ (n : Int) + 1 := by omega
  have HF := Lib.hid hfin
  have HG := Lib.hid hGm
  clear hz1' hz2' htake hn hY hX hZ hs1 hZs hG A1 A2 A3 B1 B2 hfin hGm hi hz0 hz1 hz2 hsz
  go_enter Try.func52, Try.ntmps52
  go_upto_region 10 with (at_builtin; refine Lib.wpList_append_run _ rfl _ _ _ _ rfl _ _ rfl rfl _ _ (hrz _) ?_)
  have hA := fun ty dc => hcpA _ HA.out HA2.out ty dc
  go_wp2_with fail
  clear hA
  go_region_law (refine step_copy_at rfl _ _ 44 44 rfl (.slice (some ⟨w.heap.size, 4, none⟩) n (G - 1)) (.slice (some ⟨g, 0, none⟩) n cap) (by simp [Act.eval, Act.put]) (by simp [Act.eval, Act.put]) (hcpB _ HB1.out HB2.out _ _ _) ?_)
  go_wp2
  go_ret
  refine ⟨_, rfl, ⟨by rw [flat_len encVer_len]; simp [Z7.out], .inr ⟨w.heap.size, G, z2, rfl, hbw, setRow_heap _ w.heap.size z1 z2 _ _ HB1.out, hGn, HG.out, hs2, HF.out⟩⟩, ?_⟩
  exact below_setRow (Below.drew (below_setRow (Below.drew ((Below.refl base w).alloc hbw _)) hbw _)) hbw _
set_option maxHeartbeats 4000000 in
set_option maxRecDepth 100000 in
/-- Insert of one into nothing. -/
theorem insert_none (base q : Nat) (A : Option Addr) (cap : Nat) (x : Ver) (w : World) (hown : w.ownsRow base 45 4 (.slice A 0 cap) 0 [])
    (hq : w.heap[q]? = some (.cells (encVer x).toArray 45 (0, 0))) (hbw : base ≤ w.heap.size) :
    Calls Try.prog 52 #[.slice A 0 cap, .int .i64 0, .slice (some ⟨q, 0, none⟩) 1 1] w fun e w' => ∃ v, e = .returned v ∧ w'.ownsRow base 45 4 v 1 ([x].flatMap encVer) ∧ Below base w w' := by
  obtain ⟨i0, hi, hz0, hz1, hz2⟩ := infoVer
  have hw0 : IntKind.i64.wrap 0 = 0 := by decide
  go_enter Try.func52, Try.ntmps52
  go_upto_region 7 with fail
  go_wp2_with (at_builtin; refine wpList_append_own _ rfl _ _ 44 rfl base 45 i0 (.agg #[.int .i64 0, .int .i64 0, .bool false, .string ⟨#[]⟩]) 4 40 Try.underlying44 hi hz0 hz1 hz2 rfl (by decide) _ _ _ rfl hown ⟨q, 0, none⟩ 1 1 (encVer x) rfl rfl ?c1 ?c2 ?c3 ?c4 ?c5 ?_)
  case c1 =>
    intro j u hj
    rw [Addr.add_lit, Nat.zero_add, Lib.cell_of_heap hq]; simpa using hj
  case c2 => exact encVer_cells x
  case c3 => unfold maxLen; omega
  case c4 => omega
  case c5 => exact hbw
  intro v' w1 hown' hgrow hnil
  go_wp2
  go_ret
  exact ⟨v', rfl, by simpa using hown', (Below.refl base w).grown hgrow hbw (fun k hk => (hown.lt k hk).1)⟩
/-- Insert of one at the head. -/
theorem insert_any (base q : Nat) (v : Value) (l : List Ver) (x : Ver) (w : World) (hl : l.length ≤ 1000) (hown : w.ownsRow base 45 4 v l.length (l.flatMap encVer))
    (hq : w.heap[q]? = some (.cells (encVer x).toArray 45 (0, 0))) (hqv : v.ownBlock ≠ some q) (hbw : base ≤ w.heap.size) :
    Calls Try.prog 52 #[v, .int .i64 0, .slice (some ⟨q, 0, none⟩) 1 1] w fun e w' => ∃ v', e = .returned v' ∧ w'.ownsRow base 45 4 v' (l.length + 1) ((x :: l).flatMap encVer) ∧ Below base w w' := by
  by_cases h0 : l = []
  · subst h0
    rcases hown.2 with ⟨rfl, _⟩ | ⟨g, cap, cur, rfl, _⟩
    · exact insert_none base q none 0 x w hown hq hbw
    · exact insert_none base q _ cap x w hown hq hbw
  · have hp : 0 < l.length := List.length_pos_iff.2 h0
    rcases hown.2 with ⟨rfl, h⟩ | ⟨g, cap, cur, rfl, hbg, hg, hnc, hcm, hcs, htake⟩
    · omega
    · have hqg : q ≠ g := fun e => hqv (by simp [Value.ownBlock, e])
      by_cases hr : l.length + 1 ≤ cap
      · exact insert_room base g q l.length cap l x cur w rfl hp hr hcm hl hg hcs htake hq hqg hbg hbw
      · exact insert_grow base g q l.length cap l x cur w rfl hp hnc (by omega) hl hg htake hq hbw
end Go.Proofs.Ytpkacnoimdjckaa
