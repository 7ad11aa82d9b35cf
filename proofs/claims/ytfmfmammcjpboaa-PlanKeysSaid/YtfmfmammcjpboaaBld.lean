/- strings.Builder: a builder in a block of the call's own: one byte more; what it holds, as a text; which other blocks stay. -/
import Derived.Test.YtfmfmammcjpboaaProg
import Derived.Test.YtfmfmammcjpboaaBase
import Derived.Lib.Builder
import Derived.Lib.UnsafeStr
import Derived.Lib.BitFns
import Derived.Lib.Small
import Derived.Lib.Walk
import Derived.Maps.AppendAt
import Derived.Laws.Externs
namespace Go.Proofs.Ytfmfmammcjpboaa
open Go.RowKit
set_option linter.unusedVariables false
set_option linter.unusedSimpArgs false
/-- The builder in block b, whose row of bytes is v, holds bs. -/
def BldV (b : Nat) (v : Value) (bs : List Value) (w : World) : Prop :=
  ∃ p, (p = .pointer none ∨ p = .pointer (some ⟨b, 0, none⟩)) ∧ w.heap[b]? = some (.cells #[p, v] 102 (0, 0)) ∧ w.ownsRow b 5 1 v bs.length bs ∧ (bs = [] → v = .slice none 0 0)
/-- Behind a write to it: below it all is as it was, and so are all blocks but its own two. -/
structure Fr (b : Nat) (v v' : Value) (w w' : World) : Prop where
  bel : Below b w w'
  kept : ∀ k, k < w.heap.size → k ≠ b → v.ownBlock ≠ some k → w'.heap[k]? = w.heap[k]? ∧ v'.ownBlock ≠ some k
theorem Fr.refl (b : Nat) (v : Value) (w : World) : Fr b v v w w := ⟨Below.refl _ _, fun _ _ _ h => ⟨rfl, h⟩⟩
theorem Fr.trans {b : Nat} {v v' v2 : Value} {w w1 w2 : World} (h : Fr b v v' w w1) (k : Fr b v' v2 w1 w2) : Fr b v v2 w w2 :=
  ⟨h.bel.trans k.bel, fun i hi hb hv => by
    obtain ⟨e1, n1⟩ := h.kept i hi hb hv
    obtain ⟨e2, n2⟩ := k.kept i (Nat.lt_of_lt_of_le hi h.bel.size) hb n1
    exact ⟨e2.trans e1, n2⟩⟩
theorem BldV.lt {b : Nat} {v : Value} {bs : List Value} {w : World} (h : BldV b v bs w) : b < w.heap.size := by
  obtain ⟨p, _, hb, _⟩ := h
  rcases Nat.lt_or_ge b w.heap.size with h' | h'
  · exact h'
  · simp [Array.getElem?_eq_none h'] at hb
theorem BldV.fresh (w : World) : BldV w.heap.size (.slice none 0 0) [] (w.alloc (.cells #[.pointer none, .slice none 0 0] 102)) :=
  ⟨_, .inl rfl, heap_alloc_new w _, World.ownsRow_nil _ _ _ _, fun _ => rfl⟩
theorem BldV.alloc {b : Nat} {v : Value} {bs : List Value} {w : World} (h : BldV b v bs w) (o : Obj) : BldV b v bs (w.alloc o) := by
  have hl := h.lt
  obtain ⟨p, hp, hb, ho, hn⟩ := h
  exact ⟨p, hp, (Lib.alloc_old w o b hl).trans hb, ho.alloc o, hn⟩
theorem BldV.at {b : Nat} {v : Value} {bs : List Value} {w : World} (h : BldV b v bs w) : ∃ p, (p = .pointer none ∨ p = .pointer (some ⟨b, 0, none⟩)) ∧ Lib.BuilderAt 102 5 b b p bs w ∧ w.heap[b]? = some (.cells #[p, v] 102 (0, 0)) := by
  obtain ⟨p, hp, hb, ho, hn⟩ := h
  exact ⟨p, hp, ⟨Nat.le_refl _, v, hb, ho, Lib.ownBlock_ne ho hb (by decide)⟩, hb⟩
/-- .. its own block is another one. -/
theorem BldV.ne {b : Nat} {v : Value} {bs : List Value} {w : World} (h : BldV b v bs w) : v.ownBlock ≠ some b := by
  obtain ⟨p, hp, hb, ho, hn⟩ := h
  exact Lib.ownBlock_ne ho hb (by decide)
theorem BldV.own_lt {b : Nat} {v : Value} {bs : List Value} {w : World} (h : BldV b v bs w) : ∀ k, v.ownBlock = some k → b ≤ k ∧ k < w.heap.size := by
  obtain ⟨p, hp, hb, ho, hn⟩ := h
  exact ho.lt
set_option maxHeartbeats 1000000 in
set_option maxRecDepth 100000 in
theorem copyCheck_used (b : Nat) (w : World) (h0 : w.cell? ⟨b, 0, none⟩ = some (.pointer (some ⟨b, 0, none⟩))) :
    Calls Try.prog 69 #[.pointer (some ⟨b, 0, none⟩)] w fun e w' => e = .returned (.tuple #[]) ∧ w' = w := by
  obtain ⟨j, hj, _⟩ := Option.map_eq_some_iff.1 (show (Try.prog.info? 102).map (·.size) = some 2 by kernel_rfl)
  go_enter Try.func69, Try.ntmps69
  go_wp2
  rw [Lib.run_neq_ptr_same w _ Try.underlying99 hj]
  go_wp2
  go_end0
  exact ⟨rfl, rfl⟩
set_option maxHeartbeats 1000000 in
set_option maxRecDepth 100000 in
theorem copyCheck_fresh (b : Nat) (w : World) (h0 : w.cell? ⟨b, 0, none⟩ = some (.pointer none)) (hsh : w.shape? b = some (102, 2)) (hfz : w.frozen? ⟨b, 0, none⟩ = false) :
    Calls Try.prog 69 #[.pointer (some ⟨b, 0, none⟩)] w fun e w' => e = .returned (.tuple #[]) ∧ w' = w.setCell ⟨b, 0, none⟩ (.pointer (some ⟨b, 0, none⟩)) := by
  obtain ⟨j, hj, hjs⟩ := Option.map_eq_some_iff.1 (show (Try.prog.info? 102).map (·.size) = some 2 by kernel_rfl)
  go_enter Try.func69, Try.ntmps69
  go_wp2
  rw [Lib.run_to_unsafe w ⟨b, 0, none⟩ Try.underlying99 Try.underlying135 hj (by rw [hjs]; decide) hsh (Nat.zero_lt_succ 1)]
  simp only [Result.andThen]
  rw [Oper.upon_value]
  go_wp2
  rw [run_callFunc_extern Try.func80 (by kernel_rfl) (by kernel_rfl) (by kernel_rfl) (e := Extern.AbiNoEscape.same) (by kernel_rfl)]
  rw [Lib.run_noEscape]
  simp only [Result.andThen]
  rw [Oper.upon_value]
  go_wp2
  rw [Lib.run_from_unsafe w ⟨b, 0, none⟩ Try.underlying135 Try.underlying99 hj hsh (by kernel_rfl)]
  simp only [Result.andThen]
  rw [Oper.upon_value]
  go_wp2
  go_end0
  exact ⟨rfl, rfl⟩
theorem copyCheck_any (b : Nat) (v : Value) (bs : List Value) (w : World) (h : BldV b v bs w) :
    Calls Try.prog 69 #[.pointer (some ⟨b, 0, none⟩)] w fun e w' => e = .returned (.tuple #[]) ∧ BldV b v bs w' ∧ w'.heap[b]? = some (.cells #[.pointer (some ⟨b, 0, none⟩), v] 102 (0, 0)) ∧ Fr b v v w w' := by
  obtain ⟨p, hp, hA, hb⟩ := h.at
  have hl := h.lt
  rcases hp with rfl | rfl
  · refine (copyCheck_fresh b w hA.cell0 hA.shape hA.frozen0).mono ?_
    rintro e w' ⟨rfl, rfl⟩
    have hb' : (w.setCell ⟨b, 0, none⟩ (.pointer (some ⟨b, 0, none⟩))).heap[b]? = some (.cells #[.pointer (some ⟨b, 0, none⟩), v] 102 (0, 0)) := by simp [World.setCell, Array.getElem?_modify, hb]
    obtain ⟨p, hp, hb2, ho, hn⟩ := h
    have hne := Lib.ownBlock_ne ho hb2 (by decide)
    refine ⟨rfl, ⟨_, .inr rfl, hb', ?_, hn⟩, hb', ⟨(Below.refl b w).setCell (p := ⟨b, 0, none⟩) (Nat.le_refl _) _, fun k hk hkb hv => ⟨Below.heap_setCell _ _ _ _ (fun e => hkb (by simpa using e)), hv⟩⟩⟩
    exact ho.kept (row := some b) ⟨rfl, rfl, rfl, by simp [World.setCell], fun k _ hk => Below.heap_setCell _ _ _ _ (fun e => hk (by simp [e]))⟩ (Or.inr hne)
  · refine (copyCheck_used b w hA.cell0).mono ?_
    rintro e w' ⟨rfl, rfl⟩
    exact ⟨rfl, h, hb, Fr.refl _ _ _⟩
set_option maxHeartbeats 2000000 in
set_option maxRecDepth 100000 in
theorem writeByte_any (b : Nat) (v : Value) (bs : List Value) (c : Int) (w : World) (h : BldV b v bs w) (hlen : bs.length + 1 ≤ 140737488355328) :
    Calls Try.prog 59 #[.pointer (some ⟨b, 0, none⟩), .int .u8 c] w fun e w' => e = .returned .nilIface ∧ ∃ v', BldV b v' (bs ++ [.int .u8 c]) w' ∧ Fr b v v' w w' := by
  obtain ⟨i0, hi, hz0, hz1, hz2⟩ := info_parts (show (Try.prog.info? 5).map (fun i => (i.zero, i.size, i.bytes)) = some (some (.int .u8 0), 1, 1) by kernel_rfl)
  go_enter Try.func59, Try.ntmps59
  go_wp2_with (go_at_call 69; refine (copyCheck_any b v bs _ h).mono ?_)
  rintro e w1 ⟨rfl, h1, hbk, f1⟩
  have hlt := h1.lt
  have hown : w1.ownsRow b 5 1 v bs.length bs := by obtain ⟨p, hp, hb, ho, hn⟩ := h1; exact ho
  have hne : v.ownBlock ≠ some b := h1.ne
  have c0 : w1.cell? ⟨b, 0, none⟩ = some (.pointer (some ⟨b, 0, none⟩)) := by rw [Lib.cell_of_heap hbk]; rfl
  have c1 : w1.cell? ⟨b, 1, none⟩ = some v := by rw [Lib.cell_of_heap hbk]; rfl
  clear h h1
  go_wp2_with (at_builtin; refine wpList_append_own_at _ rfl _ _ 100 rfl b 5 i0 (.int .u8 0) 1 1 Try.underlying100 hi hz0 hz1 hz2 rfl (by decide) _ _ _ rfl (hown.alloc _) ⟨w1.heap.size, 0, none⟩ 1 1 [.int .u8 c] rfl rfl ?c1 ?c2 ?c3 ?c4 ?c5 ?_)
  case c1 =>
    intro j u hj
    match j, hj with
    | 0, hj => simp at hj; subst hj; simp [Addr.add]
  case c2 => intro u hu; simp at hu; subst hu; rfl
  case c3 => unfold maxLen; omega
  case c4 => omega
  case c5 => simp; omega
  intro v' w2 hown' hgrow _ hloc
  have hb2 : w2.heap[b]? = some (.cells #[.pointer (some ⟨b, 0, none⟩), v] 102 (0, 0)) := by
    rw [hgrow.block b (by simp; omega) (fun e => hne e.symm), Lib.alloc_old w1 _ b hlt]
    exact hbk
  have d0 : w2.cell? ⟨b, 0, none⟩ = some (.pointer (some ⟨b, 0, none⟩)) := by rw [Lib.cell_of_heap hb2]; rfl
  have d1 : w2.cell? ⟨b, 1, none⟩ = some v := by rw [Lib.cell_of_heap hb2]; rfl
  have f1' : w2.frozen? ⟨b, 1, none⟩ = false := Lib.frozen_of_heap hb2 1
  obtain ⟨g, cap, rfl⟩ : ∃ g cap, v' = .slice (some ⟨g, 0, none⟩) (bs.length + 1) cap := by
    rcases hown'.2 with ⟨_, h0⟩ | ⟨g, cap, cur, hv, _⟩
    · omega
    · exact ⟨g, cap, hv⟩
  go_wp2
  go_ret
  refine ⟨rfl, .slice (some ⟨g, 0, none⟩) (bs.length + 1) cap, ?_, f1.trans ⟨?_, ?_⟩⟩
  · obtain ⟨hB, u, q1, q2, q3⟩ := Lib.BuilderAt.put (T := 102) (e := 5) (Nat.le_refl b) hb2 (bs' := bs ++ [.int .u8 c]) (by simpa using hown') (by decide)
    have q0 : (w2.setCell ⟨b, 1, none⟩ (.slice (some ⟨g, 0, none⟩) (bs.length + 1) cap)).heap[b]? = some (.cells #[.pointer (some ⟨b, 0, none⟩), .slice (some ⟨g, 0, none⟩) (bs.length + 1) cap] 102 (0, 0)) := by simp [World.setCell, Array.getElem?_modify, hb2]
    obtain rfl : u = .slice (some ⟨g, 0, none⟩) (bs.length + 1) cap := by
      have := q1.symm.trans q0
      simp at this; exact this
    exact ⟨_, .inr rfl, q0, q2, fun e => by simp at e⟩
  · exact (((Below.refl b w1).alloc (by omega) _).grown hgrow (by simp; omega) (fun k hk => (hown.lt k hk).1)).setCell (p := ⟨b, 1, none⟩) (Nat.le_refl _) _
  · intro k hk hkb hv
    refine ⟨?_, ?_⟩
    · rw [Below.heap_setCell _ _ _ _ (fun e => hkb (by simpa using e)), hgrow.block k (by simp; omega) (fun e => hv e.symm), Lib.alloc_old w1 _ k hk]
    · rcases hloc with e | e
      · rw [e]; exact hv
      · rw [e]; simp; omega
set_option maxHeartbeats 1000000 in
set_option maxRecDepth 100000 in
theorem string_any (b : Nat) (v : Value) (l : List UInt8) (w : World) (h : BldV b v (Lib.byteCells l) w) :
    Calls Try.prog 48 #[.pointer (some ⟨b, 0, none⟩)] w fun e w' => e = .returned (.string ⟨l.toArray⟩) ∧ Below b w w' := by
  obtain ⟨p, hp, hbk, hown, hnil⟩ := h
  by_cases h0 : l = []
  · subst h0
    obtain rfl := hnil rfl
    have hUS := fun (W : World) (q : Option Addr) => Lib.run_unsafeString_none (P := Try.prog) W 121 3 9 q
    have c1 : w.drew.cell? ⟨b, 1, none⟩ = some (.slice none 0 0) := by
      have : w.drew.heap[b]? = some (.cells #[p, .slice none 0 0] 102 (0, 0)) := hbk
      rw [Lib.cell_of_heap this]; rfl
    have hSD : (Builtin.unsafeSliceData_ #[100] 121 #[.slice none 0 0]).run Try.prog w.drew = .ok (.pointer none) w.drew := rfl
    go_enter Try.func48, Try.ntmps48
    go_wp2
    go_region
    all_goals (go_wp2; go_ret; exact ⟨rfl, Below.drew (Below.refl b w)⟩)
  · have hl0 : l.length ≠ 0 := by simpa using h0
    rw [Lib.byteCells_length] at hown
    obtain ⟨g, cap, cur, rfl, hbg, hg, hnc, hcm, hcs, htake⟩ : ∃ g cap cur, v = .slice (some ⟨g, 0, none⟩) l.length cap ∧ b ≤ g ∧ w.heap[g]? = some (.cells cur 5 (0, 0)) ∧ l.length ≤ cap ∧ cap ≤ maxLen ∧ cur.size = cap * 1 ∧ cur.toList.take (l.length * 1) = Lib.byteCells l := by
      rcases hown.2 with ⟨_, hz⟩ | ⟨g, cap, cur, hv, r⟩
      · exact absurd hz hl0
      · exact ⟨g, cap, cur, hv, r⟩
    have c1 : w.drew.cell? ⟨b, 1, none⟩ = some (.slice (some ⟨g, 0, none⟩) l.length cap) := by
      have : w.drew.heap[b]? = some (.cells #[p, .slice (some ⟨g, 0, none⟩) l.length cap] 102 (0, 0)) := hbk
      rw [Lib.cell_of_heap this]; rfl
    have hSD : (Builtin.unsafeSliceData_ #[100] 121 #[.slice (some ⟨g, 0, none⟩) l.length cap]).run Try.prog w.drew = .ok (.pointer (some ⟨g, 0, none⟩)) w.drew :=
      Lib.run_unsafeSliceData_row _ _ _ _ _ _ (by omega)
    have hUS : (Builtin.unsafeString_ #[121, 3] 9 #[.pointer (some ⟨g, 0, none⟩), .int .i64 l.length]).run Try.prog w.drew = .ok (.string ⟨l.toArray⟩) (w.drew.freeze ⟨g, 0, none⟩ l.length) := by
      refine Lib.run_unsafeString_row w.drew 121 3 9 5 Try.underlying121 (by kernel_rfl) g cur.size (by have hg' : w.drew.heap[g]? = some (.cells cur 5 (0, 0)) := hg; simp [World.shape?, hg']) l h0 (by omega) (by unfold maxLen at hcm; omega) ?_
      intro j x hx
      have := hown.cells (g := g) rfl j (.int .u8 x.toNat) (by simp [Lib.byteCells, hx])
      exact this
    go_enter Try.func48, Try.ntmps48
    go_wp2
    go_region
    all_goals (go_wp2; go_ret; exact ⟨rfl, Lib.below_freeze (Below.drew (Below.refl b w)) (p := ⟨g, 0, none⟩) hbg _⟩)
end Go.Proofs.Ytfmfmammcjpboaa
