/- plan.conditions: those that must all be true, one by one. -/
import Derived.RangeFuncNested
import Derived.RangeFuncBound
import Derived.RangeFuncCalls
import Derived.RangeFuncLeaves
import Derived.Shelf.Abstract
import Derived.Shelf.RegionOpen
import Derived.WalkKit
import Derived.OwnWalkIn
import Derived.TacticsInMore
import Derived.LoopNIn
import Derived.LoopIn
import Derived.Test.YtfmfmammcjpboaaPartsW
namespace Go.Proofs.Ytfmfmammcjpboaa
open Go.RowKit Go.Shelf
set_option linter.unusedVariables false
set_option linter.unusedSimpArgs false
attribute [local go_sem] Oper.semAt_some
theorem room_of_none {F : Fence} (hd : F.depth = none) (k : Nat) : F.room k := fun d h => by rw [hd] at h; cases h
/-- Where no depth is asked the figures are all one. -/
theorem RoundIn.anyDepth {F : Fence} (hd : F.depth = none) {m m' : Nat} {P : Program} {l : Nat} {f : FuncId} {tmps : Array Value} {assign body : Code} {w : World} {R : Ending → World → Prop}
    (h : RoundIn F m P l f tmps assign body w R) : RoundIn F m' P l f tmps assign body w R := ⟨h.1, fun c cs _ => h.2 c cs (room_of_none hd _)⟩
theorem YieldAt.anyDepth {F : Fence} (hd : F.depth = none) {m : Nat} (m' : Nat) {P : Program} {l : Nat} {args : Array Value} {W : World} {R : Ending → World → Prop} (h : YieldAt F m P l args W R) : YieldAt F m' P l args W R := by
  obtain ⟨fn, tmps, assign, body, hy, hR⟩ := h
  exact ⟨fn, tmps, assign, body, hy, RoundIn.anyDepth hd hR⟩
/-- All cells but those of one block lie as they lay. -/
structure KpS (pb : Nat) (W W' : World) : Prop where
  size : W.heap.size ≤ W'.heap.size
  same : ∀ (k : Nat) (o : Obj), k ≠ pb → W.heap[k]? = some o → o.isCells = true → W'.heap[k]? = some o
theorem KpS.refl (pb : Nat) (W : World) : KpS pb W W := ⟨Nat.le_refl _, fun _ _ _ h _ => h⟩
theorem KpS.trans {pb : Nat} {A B C : World} (h : KpS pb A B) (k : KpS pb B C) : KpS pb A C := ⟨Nat.le_trans h.size k.size, fun i o hi ho hc => k.same i o hi (h.same i o hi ho hc) hc⟩
theorem KpS.alloc (pb : Nat) (W : World) (o : Obj) : KpS pb W (W.alloc o) := ⟨by simp, fun k o' _ ho _ => (Below.heap_alloc W o k (Array.getElem?_eq_some_iff.1 ho).1).trans ho⟩
theorem KpS.cell {pb : Nat} {W W' : World} (h : KpS pb W W') {p : Addr} {v : Value} (hp : p.block ≠ pb) (hv : W.cell? p = some v) : W'.cell? p = some v := by
  cases ho : W.heap[p.block]? with
  | none => simp [World.cell?, ho] at hv
  | some o =>
    cases o <;> first
      | (rw [World.cell?_of_block ((h.same _ _ hp ho rfl).trans ho.symm)]; exact hv)
      | (simp [World.cell?, ho] at hv; done)
theorem KpS.putObj {pb : Nat} (W : World) (l : Nat) (o o' : Obj) (hl : W.heap[l]? = some o) (hc : o.isCells = false) : KpS pb W (W.putObj l o') :=
  ⟨by simp, fun k x _ hx hxc => (World.putObj_heap_other (fun e => by subst e; rw [hl] at hx; obtain rfl := Option.some.inj hx; rw [hc] at hxc; cases hxc)).trans hx⟩
/-- A condition, parted where it is an 'and' of two. -/
inductive Tr where
  | leaf (h : Eh)
  | and (h : Eh) (l r : Tr)
def Tr.head : Tr → Eh
  | .leaf h => h
  | .and h _ _ => h
def Tr.leaves : Tr → List Eh
  | .leaf h => [h]
  | .and _ l r => l.leaves ++ r.leaves
def IsTr (n₀ : Nat) (W : World) : Tr → Prop
  | .leaf h => ¬ (h.op = 14 ∧ h.len = 2)
  | .and h l r => h.op = 14 ∧ h.len = 2 ∧ ∃ (b off : Nat), h.A = some ⟨b, off, none⟩ ∧ b < n₀ ∧ (∀ (j : Nat) (v : Value), (cellsE l.head)[j]? = some v → W.cell? ⟨b, off + j, none⟩ = some v) ∧ (∀ (j : Nat) (v : Value), (cellsE r.head)[j]? = some v → W.cell? ⟨b, off + 7 + j, none⟩ = some v) ∧ IsTr n₀ W l ∧ IsTr n₀ W r
theorem IsTr.kept {n₀ pb : Nat} {A B : World} (h : KpS pb A B) (hn : n₀ ≤ pb) : ∀ {T : Tr}, IsTr n₀ A T → IsTr n₀ B T
  | .leaf _, ht => ht
  | .and _ l r, ⟨h1, h2, b, off, hA, hb, hl, hr, tl, tr⟩ => ⟨h1, h2, b, off, hA, hb, fun j v hv => h.cell (p := ⟨b, _, none⟩) (by show b ≠ pb; omega) (hl j v hv), fun j v hv => h.cell (p := ⟨b, _, none⟩) (by show b ≠ pb; omega) (hr j v hv), IsTr.kept h hn tl, IsTr.kept h hn tr⟩
theorem IsTr.below {n₀ : Nat} {A B : World} (h : Below n₀ A B) : ∀ {T : Tr}, IsTr n₀ A T → IsTr n₀ B T
  | .leaf _, ht => ht
  | .and _ l r, ⟨h1, h2, b, off, hA, hb, hl, hr, tl, tr⟩ => ⟨h1, h2, b, off, hA, hb, fun j v hv => (h.cell (p := ⟨b, _, none⟩) hb).trans (hl j v hv), fun j v hv => (h.cell (p := ⟨b, _, none⟩) hb).trans (hr j v hv), IsTr.below h tl, IsTr.below h tr⟩
set_option maxRecDepth 100000 in
set_option maxHeartbeats 4000000 in
theorem conds_in (F : Fence) (hd : F.depth = none) (hf : F.fn 51) (hro : F.round = none) (l n₀ pb N : Nat) (hnp : n₀ ≤ pb) (L : List Eh) (J Jx : List Eh → World → Prop) (hJa : ∀ pre W o, J pre W → J pre (W.alloc o))
    (hY : ∀ m pre x W, x ∈ L → J pre W → pre.length < N → YieldAt F m Try.prog l #[aggE x] W fun e W' =>
      (e = .returned (.bool true) ∧ J (pre ++ [x]) W' ∧ KpS pb W W') ∨ (e = .returned (.bool false) ∧ Jx (pre ++ [x]) W')) (T : Tr) :
    ∀ (n : Nat) (pre : List Eh) (W : World), (∀ x ∈ T.leaves, x ∈ L) → IsTr n₀ W T → pb < W.heap.size → J pre W → pre.length + T.leaves.length ≤ N →
      CallsIn F n Try.prog 51 #[aggE T.head, .func (.yield l) #[] #[]] W fun e W' =>
        (e = .returned (.bool true) ∧ J (pre ++ T.leaves) W' ∧ KpS pb W W') ∨ (e = .returned (.bool false) ∧ ∃ q, q <+: T.leaves ∧ Jx (pre ++ q) W') := by
  induction T with
  | leaf h =>
    intro n pre W hLv ht hpb hJ hN
    obtain ⟨op, v, tb, nm, A, len, c⟩ := h
    have hdd : ∀ k : Nat, (F.depth.isSome = true → 1 ≤ k) := fun k h => by rw [hd] at h; cases h
    simp only [Tr.leaves, List.length_cons, List.length_nil] at hN
    have ht' : ¬ (op = 14 ∧ len = 2) := ht
    have hy := hY (n - 1) pre ⟨op, v, tb, nm, A, len, c⟩ (W.alloc (.cells #[.int .i64 op, .int .i64 v.k, .int .i64 v.n, .string v.s, .string tb, .string nm, .slice A len c] 51)) (hLv _ (by simp [Tr.leaves])) (hJa _ _ _ hJ) (by omega)
    obtain ⟨fn, tmps, assign, body, hy, hR⟩ := hy
    unfold aggE Tr.head at *
    dsimp only at *
    refine callsIn_of_wp Try.func51 rfl hf ?_ hro
    simp only [Try.ntmps51, List.size_toArray, List.length_cons, List.length_nil, Nat.reduceAdd, Nat.reduceSub, Array.replicate_succ, Array.replicate_zero, List.push_toArray, List.append_toArray, List.nil_append, List.cons_append]
    by_cases h14 : op = 14
    · have hl2 : ¬ (len : Int) = 2 := fun e => ht' ⟨h14, by omega⟩
      subst h14
      gi_wp2_with ((try refine ⟨hdd _, ?_⟩); refine hR.mono ?_; clear hR; rintro e W2 (⟨rfl, hJ2, hb2⟩ | ⟨rfl, hx2⟩))
      · go_ret
        exact .inl ⟨rfl, hJ2, (KpS.alloc pb W _).trans hb2⟩
      · go_ret
        exact .inr ⟨rfl, [_], ⟨[], by simp [Tr.leaves]⟩, hx2⟩
    · gi_wp2_with ((try refine ⟨hdd _, ?_⟩); refine hR.mono ?_; clear hR; rintro e W2 (⟨rfl, hJ2, hb2⟩ | ⟨rfl, hx2⟩))
      · go_ret
        exact .inl ⟨rfl, hJ2, (KpS.alloc pb W _).trans hb2⟩
      · go_ret
        exact .inr ⟨rfl, [_], ⟨[], by simp [Tr.leaves]⟩, hx2⟩
  | and h tl tr ihl ihr =>
    intro n pre W hLv ht hpb hJ hN
    obtain ⟨op, v, tb, nm, A, len, c⟩ := h
    have hdd : ∀ k : Nat, (F.depth.isSome = true → 1 ≤ k) := fun k h => by rw [hd] at h; cases h
    simp only [Tr.leaves, List.length_append] at hN
    obtain ⟨h14, h2, b, off, hA, hb, hcl, hcr, htl, htr⟩ := ht
    dsimp only at h14 h2 hA
    subst h14 h2 hA
    have hbp : b ≠ pb := by omega
    have hbW : b < W.heap.size := by omega
    have K1 := KpS.alloc pb W (.cells #[.int .i64 14, .int .i64 v.k, .int .i64 v.n, .string v.s, .string tb, .string nm, .slice (some ⟨b, off, none⟩) 2 c] 51)
    have HB := Box.new W #[.int .i64 14, .int .i64 v.k, .int .i64 v.n, .string v.s, .string tb, .string nm, .slice (some ⟨b, off, none⟩) 2 c] 51
    have hpb1 : pb < (W.alloc (.cells #[.int .i64 14, .int .i64 v.k, .int .i64 v.n, .string v.s, .string tb, .string nm, .slice (some ⟨b, off, none⟩) 2 c] 51)).heap.size := by simp; omega
    have ih1 := (ihl (n - 1) pre _ (fun x hx => hLv x (by simp [Tr.leaves, hx])) (htl.kept K1 hnp) hpb1 (hJa _ _ (.cells #[.int .i64 14, .int .i64 v.k, .int .i64 v.n, .string v.s, .string tb, .string nm, .slice (some ⟨b, off, none⟩) 2 c] 51) hJ) (by omega)).mono (R' := fun e W2 =>
        (e = .returned (.bool true) ∧ J (pre ++ tl.leaves) W2 ∧ KpS pb W W2 ∧ W2.cell? ⟨W.heap.size, 6, none⟩ = some (.slice (some ⟨b, off, none⟩) 2 c) ∧ pb < W2.heap.size ∧ IsTr n₀ W2 tr ∧ W2.cell? ⟨b, off + 7, none⟩ = some (.int .i64 tr.head.op) ∧ W2.cell? ⟨b, off + 8, none⟩ = some (.int .i64 tr.head.v.k) ∧ W2.cell? ⟨b, off + 9, none⟩ = some (.int .i64 tr.head.v.n) ∧ W2.cell? ⟨b, off + 10, none⟩ = some (.string tr.head.v.s) ∧ W2.cell? ⟨b, off + 11, none⟩ = some (.string tr.head.tb) ∧ W2.cell? ⟨b, off + 12, none⟩ = some (.string tr.head.nm) ∧ W2.cell? ⟨b, off + 13, none⟩ = some (.slice tr.head.A tr.head.len tr.head.c)) ∨
        (e = .returned (.bool false) ∧ ∃ q, q <+: tl.leaves ∧ Jx (pre ++ q) W2))
      (fun e W2 h => h.elim (fun ⟨he, hj, hk⟩ => .inl ⟨he, hj, K1.trans hk, hk.cell (p := ⟨W.heap.size, 6, none⟩) (by show W.heap.size ≠ pb; omega) (HB.c 6 _ rfl), Nat.lt_of_lt_of_le hpb1 hk.size, htr.kept (K1.trans hk) hnp, (K1.trans hk).cell (p := ⟨b, off + 7, none⟩) hbp (hcr 0 _ rfl), (K1.trans hk).cell (p := ⟨b, off + 8, none⟩) hbp (hcr 1 _ rfl), (K1.trans hk).cell (p := ⟨b, off + 9, none⟩) hbp (hcr 2 _ rfl), (K1.trans hk).cell (p := ⟨b, off + 10, none⟩) hbp (hcr 3 _ rfl), (K1.trans hk).cell (p := ⟨b, off + 11, none⟩) hbp (hcr 4 _ rfl), (K1.trans hk).cell (p := ⟨b, off + 12, none⟩) hbp (hcr 5 _ rfl), (K1.trans hk).cell (p := ⟨b, off + 13, none⟩) hbp (hcr 6 _ rfl)⟩) .inr)
    have HIR := fun n' W2 hj hp ht => ihr n' (pre ++ tl.leaves) W2 (fun x hx => hLv x (by simp [Tr.leaves, hx])) ht hp hj (by simp; omega)
    clear ihl ihr htl htr hcr HB hpb1
    have hcl0 := hcl
    clear hcl
    generalize tl.head = g1 at *
    generalize tr.head = g2 at *
    have hgo : aggE (Tr.and ⟨14, v, tb, nm, some ⟨b, off, none⟩, 2, c⟩ tl tr).head = .agg #[.int .i64 14, .int .i64 v.k, .int .i64 v.n, .string v.s, .string tb, .string nm, .slice (some ⟨b, off, none⟩) 2 c] := rfl
    rw [hgo]
    clear hgo
    unfold aggE at *
    unfold cellsE at *
    have e0 : W.cell? ⟨b, off, none⟩ = some (.int .i64 g1.op) := hcl0 0 _ rfl
    have e1 : W.cell? ⟨b, off + 1, none⟩ = some (.int .i64 g1.v.k) := hcl0 1 _ rfl
    have e2 : W.cell? ⟨b, off + 2, none⟩ = some (.int .i64 g1.v.n) := hcl0 2 _ rfl
    have e3 : W.cell? ⟨b, off + 3, none⟩ = some (.string g1.v.s) := hcl0 3 _ rfl
    have e4 : W.cell? ⟨b, off + 4, none⟩ = some (.string g1.tb) := hcl0 4 _ rfl
    have e5 : W.cell? ⟨b, off + 5, none⟩ = some (.string g1.nm) := hcl0 5 _ rfl
    have e6 : W.cell? ⟨b, off + 6, none⟩ = some (.slice g1.A g1.len g1.c) := hcl0 6 _ rfl
    clear hcl0
    refine callsIn_of_wp Try.func51 rfl hf ?_ hro
    simp only [Try.ntmps51, List.size_toArray, List.length_cons, List.length_nil, Nat.reduceAdd, Nat.reduceSub, Array.replicate_succ, Array.replicate_zero, List.push_toArray, List.append_toArray, List.nil_append, List.cons_append]
    gi_wp2_with (first
      | ((try refine ⟨hdd _, ?_⟩); gi_at_call 51; refine ih1.mono ?_; clear ih1; rintro e W2 (⟨rfl, hJ2, K2, cB, hp2, ht2, r0, r1, r2, r3, r4, r5, r6⟩ | ⟨rfl, q, hq, hx1⟩))
      | ((try refine ⟨hdd _, ?_⟩); gi_at_call 51; refine (HIR (n - 1) _ hJ2 hp2 ht2).mono ?_; rintro e W3 (⟨rfl, hJ3, hb3⟩ | ⟨rfl, q, hq, hx3⟩)))
    · go_ret
      exact .inl ⟨rfl, by simpa [Tr.leaves, List.append_assoc] using hJ3, K2.trans hb3⟩
    · go_ret
      obtain ⟨r, hr'⟩ := hq
      exact .inr ⟨rfl, tl.leaves ++ q, ⟨r, by simp [Tr.leaves, ← hr']⟩, by simpa [List.append_assoc] using hx3⟩
    · go_ret
      exact .inr ⟨rfl, q, hq.trans (by simp [Tr.leaves]), hx1⟩
set_option maxRecDepth 100000 in
set_option maxHeartbeats 2000000 in
theorem span1_in (F : Fence) (hd : F.depth = none) (n : Nat) (h50 : F.fn 50) (hf : F.fn 51) (hro : F.round = none) (l Bt n₀ pb : Nat) (hnp : n₀ ≤ pb) (T : Tr) (J Jx : List {x : Eh // x ∈ T.leaves} → World → Prop) (hJa : ∀ pre W o, J pre W → J pre (W.alloc o))
    (hY : ∀ pre (x : {x : Eh // x ∈ T.leaves}) W, J pre W → pre.length < T.leaves.length → YieldAt F (n - 1) Try.prog l #[aggE x.1] W fun e W' =>
      (e = .returned (.bool true) ∧ J (pre ++ [x]) W' ∧ KpS pb W W') ∨ (e = .returned (.bool false) ∧ Jx (pre ++ [x]) W'))
    (W : World) (HB : Box W Bt (cellsE T.head)) (hT : IsTr n₀ W T) (hpb : pb < W.heap.size) (h0 : J [] W) :
    CallsIn F n Try.prog 50 #[.func (.yield l) #[] #[], .pointer (some ⟨Bt, 0, none⟩)] W fun e W' => (∃ v, e = .returned v) ∧
      ((∃ ys : List {x : Eh // x ∈ T.leaves}, ys.map (·.1) = T.leaves ∧ J ys W') ∨ (∃ pre : List {x : Eh // x ∈ T.leaves}, pre.map (·.1) <+: T.leaves ∧ Jx pre W')) := by
  have hdd : ∀ k : Nat, (F.depth.isSome = true → 1 ≤ k) := fun k h => by rw [hd] at h; cases h
  have hp := conds_in F hd hf hro l n₀ pb T.leaves.length hnp T.leaves (fun pre W => ∃ p : List {x : Eh // x ∈ T.leaves}, p.map (·.1) = pre ∧ J p W) (fun pre W => ∃ p : List {x : Eh // x ∈ T.leaves}, p.map (·.1) = pre ∧ Jx p W)
    (fun pre W o ⟨p, hp, hj⟩ => ⟨p, hp, hJa p W o hj⟩)
    (fun m pre x W hx ⟨p, hp, hj⟩ hl => YieldAt.anyDepth hd m (YieldAt.mono (hY p ⟨x, hx⟩ W hj (by rw [← hp, List.length_map] at hl; exact hl)) fun e W' h => h.elim
      (fun ⟨he, hj', hk⟩ => .inl ⟨he, ⟨p ++ [⟨x, hx⟩], by simp [hp], hj'⟩, hk⟩) (fun ⟨he, hj'⟩ => .inr ⟨he, ⟨p ++ [⟨x, hx⟩], by simp [hp], hj'⟩⟩))) T (n - 1) [] W (fun x hx => hx) hT hpb ⟨[], rfl, h0⟩ (by simp)
  unfold cellsE aggE at *
  have c0 := HB.c 0 _ rfl
  have c1 := HB.c 1 _ rfl
  have c2 := HB.c 2 _ rfl
  have c3 := HB.c 3 _ rfl
  have c4 := HB.c 4 _ rfl
  have c5 := HB.c 5 _ rfl
  have c6 := HB.c 6 _ rfl
  generalize T.head = g at *
  refine callsIn_of_wp Try.func50 rfl h50 ?_ hro
  simp only [Try.ntmps50, List.size_toArray, List.length_cons, List.length_nil, Nat.reduceAdd, Nat.reduceSub, Array.replicate_succ, Array.replicate_zero, List.push_toArray, List.append_toArray, List.nil_append, List.cons_append]
  gi_wp2_with ((try refine ⟨hdd _, ?_⟩); gi_at_call 51; refine hp.mono ?_; clear hp; rintro e W1 (⟨rfl, ⟨p, hpe, hJ1⟩, _⟩ | ⟨rfl, q, hq, p, hpe, hx⟩))
  · go_end0
    exact ⟨⟨_, rfl⟩, .inl ⟨p, by simpa using hpe, hJ1⟩⟩
  · go_end0
    exact ⟨⟨_, rfl⟩, .inr ⟨p, by rw [hpe]; simpa using hq, hx⟩⟩
theorem span_stops (F : Fence) (hd : F.depth = none) (n : Nat) (h50 : F.fn 50) (hf : F.fn 51) (hro : F.round = none) (Bt n₀ pb : Nat) (hnp : n₀ ≤ pb) (T : Tr) (w : World) (HB : Box w Bt (cellsE T.head)) (hn : n₀ ≤ w.heap.size) (hT : IsTr n₀ w T) (hpb : pb < w.heap.size) :
    SeqStopsK F n Try.prog 50 #[.pointer (some ⟨Bt, 0, none⟩)] (fun x : {x : Eh // x ∈ T.leaves} => #[aggE x.1]) (KpS pb) (fun ys => ys.map (·.1) = T.leaves) (fun pre => pre.map (·.1) <+: T.leaves) T.leaves.length w := fun l J Jx W hW hJ _ hY h0 =>
  span1_in F hd n h50 hf hro l Bt n₀ pb hnp T J Jx (fun pre W' o hj => hJ pre W' _ none hj (World.grownBy_alloc W' o none) (fun r e => by cases e)) hY W (HB.step hW) (hT.below (hW.mono hn)) (Nat.lt_of_lt_of_le hpb hW.size) h0
end Go.Proofs.Ytfmfmammcjpboaa
