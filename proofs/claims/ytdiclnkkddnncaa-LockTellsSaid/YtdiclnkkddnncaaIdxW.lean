/- Package lock: slices.IndexFunc, ContainsFunc with any function value that keeps its facts. -/
import Derived.Test.YtdiclnkkddnncaaLkW2
import Derived.Test.YtdiclnkkddnncaaKept
namespace Go.Proofs.Ytdiclnkkddnncaa
open Go.RowKit
open Go.Shelf
set_option linter.unusedVariables false
set_option linter.unusedSimpArgs false
/-- These cells lie so, under base. -/
def J (base : Nat) (w : World) (L : List (Nat × Nat × Value)) : Prop := base ≤ w.heap.size ∧ ∀ q ∈ L, q.1 < base ∧ w.cell? ⟨q.1, q.2.1, none⟩ = some q.2.2 ∧ w.frozen? ⟨q.1, q.2.1, none⟩ = false
theorem J.alloc {base : Nat} {w : World} {L : List (Nat × Nat × Value)} (h : J base w L) (o : Obj) : J base (w.alloc o) L := by
  have hb : Below w.heap.size w (w.alloc o) := (Below.refl _ w).alloc (Nat.le_refl _) o
  refine ⟨by have := h.1; simp; omega, fun q hq => ?_⟩
  obtain ⟨h1, h2, h3⟩ := h.2 q hq
  have hl : q.1 < w.heap.size := Nat.lt_of_lt_of_le h1 h.1
  exact ⟨h1, (hb.cell (p := ⟨q.1, q.2.1, none⟩) hl).trans h2, (hb.frozen (p := ⟨q.1, q.2.1, none⟩) hl).trans h3⟩
theorem J.grown {base g : Nat} {w w' : World} {L : List (Nat × Nat × Value)} (h : J base w L) (hg : w.grownBy w' (some g)) (hne : ∀ q ∈ L, q.1 ≠ g) : J base w' L := by
  refine ⟨Nat.le_trans h.1 hg.size, fun q hq => ?_⟩
  obtain ⟨h1, h2, h3⟩ := h.2 q hq
  have e := hg.block q.1 (Nat.lt_of_lt_of_le h1 h.1) (fun e => hne q hq (Option.some.inj e))
  exact ⟨h1, (World.cell?_of_block (a := ⟨q.1, q.2.1, none⟩) e).trans h2, (World.frozen?_of_block (a := ⟨q.1, q.2.1, none⟩) e).trans h3⟩
theorem J.set {base g o : Nat} {w : World} {L : List (Nat × Nat × Value)} (h : J base w L) (u : Value) (hne : ∀ q ∈ L, q.1 ≠ g) : J base (w.setCell ⟨g, o, none⟩ u) L := h.grown (grown_set w _ u) hne
/-- A function value: what it tells of a lock, what it makes of its facts. -/
def Clo (fn : FuncId) (first cap : Array Value) (B : Nat → Prop) (base : Nat) (p : Lk → Bool) (L : Lk → List (Nat × Nat × Value)) (step : Lk → Lk → Lk) : Prop :=
  ∀ (acc y : Lk) (W : World), J base W (L acc) → Calls Try.prog fn (first.push (.agg #[.int .i64 y.tx, .string y.lo, .string y.hi]) ++ cap) W fun e w' =>
    e = .returned (.bool (p y)) ∧ Kept base B W w' ∧ J base w' (L (if p y = true then step acc y else acc)) ∧ (p y = false → Below W.heap.size W w')
set_option maxHeartbeats 4000000 in
set_option maxRecDepth 100000 in
theorem index_gen (A : Option Addr) (c : Nat) (l : List Lk) (fn : FuncId) (first cap : Array Value) (B : Nat → Prop) (base : Nat) (p : Lk → Bool) (L : Lk → List (Nat × Nat × Value)) (step : Lk → Lk → Lk) (acc : Lk) (w : World)
    (eg : ∀ args w, (callFunc fn args).run Try.prog w = .ok (.enter fn args) w) (hC : Clo fn first cap B base p L step)
    (HR : RowE encL 3 w A l) (hA : ∀ b off, A = some ⟨b, off, none⟩ → b < base ∧ ¬ B b) (hJ : J base w (L acc)) (hl : l.length ≤ 1000) :
    Calls Try.prog 46 #[.slice A l.length c, .func (.func fn) first cap] w fun e w' =>
      Kept base B w w' ∧ ((e = .returned (.int .i64 (-1)) ∧ (∀ x ∈ l, p x = false) ∧ J base w' (L acc)) ∨ ∃ (i : Nat) (x : Lk), e = .returned (.int .i64 i) ∧ l[i]? = some x ∧ p x = true ∧ (∀ y ∈ l.take i, p y = false) ∧ J base w' (L (step acc x))) := by
  have HR' := Lib.hid HR
  have HA' := Lib.hid hA
  have HJ := Lib.hid hJ
  have HC := Lib.hid hC
  clear HR hA hJ hC
  go_enter Try.func46, Try.ntmps46
  go_wp2
  go_loopw [8] (fun i wr => ∃ j : Nat, j ≤ l.length ∧ i = .int .i64 j ∧ Hid (∀ y ∈ l.take j, p y = false) ∧ Hid (Kept base B w wr) ∧ Hid (J base wr (L acc))) (fun i _ => l.length - (Lib.intOf i).toNat)
  case atStart => exact ⟨0, Nat.zero_le _, rfl, Lib.hid (by simp), Lib.hid (Kept.refl _ _ _), HJ⟩
  case round =>
    obtain ⟨j, hj, rfl, HE, HK, HLr⟩ := hrel
    by_cases hlt : j < l.length
    · obtain ⟨x, hx⟩ : ∃ x, l[j]? = some x := ⟨_, List.getElem?_eq_getElem hlt⟩
      obtain ⟨b0, off, rfl, hb0, hcells⟩ := HR'.out j x hx
      have hb1 := HA'.out b0 off rfl
      have kc : ∀ q u, (encL x)[q]? = some u → wr.cell? ⟨b0, off + j * 3 + q, none⟩ = some u := fun q u hu => (HK.out.cell (p := ⟨b0, _, none⟩) hb1.1 hb1.2).trans (hcells j x hx q u hu)
      have g0 := kc 0 _ rfl
      have g1 := kc 1 _ rfl
      have g2 := kc 2 _ rfl
      have hc := HC.out acc x wr HLr.out
      have HX := Lib.hid hx
      clear hx kc hcells hb1
      simp only [Nat.add_zero] at g0
      have TK : Hid (l.take (j + 1) = l.take j ++ [x]) := Lib.hid (by rw [List.take_add_one, HX.out]; rfl)
      obtain ⟨tx, lo, hi⟩ := x
      dsimp only at g0 g1 g2 hc
      cases ho : p ⟨tx, lo, hi⟩ with
      | true =>
        rw [ho] at hc
        go_wp2_with fail
        refine hc.mono ?_; rintro e w2 ⟨rfl, h2, h3, _⟩
        go_wp2
        go_ret
        exact ⟨HK.out.trans h2, .inr ⟨j, ⟨tx, lo, hi⟩, rfl, HX.out, ho, HE.out, by simpa using h3⟩⟩
      | false =>
        rw [ho] at hc
        go_wp2_with fail
        refine hc.mono ?_; rintro e w2 ⟨rfl, h2, h3, _⟩
        go_wp2
        go_roundw
        case rel =>
          refine ⟨j + 1, by omega, by go_num, Lib.hid (fun y hy => ?_), Lib.hid (HK.out.trans h2), Lib.hid (by simpa using h3)⟩
          rw [TK.out] at hy
          rcases List.mem_append.1 hy with hy | hy
          · exact HE.out y hy
          · rw [List.mem_singleton.1 hy]; exact ho
        case measure => simp [Lib.intOf]; omega
    · obtain rfl : j = l.length := by omega
      go_wp2
      go_ret
      exact ⟨HK.out, .inl ⟨rfl, by have := HE.out; rwa [List.take_length] at this, HLr.out⟩⟩
set_option maxHeartbeats 4000000 in
set_option maxRecDepth 100000 in
theorem contains_gen (A : Option Addr) (c : Nat) (l : List Lk) (fn : FuncId) (first cap : Array Value) (B : Nat → Prop) (base : Nat) (p : Lk → Bool) (L : Lk → List (Nat × Nat × Value)) (step : Lk → Lk → Lk) (acc : Lk) (w : World)
    (eg : ∀ args w, (callFunc fn args).run Try.prog w = .ok (.enter fn args) w) (hC : Clo fn first cap B base p L step)
    (HR : RowE encL 3 w A l) (hA : ∀ b off, A = some ⟨b, off, none⟩ → b < base ∧ ¬ B b) (hJ : J base w (L acc)) (hl : l.length ≤ 1000) :
    Calls Try.prog 28 #[.slice A l.length c, .func (.func fn) first cap] w fun e w' => e = .returned (.bool (l.any p)) ∧ Kept base B w w' := by
  have hix := index_gen A c l fn first cap B base p L step acc w eg hC HR hA hJ hl
  clear HR hA hJ hC
  generalize hr : l.any p = r at *
  have HRR := Lib.hid hr
  clear hr
  go_enter Try.func28, Try.ntmps28
  go_wp2_with fail
  refine hix.mono ?_; rintro e w1 ⟨hk1, ⟨rfl, hno, hL1⟩ | ⟨i, x, rfl, hx, hgx, hpre, hL1⟩⟩
  · have HK := Lib.hid hk1
    have HQ : Hid (r = false) := Lib.hid (by rw [← HRR.out, List.any_eq_false]; exact fun x hx => by simp [hno x hx])
    clear hk1 hno hL1 hix
    go_wp2
    go_ret
    exact ⟨ret_bool (by rw [HQ.out]), HK.out⟩
  · have HK := Lib.hid hk1
    have HQ : Hid (r = true) := Lib.hid (by rw [← HRR.out, List.any_eq_true]; exact ⟨x, List.mem_of_getElem? hx, hgx⟩)
    clear hk1 hpre hL1 hix hx hgx
    go_wp2
    go_ret
    exact ⟨ret_bool (by rw [HQ.out]), HK.out⟩
end Go.Proofs.Ytdiclnkkddnncaa
