/- plan.Choose's three wishes; slices.IndexFunc over plans, with any function value that tells of a plan. -/
import Derived.Test.YtfmfmammcjpboaaHasW
import Derived.Shelf.Abstract
import Derived.Lib.Walk
import Derived.Lib.Hide
namespace Go.Proofs.Ytfmfmammcjpboaa
open Go.RowKit
open Go.Shelf
set_option linter.unusedVariables false
set_option linter.unusedSimpArgs false
def encP (p : Pl) : List Value := [.int .i64 p.ix, .bool p.lo.op, .int .i64 p.lo.v.k, .int .i64 p.lo.v.n, .string p.lo.v.s, .bool p.lo.inn, .bool p.hi.op, .int .i64 p.hi.v.k, .int .i64 p.hi.v.n, .string p.hi.v.s, .bool p.hi.inn, .bool p.emp]
theorem encP_len (p : Pl) : (encP p).length = 12 := rfl
def wish2 (p : Pl) : Bool := !p.lo.op && (!p.hi.op && decide (vorder p.lo.v p.hi.v = 0))
def wish3 (p : Pl) : Bool := !p.lo.op || !p.hi.op
set_option maxRecDepth 100000 in
theorem wish1_any (p : Pl) (w : World) : Calls Try.prog 27 #[aggP p] w fun e w' => e = .returned (.bool p.emp) ∧ Below w.heap.size w w' := by
  obtain ⟨ax, ⟨alo, ⟨alk, aln, als⟩, ali⟩, ⟨aho, ⟨ahk, ahn, ahs⟩, ahi⟩, ae⟩ := p
  unfold aggP
  dsimp only
  go_enter Try.func27, Try.ntmps27
  go_wp2
  go_ret
  exact ⟨rfl, (by (repeat (first | (with_reducible exact Below.refl _ _) | apply below_alloc _ (Nat.le_refl _) | refine below_set ?_ (by first | exact Nat.le_refl _ | omega) | apply below_drewN | refine below_step ?_ HB)))⟩
set_option maxHeartbeats 2000000 in
set_option maxRecDepth 100000 in
theorem wish3_any (p : Pl) (w : World) : Calls Try.prog 30 #[aggP p] w fun e w' => e = .returned (.bool (wish3 p)) ∧ Below w.heap.size w w' := by
  obtain ⟨ax, ⟨alo, ⟨alk, aln, als⟩, ali⟩, ⟨aho, ⟨ahk, ahn, ahs⟩, ahi⟩, ae⟩ := p
  unfold aggP wish3
  dsimp only
  cases alo <;> cases aho
  all_goals
    go_enter Try.func30, Try.ntmps30
    go_wp2
    go_ret
    exact ⟨rfl, (by (repeat (first | (with_reducible exact Below.refl _ _) | apply below_alloc _ (Nat.le_refl _) | refine below_set ?_ (by first | exact Nat.le_refl _ | omega) | apply below_drewN | refine below_step ?_ HB)))⟩
set_option maxHeartbeats 2000000 in
set_option maxRecDepth 100000 in
theorem wish2_any (p : Pl) (w : World) : Calls Try.prog 28 #[aggP p] w fun e w' => e = .returned (.bool (wish2 p)) ∧ Below w.heap.size w w' := by
  obtain ⟨ax, ⟨alo, ⟨alk, aln, als⟩, ali⟩, ⟨aho, ⟨ahk, ahn, ahs⟩, ahi⟩, ae⟩ := p
  unfold aggP wish2
  dsimp only
  cases alo
  · cases aho
    · have hc := fun W => order_any alk aln als ahk ahn ahs W
      have h3 := vorder_three ⟨alk, aln, als⟩ ⟨ahk, ahn, ahs⟩
      generalize vorder ⟨alk, aln, als⟩ ⟨ahk, ahn, ahs⟩ = c at *
      rcases h3 with rfl | rfl | rfl
      all_goals
        go_enter Try.func28, Try.ntmps28
        go_wp2_with fail
        refine (hc _).mono ?_; rintro e w4 ⟨rfl, h⟩
        have HF := below_step' ((Below.refl w.heap.size w).alloc (Nat.le_refl _) _) h
        go_wp2
        go_ret
        exact ⟨ret_bool (by simp), HF⟩
    · go_enter Try.func28, Try.ntmps28
      go_wp2
      go_ret
      exact ⟨rfl, (by (repeat (first | (with_reducible exact Below.refl _ _) | apply below_alloc _ (Nat.le_refl _) | refine below_set ?_ (by first | exact Nat.le_refl _ | omega) | apply below_drewN | refine below_step ?_ HB)))⟩
  · go_enter Try.func28, Try.ntmps28
    go_wp2
    go_ret
    exact ⟨rfl, (by (repeat (first | (with_reducible exact Below.refl _ _) | apply below_alloc _ (Nat.le_refl _) | refine below_set ?_ (by first | exact Nat.le_refl _ | omega) | apply below_drewN | refine below_step ?_ HB)))⟩
set_option maxHeartbeats 4000000 in
set_option maxRecDepth 100000 in
theorem idxP_any (A : Option Addr) (c : Nat) (l : List Pl) (fn : FuncId) (q : Pl → Bool) (w : World) (eg : ∀ args w, (callFunc fn args).run Try.prog w = .ok (.enter fn args) w)
    (hq : ∀ (p : Pl) (W : World), Calls Try.prog fn #[aggP p] W fun e w' => e = .returned (.bool (q p)) ∧ Below W.heap.size W w') (HR : RowE encP 12 w A l) (hl : l.length ≤ 1000) :
    Calls Try.prog 31 #[.slice A l.length c, .func (.func fn) #[] #[]] w fun e w' =>
      ((e = .returned (.int .i64 (-1)) ∧ (∀ x ∈ l, q x = false)) ∨ ∃ (i : Nat) (x : Pl), e = .returned (.int .i64 i) ∧ l[i]? = some x ∧ q x = true ∧ (∀ y ∈ l.take i, q y = false)) ∧ Below w.heap.size w w' := by
  have HR' := Lib.hid HR
  have HC := Lib.hid hq
  clear HR hq
  go_enter Try.func31, Try.ntmps31
  go_wp2
  go_loopw [8] (fun i wr => ∃ j : Nat, j ≤ l.length ∧ i = .int .i64 j ∧ Hid (∀ y ∈ l.take j, q y = false) ∧ Hid (Below w.heap.size w wr)) (fun i _ => l.length - (Lib.intOf i).toNat)
  case atStart => exact ⟨0, Nat.zero_le _, rfl, Lib.hid (by simp), Lib.hid (Below.refl _ _)⟩
  case round =>
    obtain ⟨j, hj, rfl, HE, HF⟩ := hrel
    by_cases hlt : j < l.length
    · obtain ⟨x, hx⟩ : ∃ x, l[j]? = some x := ⟨_, List.getElem?_eq_getElem hlt⟩
      obtain ⟨b0, off, rfl, hb0, hcells⟩ := HR'.out j x hx
      have kc : ∀ q u, (encP x)[q]? = some u → wr.cell? ⟨b0, off + j * 12 + q, none⟩ = some u := fun q u hu => (HF.out.cell (p := ⟨b0, _, none⟩) hb0).trans (hcells j x hx q u hu)
      have g0 := kc 0 _ rfl
      have g1 := kc 1 _ rfl
      have g2 := kc 2 _ rfl
      have g3 := kc 3 _ rfl
      have g4 := kc 4 _ rfl
      have g5 := kc 5 _ rfl
      have g6 := kc 6 _ rfl
      have g7 := kc 7 _ rfl
      have g8 := kc 8 _ rfl
      have g9 := kc 9 _ rfl
      have g10 := kc 10 _ rfl
      have g11 := kc 11 _ rfl
      have hc := HC.out x wr
      have HX := Lib.hid hx
      clear hx kc hcells
      simp only [Nat.add_zero] at g0
      have TK : Hid (l.take (j + 1) = l.take j ++ [x]) := Lib.hid (by rw [List.take_add_one, HX.out]; rfl)
      obtain ⟨ax, ⟨alo, ⟨alk, aln, als⟩, ali⟩, ⟨aho, ⟨ahk, ahn, ahs⟩, ahi⟩, ae⟩ := x
      dsimp only at g0 g1 g2 g3 g4 g5 g6 g7 g8 g9 g10 g11
      unfold aggP at hc
      dsimp only at hc
      have hlt' : (j : Int) < (l.length : Int) := by omega
      cases ho : q ⟨ax, ⟨alo, ⟨alk, aln, als⟩, ali⟩, ⟨aho, ⟨ahk, ahn, ahs⟩, ahi⟩, ae⟩ with
      | true =>
        rw [ho] at hc
        go_wp2_with fail
        refine hc.mono ?_; rintro e w2 ⟨rfl, h2⟩
        have HF2 := below_step' HF.out h2
        go_wp2
        go_ret
        exact ⟨.inr ⟨j, _, rfl, HX.out, ho, HE.out⟩, HF2⟩
      | false =>
        rw [ho] at hc
        go_wp2_with fail
        refine hc.mono ?_; rintro e w2 ⟨rfl, h2⟩
        have HF2 := Lib.hid (below_step' HF.out h2)
        go_wp2
        go_roundw
        case rel =>
          refine ⟨j + 1, by omega, by go_num, Lib.hid (fun y hy => ?_), HF2⟩
          rw [TK.out] at hy
          rcases List.mem_append.1 hy with hy | hy
          · exact HE.out y hy
          · obtain rfl : y = _ := by simpa using hy
            exact ho
        case measure => simp [Lib.intOf]; omega
    · obtain rfl : j = l.length := by omega
      go_wp2
      go_ret
      exact ⟨.inl ⟨rfl, fun x hx => HE.out x (by rw [List.take_length]; exact hx)⟩, HF.out⟩
end Go.Proofs.Ytfmfmammcjpboaa
