/- slices.CompareFunc at values, keycode.Less, switchbackplain.SameRow: two lists, side by side. -/
import Derived.Test.YtinkmcbcfdlnjaaLawC
import Derived.Shelf.Abstract
namespace Go.Proofs.Ytinkmcbcfdlnjaa
open Go.RowKit
open Go.Shelf
set_option linter.unusedVariables false
set_option linter.unusedSimpArgs false
attribute [local go_sem high] eqVal
theorem drop_cons {α : Type} {l : List α} {j : Nat} {x : α} (h : l[j]? = some x) : l.drop j = x :: l.drop (j + 1) := by
  obtain ⟨hj, e⟩ := List.getElem?_eq_some_iff.1 h
  rw [List.drop_eq_getElem_cons hj, e]
theorem lcmp_nil (l : List V) (a : V) : lcmp (a :: l) [] = 1 := by unfold lcmp; rfl
theorem lcmp_one (m : List V) (a : V) : lcmp [] (a :: m) = -1 := by unfold lcmp; rfl
theorem lcmp_two : lcmp [] [] = 0 := by unfold lcmp; rfl
theorem lcmp_cons (a b : V) (l m : List V) : lcmp (a :: l) (b :: m) = if vorder a b ≠ 0 then vorder a b else lcmp l m := by conv => lhs; unfold lcmp
set_option maxHeartbeats 4000000 in
set_option maxRecDepth 100000 in
theorem compareFunc_any (A B : Option Addr) (c d : Nat) (l m : List V) (w : World) (HA : RowE encVal 3 w A l) (HM : RowE encVal 3 w B m) (hl : l.length ≤ 140737488355328) (hm : m.length ≤ 140737488355328) :
    Calls Try.prog 20 #[.slice A l.length c, .slice B m.length d, .func (.func 21) #[] #[]] w fun e w' => e = .returned (.int .i64 (lcmp l m)) ∧ Below w.heap.size w w' := by
  have eg : ∀ args w, (callFunc 21 args).run Try.prog w = .ok (.enter 21 args) w := enters_of Try.func21 (by kernel_rfl) rfl
  have HA' := Lib.hid HA
  have HM' := Lib.hid HM
  clear HA HM
  go_enter Try.func20, Try.ntmps20
  go_wp2
  go_loopw [13] (fun i wr => ∃ j : Nat, j ≤ l.length ∧ j ≤ m.length ∧ i = .int .i64 j ∧ Hid (lcmp l m = lcmp (l.drop j) (m.drop j)) ∧ Below w.heap.size w wr) (fun i _ => l.length - (Lib.intOf i).toNat)
  case atStart => exact ⟨0, Nat.zero_le _, Nat.zero_le _, rfl, Lib.hid (by simp), Below.refl _ _⟩
  case round =>
    obtain ⟨j, hj, hjm, rfl, HE, hbel⟩ := hrel
    by_cases hlt : j < l.length
    · obtain ⟨x, hx⟩ : ∃ x, l[j]? = some x := ⟨_, List.getElem?_eq_getElem hlt⟩
      obtain ⟨b0, off, rfl, hb0, hcells⟩ := HA'.out j x hx
      have g0 : wr.cell? ⟨b0, off + j * 3, none⟩ = some (.int .i64 x.k) := (hbel.cell (p := ⟨b0, _, none⟩) hb0).trans (hcells j x hx 0 _ rfl)
      have g1 : wr.cell? ⟨b0, off + j * 3 + 1, none⟩ = some (.int .i64 x.n) := (hbel.cell (p := ⟨b0, _, none⟩) hb0).trans (hcells j x hx 1 _ rfl)
      have g2 : wr.cell? ⟨b0, off + j * 3 + 2, none⟩ = some (.string x.s) := (hbel.cell (p := ⟨b0, _, none⟩) hb0).trans (hcells j x hx 2 _ rfl)
      have DX := drop_cons hx
      clear hcells hx
      by_cases hmt : j < m.length
      · obtain ⟨y, hy⟩ : ∃ y, m[j]? = some y := ⟨_, List.getElem?_eq_getElem hmt⟩
        obtain ⟨b1, off1, rfl, hb1, hcells⟩ := HM'.out j y hy
        have p0 : wr.cell? ⟨b1, off1 + j * 3, none⟩ = some (.int .i64 y.k) := (hbel.cell (p := ⟨b1, _, none⟩) hb1).trans (hcells j y hy 0 _ rfl)
        have p1 : wr.cell? ⟨b1, off1 + j * 3 + 1, none⟩ = some (.int .i64 y.n) := (hbel.cell (p := ⟨b1, _, none⟩) hb1).trans (hcells j y hy 1 _ rfl)
        have p2 : wr.cell? ⟨b1, off1 + j * 3 + 2, none⟩ = some (.string y.s) := (hbel.cell (p := ⟨b1, _, none⟩) hb1).trans (hcells j y hy 2 _ rfl)
        have DY := drop_cons hy
        clear hcells hy
        have HE2 : Hid (lcmp l m = if vorder x y ≠ 0 then vorder x y else lcmp (l.drop (j + 1)) (m.drop (j + 1))) := Lib.hid (by rw [HE.out, DX, DY, lcmp_cons])
        clear HE DX DY
        have hc := fun W => order_any x.k x.n x.s y.k y.n y.s W
        have hlw := World.block_lt_of_cell? _ _ g0
        have hlw1 := World.block_lt_of_cell? _ _ p0
        obtain ⟨k, n, s⟩ := x
        obtain ⟨k', n', s'⟩ := y
        dsimp only at g0 g1 g2 p0 p1 p2 hc hlw hlw1
        generalize hv : vorder ⟨k, n, s⟩ ⟨k', n', s'⟩ = v at hc HE2
        clear hv
        by_cases h0 : v = 0
        · subst h0
          go_wp2_with (go_at_fn 21; refine (hc _).mono ?_; rintro e w2 ⟨rfl, h2⟩)
          go_roundw
          case rel =>
            refine ⟨j + 1, by omega, by omega, by go_num, Lib.hid (by rw [HE2.out]; simp), ?_⟩
            exact ((hbel.alloc hbel.size _).alloc (by have := hbel.size; simp; omega) _).trans (h2.mono (by have := hbel.size; simp; omega))
          case measure => simp [Lib.intOf]; omega
        · go_wp2_with (go_at_fn 21; refine (hc _).mono ?_; rintro e w2 ⟨rfl, h2⟩)
          go_ret
          refine ⟨ret_int (by rw [HE2.out, if_pos h0]), ?_⟩
          exact ((hbel.alloc hbel.size _).alloc (by have := hbel.size; simp; omega) _).trans (h2.mono (by have := hbel.size; simp; omega))
      · obtain rfl : j = m.length := by omega
        go_wp2
        go_ret
        exact ⟨ret_int (by rw [HE.out, DX, List.drop_length, lcmp_nil]), hbel.alloc hbel.size _⟩
    · obtain rfl : j = l.length := by omega
      by_cases hmt : l.length < m.length
      · obtain ⟨y, hy⟩ : ∃ y, m[l.length]? = some y := ⟨_, List.getElem?_eq_getElem hmt⟩
        have DY := drop_cons hy
        have hh : (l.length : Int) < (m.length : Int) := by omega
        go_wp2
        go_ret
        refine ⟨ret_int (by rw [HE.out, DY, List.drop_length, lcmp_one]), hbel⟩
      · have hh : ¬ (l.length : Int) < (m.length : Int) := by omega
        go_wp2
        go_ret
        refine ⟨ret_int (by rw [HE.out, List.drop_length, List.drop_of_length_le (by omega), lcmp_two]), hbel⟩
set_option maxRecDepth 100000 in
theorem less_any (A B : Option Addr) (c d : Nat) (l m : List V) (w : World) (HA : RowE encVal 3 w A l) (HM : RowE encVal 3 w B m) (hl : l.length ≤ 140737488355328) (hm : m.length ≤ 140737488355328) :
    Calls Try.prog 14 #[.slice A l.length c, .slice B m.length d] w fun e w' => e = .returned (.bool (decide (lcmp l m < 0))) ∧ Below w.heap.size w w' := by
  have hc := compareFunc_any A B c d l m w HA HM hl hm
  generalize lcmp l m = v at *
  go_enter Try.func14, Try.ntmps14
  go_wp2_with (go_at_call 20; refine hc.mono ?_; rintro e w2 ⟨rfl, h2⟩)
  go_ret
  exact ⟨rfl, h2⟩
theorem sameL_len : ∀ (l m : List V), sameL l m = true → l.length = m.length
  | [], [], _ => rfl
  | [], _ :: _, h => by simp [sameL] at h
  | _ :: _, [], h => by simp [sameL] at h
  | a :: l, b :: m, h => by
    simp only [sameL, Bool.and_eq_true] at h
    simp [sameL_len l m h.2]
set_option maxHeartbeats 4000000 in
set_option maxRecDepth 100000 in
theorem sameRow_any (A B : Option Addr) (c d : Nat) (l m : List V) (w : World) (HA : RowE encVal 3 w A l) (HM : RowE encVal 3 w B m) (hl : l.length ≤ 140737488355328) (hm : m.length ≤ 140737488355328) :
    Calls Try.prog 15 #[.slice A l.length c, .slice B m.length d] w fun e w' => e = .returned (.bool (sameL l m)) ∧ Below w.heap.size w w' := by
  by_cases hne : l.length = m.length
  · have HA' := Lib.hid HA
    have HM' := Lib.hid HM
    clear HA HM
    have hne' : (m.length : Int) = (l.length : Int) := by omega
    go_enter Try.func15, Try.ntmps15
    go_wp2
    go_loopw [5] (fun i wr => ∃ j : Nat, j ≤ l.length ∧ i = .int .i64 j ∧ Hid (sameL l m = sameL (l.drop j) (m.drop j)) ∧ Below w.heap.size w wr) (fun i _ => l.length - (Lib.intOf i).toNat)
    case atStart => exact ⟨0, Nat.zero_le _, rfl, Lib.hid (by simp), Below.refl _ _⟩
    case round =>
      obtain ⟨j, hj, rfl, HE, hbel⟩ := hrel
      by_cases hlt : j < l.length
      · obtain ⟨x, hx⟩ : ∃ x, l[j]? = some x := ⟨_, List.getElem?_eq_getElem hlt⟩
        obtain ⟨b0, off, rfl, hb0, hcells⟩ := HA'.out j x hx
        have g0 : wr.cell? ⟨b0, off + j * 3, none⟩ = some (.int .i64 x.k) := (hbel.cell (p := ⟨b0, _, none⟩) hb0).trans (hcells j x hx 0 _ rfl)
        have g1 : wr.cell? ⟨b0, off + j * 3 + 1, none⟩ = some (.int .i64 x.n) := (hbel.cell (p := ⟨b0, _, none⟩) hb0).trans (hcells j x hx 1 _ rfl)
        have g2 : wr.cell? ⟨b0, off + j * 3 + 2, none⟩ = some (.string x.s) := (hbel.cell (p := ⟨b0, _, none⟩) hb0).trans (hcells j x hx 2 _ rfl)
        have DX := drop_cons hx
        clear hcells hx
        obtain ⟨y, hy⟩ : ∃ y, m[j]? = some y := ⟨_, List.getElem?_eq_getElem (by omega)⟩
        obtain ⟨b1, off1, rfl, hb1, hcells⟩ := HM'.out j y hy
        have p0 : wr.cell? ⟨b1, off1 + j * 3, none⟩ = some (.int .i64 y.k) := (hbel.cell (p := ⟨b1, _, none⟩) hb1).trans (hcells j y hy 0 _ rfl)
        have p1 : wr.cell? ⟨b1, off1 + j * 3 + 1, none⟩ = some (.int .i64 y.n) := (hbel.cell (p := ⟨b1, _, none⟩) hb1).trans (hcells j y hy 1 _ rfl)
        have p2 : wr.cell? ⟨b1, off1 + j * 3 + 2, none⟩ = some (.string y.s) := (hbel.cell (p := ⟨b1, _, none⟩) hb1).trans (hcells j y hy 2 _ rfl)
        have DY := drop_cons hy
        clear hcells hy
        have HE2 : Hid (sameL l m = (x.same y && sameL (l.drop (j + 1)) (m.drop (j + 1)))) := Lib.hid (by rw [HE.out, DX, DY]; rfl)
        clear HE DX DY
        obtain ⟨k, n, s⟩ := x
        obtain ⟨k', n', s'⟩ := y
        dsimp only at g0 g1 g2 p0 p1 p2
        have i1 : (j : Int) < (l.length : Int) := by omega
        have i2 : (j : Int) < (m.length : Int) := by omega
        by_cases hs : sameB k n s k' n' s' = true
        · go_wp2_with fail
          go_quiet (fail)
          go_wp2
          go_roundw
          case rel =>
            refine ⟨j + 1, by omega, by go_num, Lib.hid ?_, below_drewN hbel _⟩
            rw [HE2.out]
            show (sameB k n s k' n' s' && _) = _
            rw [hs, Bool.true_and]
          case measure => simp [Lib.intOf]; omega
        · have hs' : sameB k n s k' n' s' = false := by simpa using hs
          go_wp2_with fail
          go_quiet (fail)
          go_wp2
          go_ret
          refine ⟨ret_bool ?_, below_drewN hbel _⟩
          rw [HE2.out]
          show _ = (sameB k n s k' n' s' && _)
          rw [hs', Bool.false_and]
      · obtain rfl : j = l.length := by omega
        go_wp2
        go_ret
        refine ⟨ret_bool ?_, hbel⟩
        rw [HE.out, List.drop_length, List.drop_of_length_le (by omega)]
        rfl
  · have hh : ¬ (l.length : Int) = (m.length : Int) := by omega
    have e : sameL l m = false := by
      rw [Bool.eq_false_iff]; exact fun h => hne (sameL_len l m h)
    rw [e]
    clear e
    go_enter Try.func15, Try.ntmps15
    go_wp2
    all_goals (go_ret; exact ⟨ret_bool (by simp_all), Below.refl _ _⟩)
end Go.Proofs.Ytinkmcbcfdlnjaa
