/- Walks of the laws of layer 1: less. -/
import Derived.Test.YtekldpghidmeaaaAlive
import Derived.Test.YtekldpghidmeaaaRef1c
import Derived.Lib.Walk
import Derived.Laws.OwnMore
namespace Go.Proofs.Ytekldpghidmeaaa
open Go.RowKit
set_option linter.unusedVariables false
set_option linter.unusedSimpArgs false
attribute [local go_sem high] eqVal
def encW (v : V) : List Value := [.int .i64 v.k, .int .i64 v.n, .string v.s]
def upto (X : Int → V) : Nat → List Value
  | 0 => []
  | j + 1 => upto X j ++ encW (X (8 + j))
theorem own_below {w w' : World} {base : Nat} {e : TypeId} {size : Nat} {v : Value} {n : Nat} {xs : List Value} (h : w.ownsRow base e size v n xs) (hb : Below w.heap.size w w') : w'.ownsRow base e size v n xs :=
  h.kept (row := none) ⟨hb.os, hb.tape, hb.output, hb.size, fun k hk _ => hb.block k hk⟩ (by cases v.ownBlock <;> simp)
theorem upto_len (X : Int → V) : ∀ j, (upto X j).length = j * 3
  | 0 => rfl
  | j + 1 => by rw [upto, List.length_append, upto_len X j]; simp [encW]; omega
theorem infoVal : ∃ i0, Try.prog.info? 23 = some i0 ∧ i0.zero = some (.agg #[.int .i64 0, .int .i64 0, .string ⟨#[]⟩]) ∧ i0.size = 3 ∧ i0.bytes = 32 :=
  info_parts (show (Try.prog.info? 23).map (fun i => (i.zero, i.size, i.bytes)) = some (some (.agg #[.int .i64 0, .int .i64 0, .string ⟨#[]⟩]), 3, 32) by kernel_rfl)
theorem reckon_of (op k n : Int) (s : ByteArray) (k' n' : Int) (s' : ByteArray) (X : Int → V) (kn : Bool) (e : Int) (g1 : 8 ≤ op) (g2 : op ≤ 13) (hk : (vcompare ⟨k, n, s⟩ ⟨k', n', s'⟩).2.1 = kn) (hX : vreckon op ⟨k, n, s⟩ ⟨k', n', s'⟩ = (X op, e)) (w : World) :
    Calls Try.prog 18 #[.int .i64 op, .agg #[.int .i64 k, .int .i64 n, .string s], .agg #[.int .i64 k', .int .i64 n', .string s']] w fun r w' => r = .returned (.tuple #[.agg #[.int .i64 (X op).k, .int .i64 (X op).n, .string (X op).s], .int .i64 e]) ∧ Below w.heap.size w w' := by
  cases kn with
  | false =>
    have := Reckon_none op k n s k' n' s' w g1 g2 hk
    rw [hX] at this; exact this
  | true =>
    have := Reckon_told op k n s k' n' s' w g1 g2 hk
    rw [hX] at this; exact this
set_option maxRecDepth 100000 in
set_option maxHeartbeats 4000000 in
theorem less_any (k n : Int) (s : ByteArray) (k' n' : Int) (s' : ByteArray) (w : World) :
    Calls Try.prog 6 #[.agg #[.int .i64 k, .int .i64 n, .string s], .agg #[.int .i64 k', .int .i64 n', .string s']] w fun e w' => e = .returned (.bool true) ∧ Below w.heap.size w w' := by
  have HF := Below.refl w.heap.size w
  obtain ⟨i0, hi, hz0, hz1, hz2⟩ := infoVal
  go_enter Try.func6, Try.ntmps6
  go_wp2_with fail
  refine (alive_any _).mono ?_; rintro e w1 ⟨rfl, h⟩
  have qa0 : w1.cell? ⟨w.heap.size, 0, none⟩ = some (.int .i64 k) := (h.cell (by simp <;> omega)).trans (by go_simp)
  have qa1 : w1.cell? ⟨w.heap.size, 1, none⟩ = some (.int .i64 n) := (h.cell (by simp <;> omega)).trans (by go_simp)
  have qa2 : w1.cell? ⟨w.heap.size, 2, none⟩ = some (.string s) := (h.cell (by simp <;> omega)).trans (by go_simp)
  have la : w.heap.size < w1.heap.size := Nat.lt_of_lt_of_le (by simp <;> omega) h.size
  have qb0 : w1.cell? ⟨w.heap.size + 1, 0, none⟩ = some (.int .i64 k') := (h.cell (by simp <;> omega)).trans (by go_simp)
  have qb1 : w1.cell? ⟨w.heap.size + 1, 1, none⟩ = some (.int .i64 n') := (h.cell (by simp <;> omega)).trans (by go_simp)
  have qb2 : w1.cell? ⟨w.heap.size + 1, 2, none⟩ = some (.string s') := (h.cell (by simp <;> omega)).trans (by go_simp)
  have lb : w.heap.size + 1 < w1.heap.size := Nat.lt_of_lt_of_le (by simp <;> omega) h.size
  have hh : Below w.heap.size w w1 := below_step (by repeat (first | (with_reducible exact Below.refl _ _) | apply below_alloc _ (Nat.le_refl _))) h
  replace HF := below_step HF hh
  clear h hh
  go_wp2_with fail
  refine (compare_any _ _ _ _ _ _ _).mono ?_; rintro e w2 ⟨rfl, h⟩
  have hh : Below w1.heap.size w1 w2 := below_step (by repeat (first | (with_reducible exact Below.refl _ _) | apply below_alloc _ (Nat.le_refl _))) h
  replace qa0 := (hh.cell (World.block_lt_of_cell? _ _ qa0)).trans qa0
  replace qa1 := (hh.cell (World.block_lt_of_cell? _ _ qa1)).trans qa1
  replace qa2 := (hh.cell (World.block_lt_of_cell? _ _ qa2)).trans qa2
  replace la := Nat.lt_of_lt_of_le la hh.size
  replace qb0 := (hh.cell (World.block_lt_of_cell? _ _ qb0)).trans qb0
  replace qb1 := (hh.cell (World.block_lt_of_cell? _ _ qb1)).trans qb1
  replace qb2 := (hh.cell (World.block_lt_of_cell? _ _ qb2)).trans qb2
  replace lb := Nat.lt_of_lt_of_le lb hh.size
  replace HF := below_step HF hh
  clear h hh
  have kno := vcompare_known ⟨k, n, s⟩ ⟨k', n', s'⟩
  have hv : ∀ op, 8 ≤ op → op ≤ 13 → vreckon op ⟨k, n, s⟩ ⟨k', n', s'⟩ = if (vcompare ⟨k, n, s⟩ ⟨k', n', s'⟩).2.1 = false then (V.nul, (vcompare ⟨k, n, s⟩ ⟨k', n', s'⟩).2.2) else (vbool (told op (vcompare ⟨k, n, s⟩ ⟨k', n', s'⟩).1), 0) := fun op g1 g2 => by
    unfold vreckon
    rw [if_neg (by omega), if_neg (by omega)]
  have hz : (vcompare ⟨k, n, s⟩ ⟨k', n', s'⟩).2.1 = true → (vcompare ⟨k, n, s⟩ ⟨k', n', s'⟩).2.2 = 0 := by
    unfold vcompare; (repeat' split) <;> simp
  have hRR := fun (X : Int → V) (kn : Bool) (e : Int) (op : Int) g1 g2 h1 h2 W => reckon_of op k n s k' n' s' X kn e g1 g2 h1 h2 W
  generalize vcompare ⟨k, n, s⟩ ⟨k', n', s'⟩ = C at *
  obtain ⟨c, kn, er⟩ := C
  dsimp only at *
  cases kn with
  | false =>
    have HC : Hid (∀ op, 8 ≤ op → op ≤ 13 → ∀ W : World, Calls Try.prog 18 #[.int .i64 op, .agg #[.int .i64 k, .int .i64 n, .string s], .agg #[.int .i64 k', .int .i64 n', .string s']] W fun r w' => r = .returned (.tuple #[.agg #[.int .i64 0, .int .i64 0, .string ⟨#[]⟩], .int .i64 er]) ∧ Below W.heap.size W w') := Lib.hid (fun op g1 g2 W => hRR (fun _ => V.nul) false er op g1 g2 rfl (by rw [hv op g1 g2]; simp) W)
    clear kno hv hz hRR
    have s0 : sameB 0 0 ⟨#[]⟩ 0 0 ⟨#[]⟩ = true := by simp [sameB]
    go_wp2_with fail
    go_loopw [9, 10] (fun v i wr => ∃ j : Nat, j ≤ 6 ∧ i = .int .i64 (8 + (j : Int)) ∧ wr.ownsRow w2.heap.size 23 3 v j (upto (fun _ => V.nul) j) ∧ Below w2.heap.size w2 wr) (fun _ i _ => (14 - Lib.intOf i).toNat)
    case atStart => exact ⟨0, by omega, rfl, World.ownsRow_nil _ _ _ _, Below.refl _ _⟩
    case round =>
      obtain ⟨j, hj, rfl, hown, hbel⟩ := hrel
      by_cases hlt : j < 6
      · have i1 : 8 + (j : Int) ≤ 13 := by omega
        have pa0 := (hbel.cell (p := ⟨w.heap.size, 0, none⟩) la).trans qa0
        have pa1 := (hbel.cell (p := ⟨w.heap.size, 1, none⟩) la).trans qa1
        have pa2 := (hbel.cell (p := ⟨w.heap.size, 2, none⟩) la).trans qa2
        have pb0 := (hbel.cell (p := ⟨w.heap.size + 1, 0, none⟩) lb).trans qb0
        have pb1 := (hbel.cell (p := ⟨w.heap.size + 1, 1, none⟩) lb).trans qb1
        have pb2 := (hbel.cell (p := ⟨w.heap.size + 1, 2, none⟩) lb).trans qb2
        have hc := HC.out (8 + (j : Int)) (by omega) i1 wr
        go_upto_region 12 with (go_at_call 18; refine hc.mono ?_; rintro e w5 ⟨rfl, h5⟩)
        have hown5 := own_below hown h5
        have hb5 := below_then hbel hbel.size h5
        clear h5 hown hc
        go_wp2_with (at_builtin; refine wpList_append_own _ rfl _ _ 41 rfl w2.heap.size 23 i0 (.agg #[.int .i64 0, .int .i64 0, .string ⟨#[]⟩]) 3 32 Try.underlying41 hi hz0 hz1 hz2 rfl (by decide) _ _ _ rfl ((hown5.alloc _).alloc _) ⟨w5.heap.size + 1, 0, none⟩ 1 1 [.int .i64 0, .int .i64 0, .string ⟨#[]⟩] rfl rfl ?c1 ?c2 ?c3 ?c4 ?c5 ?_)
        case c1 =>
          intro i u hu
          rw [Addr.add_lit]
          match i, hu with
          | 0, hu => simp at hu; subst hu; go_simp
          | 1, hu => simp at hu; subst hu; go_simp
          | 2, hu => simp at hu; subst hu; go_simp
        case c2 => intro u hu; simp at hu; rcases hu with rfl | rfl | rfl <;> rfl
        case c3 => unfold maxLen; omega
        case c4 => omega
        case c5 => have := hb5.size; simp; omega
        intro v' w6 hown' hgrow hnil
        have hb6 : Below w2.heap.size w2 w6 := ((hb5.alloc hb5.size _).alloc (by have := hb5.size; simp; omega) _).grown hgrow (by have := hb5.size; simp; omega) (fun k hk => (hown5.lt k hk).1)
        have hown6 : w6.ownsRow w2.heap.size 23 3 v' (j + 1) (upto (fun _ => V.nul) (j + 1)) := hown'
        clear hown5 hown' hgrow hnil hb5 pa0 pa1 pa2 pb0 pb1 pb2
        go_wp2
        go_roundw
        case rel => exact ⟨j + 1, by omega, by go_num, hown6, hb6⟩
        case measure => simp [Lib.intOf]; omega
      · obtain rfl : j = 6 := by omega
        go_wp2
        go_ret
        exact ⟨rfl, below_step HF hbel⟩
  | true =>
    obtain rfl := hz rfl
    have HC : Hid (∀ op, 8 ≤ op → op ≤ 13 → ∀ W : World, Calls Try.prog 18 #[.int .i64 op, .agg #[.int .i64 k, .int .i64 n, .string s], .agg #[.int .i64 k', .int .i64 n', .string s']] W fun r w' => r = .returned (.tuple #[.agg #[.int .i64 2, .int .i64 (vbool (told op c)).n, .string ⟨#[]⟩], .int .i64 0]) ∧ Below W.heap.size W w') := Lib.hid (fun op g1 g2 W => hRR (fun op => vbool (told op c)) true 0 op g1 g2 rfl (by rw [hv op g1 g2]; simp) W)
    have kn := kno rfl
    clear kno hv hz hRR
    go_wp2_with fail
    go_loopw [9, 10] (fun v i wr => ∃ j : Nat, j ≤ 6 ∧ i = .int .i64 (8 + (j : Int)) ∧ wr.ownsRow w2.heap.size 23 3 v j (upto (fun op => vbool (told op c)) j) ∧ Below w2.heap.size w2 wr) (fun _ i _ => (14 - Lib.intOf i).toNat)
    case atStart => exact ⟨0, by omega, rfl, World.ownsRow_nil _ _ _ _, Below.refl _ _⟩
    case round =>
      obtain ⟨j, hj, rfl, hown, hbel⟩ := hrel
      by_cases hlt : j < 6
      · have i1 : 8 + (j : Int) ≤ 13 := by omega
        have pa0 := (hbel.cell (p := ⟨w.heap.size, 0, none⟩) la).trans qa0
        have pa1 := (hbel.cell (p := ⟨w.heap.size, 1, none⟩) la).trans qa1
        have pa2 := (hbel.cell (p := ⟨w.heap.size, 2, none⟩) la).trans qa2
        have pb0 := (hbel.cell (p := ⟨w.heap.size + 1, 0, none⟩) lb).trans qb0
        have pb1 := (hbel.cell (p := ⟨w.heap.size + 1, 1, none⟩) lb).trans qb1
        have pb2 := (hbel.cell (p := ⟨w.heap.size + 1, 2, none⟩) lb).trans qb2
        have hc := HC.out (8 + (j : Int)) (by omega) i1 wr
        have hN : Hid (∀ j : Nat, upto (fun op => vbool (told op c)) (j + 1) = upto (fun op => vbool (told op c)) j ++ [.int .i64 2, .int .i64 (vbool (told (8 + (j : Int)) c)).n, .string ⟨#[]⟩]) := Lib.hid (fun j => rfl)
        generalize hX : (vbool (told (8 + (j : Int)) c)).n = XN at hc
        have HX := Lib.hid hX
        clear hX
        go_upto_region 12 with (go_at_call 18; refine hc.mono ?_; rintro e w5 ⟨rfl, h5⟩)
        have hown5 := own_below hown h5
        have hb5 := below_then hbel hbel.size h5
        clear h5 hown hc
        go_wp2_with (at_builtin; refine wpList_append_own _ rfl _ _ 41 rfl w2.heap.size 23 i0 (.agg #[.int .i64 0, .int .i64 0, .string ⟨#[]⟩]) 3 32 Try.underlying41 hi hz0 hz1 hz2 rfl (by decide) _ _ _ rfl ((hown5.alloc _).alloc _) ⟨w5.heap.size + 1, 0, none⟩ 1 1 [.int .i64 2, .int .i64 XN, .string ⟨#[]⟩] rfl rfl ?c1 ?c2 ?c3 ?c4 ?c5 ?_)
        case c1 =>
          intro i u hu
          rw [Addr.add_lit]
          match i, hu with
          | 0, hu => simp at hu; subst hu; go_simp
          | 1, hu => simp at hu; subst hu; go_simp
          | 2, hu => simp at hu; subst hu; go_simp
        case c2 => intro u hu; simp at hu; rcases hu with rfl | rfl | rfl <;> rfl
        case c3 => unfold maxLen; omega
        case c4 => omega
        case c5 => have := hb5.size; simp; omega
        intro v' w6 hown' hgrow hnil
        have hb6 : Below w2.heap.size w2 w6 := ((hb5.alloc hb5.size _).alloc (by have := hb5.size; simp; omega) _).grown hgrow (by have := hb5.size; simp; omega) (fun k hk => (hown5.lt k hk).1)
        have hown6 : w6.ownsRow w2.heap.size 23 3 v' (j + 1) (upto (fun op => vbool (told op c)) (j + 1)) := by rw [hN.out, HX.out]; exact hown'
        clear hown5 hown' hgrow hnil hb5 pa0 pa1 pa2 pb0 pb1 pb2
        go_wp2
        go_roundw
        case rel => exact ⟨j + 1, by omega, by go_num, hown6, hb6⟩
        case measure => simp [Lib.intOf]; omega
      · obtain rfl : j = 6 := by omega
        rcases hown.2 with ⟨_, h0⟩ | ⟨g, cap, cur, rfl, _⟩
        · omega
        have c0 := hown.cellAt 1 (by omega)
        have c1 := hown.cellAt 4 (by omega)
        have c2 := hown.cellAt 7 (by omega)
        have c3 := hown.cellAt 10 (by omega)
        have c4 := hown.cellAt 13 (by omega)
        have c5 := hown.cellAt 16 (by omega)
        have HFW := below_step HF hbel
        clear hown qa0 qa1 qa2 qb0 qb1 qb2 HC
        have b0 : (0 : Int) < 6 := by decide
        have b1 : (1 : Int) < 6 := by decide
        have b2 : (2 : Int) < 6 := by decide
        have b3 : (3 : Int) < 6 := by decide
        have b4 : (4 : Int) < 6 := by decide
        have b5 : (5 : Int) < 6 := by decide
        rcases kn with rfl | rfl | rfl
        all_goals
          simp [upto, encW, told, vbool] at c0 c1 c2 c3 c4 c5
          go_wp2_with fail
          go_quiet (fail)
          go_wp2_with fail
          go_quiet (fail)
          go_wp2
          go_ret
          exact ⟨rfl, below_drewN (below_drewN HFW _) _⟩
end Go.Proofs.Ytekldpghidmeaaa
