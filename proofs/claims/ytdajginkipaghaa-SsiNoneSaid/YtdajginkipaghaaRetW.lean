/- Package ssi: Horizon; what Retire calls. -/
import Derived.Test.YtdajginkipaghaaSsiW3
import Derived.Test.YtdajginkipaghaaKept
namespace Go.Proofs.Ytdajginkipaghaa
open Go.RowKit
open Go.Shelf
set_option linter.unusedVariables false
set_option linter.unusedSimpArgs false
theorem hor_cons (n : Int) (t : Tx) (l : List Tx) : hor n (t :: l) = hor (if t.en = 0 then min n t.st else n) l := by conv => lhs; unfold hor
set_option maxHeartbeats 4000000 in
set_option maxRecDepth 100000 in
theorem horizon_any (A : Option Addr) (c : Nat) (s : St) (w : World) (HR : RowE encT 5 w A s.l) (hl : s.l.length ≤ 140737488355328) :
    Calls Try.prog 21 #[.agg #[.slice A s.l.length c, .int .i64 s.clk, .int .i64 s.nxt]] w fun e w' => e = .returned (.tuple #[.int .i64 (horizonR s).1, .int .i64 (horizonR s).2]) ∧ Below w.heap.size w w' := by
  have HB0 := Box3.new w (.slice A s.l.length c) (.int .i64 s.clk) (.int .i64 s.nxt) 26
  have ba : Below w.heap.size w (w.alloc (.cells #[.slice A s.l.length c, .int .i64 s.clk, .int .i64 s.nxt] 26)) := (by (repeat (first | (with_reducible exact Below.refl _ _) | apply below_alloc _ (Nat.le_refl _) | refine below_set ?_ (by first | exact Nat.le_refl _ | omega) | apply below_drewN | refine below_step ?_ HB)))
  have hc := check_any A c s.l s.clk s.nxt _ (HR.below ba) hl
  have E1 : Hid (s.chk ≠ 0 → horizonR s = (0, s.chk)) := Lib.hid (fun h => by unfold horizonR; rw [if_pos h])
  have E2 : Hid (s.chk = 0 → horizonR s = (hor s.clk s.l, 0)) := Lib.hid (fun h => by unfold horizonR; rw [if_neg (by simp [h])])
  have HR' := Lib.hid HR
  clear HR
  unfold St.chk at E1 E2
  generalize hk : chk s.l s.clk s.nxt = k at *
  clear hk
  obtain ⟨l, clk, nxt⟩ := s
  dsimp only at *
  go_enter Try.func21, Try.ntmps21
  go_wp2_with fail
  refine hc.mono ?_; rintro e w1 ⟨rfl, h1⟩
  replace HB0 := HB0.below h1 (by simp <;> omega)
  have HF := ba.trans (h1.mono (by simp <;> omega))
  clear h1 hc ba
  obtain ⟨c00, c01, c02, f00, f01, f02, l0⟩ := HB0
  by_cases k0 : k = 0
  · subst k0
    have EE : Hid (horizonR ⟨l, clk, nxt⟩ = (hor clk l, 0)) := Lib.hid (E2.out (by trivial))
    clear E1 E2
    go_wp2
    go_loopw [5, 18] (fun s i wr => ∃ j : Nat, j ≤ l.length ∧ i = .int .i64 j ∧ ∃ n : Int, s = .int .i64 n ∧ Hid (hor clk l = hor n (l.drop j)) ∧ Below w.heap.size w wr) (fun _ i _ => l.length - (Lib.intOf i).toNat)
    case atStart => exact ⟨0, Nat.zero_le _, rfl, clk, rfl, Lib.hid (by simp), HF⟩
    case round =>
      obtain ⟨j, hj, rfl, n, rfl, HE, hbel⟩ := hrel
      by_cases hlt : j < l.length
      · obtain ⟨x, hx⟩ : ∃ x, l[j]? = some x := ⟨_, List.getElem?_eq_getElem hlt⟩
        obtain ⟨b0, off, rfl, hb0, g0, g1, g2, g3, g4⟩ := HR'.out.five (B := 0) hx hbel
        have DX := drop_cons hx
        have HE2 : Hid (hor clk l = hor (if x.en = 0 then min n x.st else n) (l.drop (j + 1))) := Lib.hid (by rw [HE.out, DX, hor_cons])
        clear HE DX hx
        obtain ⟨id, st, en, inn, out⟩ := x
        dsimp only at g0 g1 g2 g3 g4
        have hB5 := hbel.alloc hbel.size (.cells #[.int .i64 id, .int .i64 st, .int .i64 en, .bool inn, .bool out] 40)
        clear c00 c01 c02 f00 f01 f02
        by_cases q : en = 0
        · subst q
          go_wp2
          go_roundw
          case rel => exact ⟨j + 1, by omega, by go_num, min n st, by first | rfl | simp, Lib.hid (by rw [HE2.out]; simp), hB5⟩
          case measure => simp [Lib.intOf]; omega
        · have q' : (en == 0) = false := by simpa using q
          go_wp2
          go_roundw
          case rel => exact ⟨j + 1, by omega, by go_num, n, rfl, Lib.hid (by rw [HE2.out]; simp [q]), hB5⟩
          case measure => simp [Lib.intOf]; omega
      · obtain rfl : j = l.length := by omega
        go_wp2
        refine bodyPost_ret (v := .tuple #[.int .i64 n, .int .i64 0]) (by simp [results, Try.results21, go_sem]) rfl ⟨?_, hbel⟩
        rw [EE.out, HE.out, List.drop_length]; rfl
  · have EE : Hid (horizonR ⟨l, clk, nxt⟩ = (0, k)) := Lib.hid (E1.out k0)
    clear E1 E2
    go_wp2
    refine bodyPost_ret (v := .tuple #[.int .i64 0, .int .i64 k]) (by simp [results, Try.results21, go_sem]) rfl ⟨?_, HF⟩
    rw [EE.out]
/-- The cell at B holds a slice of the call's own, of these numbers. -/
def Log (w : World) (base B : Nat) (zs : List Int) : Prop := ∃ v, w.cell? ⟨B, 0, none⟩ = some v ∧ w.frozen? ⟨B, 0, none⟩ = false ∧ B < base ∧ base ≤ w.heap.size ∧ w.ownsRow base 3 1 v zs.length (zs.map (Value.int .i64))
theorem infoI : ∃ i0, Try.prog.info? 3 = some i0 ∧ i0.zero = some (.int .i64 0) ∧ i0.size = 1 ∧ i0.bytes = 8 :=
  info_parts (show (Try.prog.info? 3).map (fun i => (i.zero, i.size, i.bytes)) = some (some (.int .i64 0), 1, 8) by kernel_rfl)
set_option maxHeartbeats 4000000 in
set_option maxRecDepth 100000 in
theorem gone1_any (n : Int) (x : Tx) (B1 B2 base : Nat) (zs : List Int) (w : World) (h1 : B1 < base) (h12 : B1 ≠ B2) (hn : w.cell? ⟨B1, 0, none⟩ = some (.int .i64 n)) (hL : Log w base B2 zs) (hz : zs.length ≤ 1000) :
    Calls Try.prog 23 #[.agg #[.int .i64 x.id, .int .i64 x.st, .int .i64 x.en, .bool x.inn, .bool x.out], .pointer (some ⟨B1, 0, none⟩), .pointer (some ⟨B2, 0, none⟩)] w fun e w' => e = .returned (.bool (gone n x)) ∧ Kept base (· = B2) w w' ∧ Log w' base B2 (if gone n x then zs ++ [x.id] else zs) ∧ (gone n x = false → Below w.heap.size w w') := by
  obtain ⟨v, hv, hf, hB2, hbw, hown⟩ := hL
  obtain ⟨i0, hi, hz0, hz1, hz2⟩ := infoI
  obtain ⟨id, st, en, inn, out⟩ := x
  dsimp only
  have hK0 := Kept.alloc (Kept.refl base (· = B2) w) hbw (.cells #[.int .i64 id, .int .i64 st, .int .i64 en, .bool inn, .bool out] 40)
  have hne1 : B1 ≠ w.heap.size := by omega
  have hne2 : B2 ≠ w.heap.size := by omega
  have hlw1 := World.block_lt_of_cell? _ _ hn
  have hlw2 := World.block_lt_of_cell? _ _ hv
  cases hg : gone n ⟨id, st, en, inn, out⟩ with
  | false =>
    have L0 : Log (w.alloc (.cells #[.int .i64 id, .int .i64 st, .int .i64 en, .bool inn, .bool out] 40)) base B2 zs :=
      ⟨v, (hK0.trans (Kept.refl _ _ _) |> fun _ => ((Below.refl w.heap.size w).alloc (Nat.le_refl _) _).cell (p := ⟨B2, 0, none⟩) hlw2).trans hv, (((Below.refl w.heap.size w).alloc (Nat.le_refl _) _).frozen (p := ⟨B2, 0, none⟩) hlw2).trans hf, hB2, by simp; omega, hown.alloc _⟩
    have hL := Lib.hid L0
    clear hown L0
    have hg1 : ¬ en < 0 := by intro h; simp [gone, h] at hg
    have hg2 : ¬ (0 < en ∧ en ≤ n) := by rintro ⟨h, h'⟩; simp [gone, h, h'] at hg
    clear hg
    by_cases q : 0 < en
    · have q2 : ¬ en ≤ n := fun h => hg2 ⟨q, h⟩
      clear hg2
      go_enter Try.func23, Try.ntmps23
      go_wp2
      go_ret
      exact ⟨rfl, hK0, hL.out, (Below.refl _ w).alloc (Nat.le_refl _) _⟩
    · clear hg2
      go_enter Try.func23, Try.ntmps23
      go_wp2
      go_ret
      exact ⟨rfl, hK0, hL.out, (Below.refl _ w).alloc (Nat.le_refl _) _⟩
  | true =>
    have hgg : en < 0 ∨ (0 < en ∧ en ≤ n) := by simpa [gone] using hg
    clear hg
    by_cases q : en < 0
    · clear hgg
      go_enter Try.func23, Try.ntmps23
      go_wp2_with (at_builtin; refine wpList_append_own _ rfl _ _ 30 rfl base 3 i0 (.int .i64 0) 1 8 Try.underlying30 hi hz0 hz1 hz2 rfl (by decide) _ _ _ rfl ((hown.alloc _).alloc _) ⟨w.heap.size + 1, 0, none⟩ 1 1 [.int .i64 id] rfl rfl ?c1 ?c2 ?c3 ?c4 ?c5 ?_)
      case c2 => rfl
      case c3 => unfold maxLen; omega
      case c4 => omega
      case c5 => omega
      intro v' w3 hown' hgrow hnil
      have hK1 := Kept.grown (Kept.alloc hK0 (by simp; omega) (.cells #[.int .i64 id] 3)) hgrow (by simp; omega) (fun k hk => .inl (hown.lt k hk).1)
      have hgn : some B2 ≠ v.ownBlock := fun e => by have := (hown.lt B2 e.symm).1; omega
      have p2 : w3.frozen? ⟨B2, 0, none⟩ = false := (World.frozen?_of_block (hgrow.block B2 (by simp; omega) hgn)).trans (by go_simp)
      have p1 : w3.cell? ⟨B2, 0, none⟩ = some v := (World.cell?_of_block (hgrow.block B2 (by simp; omega) hgn)).trans (by go_simp)
      have l3 : B2 < w3.heap.size := World.block_lt_of_cell? _ _ p1
      have hsz := hK1.size
      have r0 : w3.cell? ⟨w.heap.size, 0, none⟩ = some (.int .i64 id) := (World.cell?_of_block (hgrow.block w.heap.size (by simp; omega) (fun e => by have := (hown.lt _ e.symm).2; omega))).trans (by go_simp)
      obtain ⟨A', c', rfl, hc', hn'⟩ := own_slice hown'
      have HO4 : Hid (w3.ownsRow base 3 1 (.slice A' (zs.length + 1) c') (zs ++ [id]).length ((zs ++ [id]).map (Value.int .i64))) := Lib.hid (by simpa using hown')
      clear hown hown' hgrow hgn hnil
      go_wp2
      go_ret
      refine ⟨rfl, hK1.set _ _ (.inr rfl), .slice A' (zs.length + 1) c', by go_simp, by go_simp, hB2, by simp; omega, ?_⟩
      exact own_set HO4.out _ _ hB2
    · have q2 : 0 < en := by omega
      have q3 : en ≤ n := by omega
      clear hgg
      go_enter Try.func23, Try.ntmps23
      go_wp2_with (at_builtin; refine wpList_append_own _ rfl _ _ 30 rfl base 3 i0 (.int .i64 0) 1 8 Try.underlying30 hi hz0 hz1 hz2 rfl (by decide) _ _ _ rfl ((hown.alloc _).alloc _) ⟨w.heap.size + 1, 0, none⟩ 1 1 [.int .i64 id] rfl rfl ?c1 ?c2 ?c3 ?c4 ?c5 ?_)
      case c2 => rfl
      case c3 => unfold maxLen; omega
      case c4 => omega
      case c5 => omega
      intro v' w3 hown' hgrow hnil
      have hK1 := Kept.grown (Kept.alloc hK0 (by simp; omega) (.cells #[.int .i64 id] 3)) hgrow (by simp; omega) (fun k hk => .inl (hown.lt k hk).1)
      have hgn : some B2 ≠ v.ownBlock := fun e => by have := (hown.lt B2 e.symm).1; omega
      have p2 : w3.frozen? ⟨B2, 0, none⟩ = false := (World.frozen?_of_block (hgrow.block B2 (by simp; omega) hgn)).trans (by go_simp)
      have p1 : w3.cell? ⟨B2, 0, none⟩ = some v := (World.cell?_of_block (hgrow.block B2 (by simp; omega) hgn)).trans (by go_simp)
      have l3 : B2 < w3.heap.size := World.block_lt_of_cell? _ _ p1
      have hsz := hK1.size
      have r0 : w3.cell? ⟨w.heap.size, 0, none⟩ = some (.int .i64 id) := (World.cell?_of_block (hgrow.block w.heap.size (by simp; omega) (fun e => by have := (hown.lt _ e.symm).2; omega))).trans (by go_simp)
      obtain ⟨A', c', rfl, hc', hn'⟩ := own_slice hown'
      have HO4 : Hid (w3.ownsRow base 3 1 (.slice A' (zs.length + 1) c') (zs ++ [id]).length ((zs ++ [id]).map (Value.int .i64))) := Lib.hid (by simpa using hown')
      clear hown hown' hgrow hgn hnil
      go_wp2
      go_ret
      refine ⟨rfl, hK1.set _ _ (.inr rfl), .slice A' (zs.length + 1) c', by go_simp, by go_simp, hB2, by simp; omega, ?_⟩
      exact own_set HO4.out _ _ hB2
end Go.Proofs.Ytdajginkipaghaa
