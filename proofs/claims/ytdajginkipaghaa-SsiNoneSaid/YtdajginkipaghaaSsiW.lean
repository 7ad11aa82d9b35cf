/- Package ssi: Check. -/
import Derived.Test.YtdajginkipaghaaSsi
import Derived.Test.YtdajginkipaghaaSlc
import Derived.Test.YtdajginkipaghaaBMap
import Derived.Shelf.Abstract
import Derived.Lib.Walk
namespace Go.Proofs.Ytdajginkipaghaa
open Go.RowKit
open Go.Shelf
set_option linter.unusedVariables false
set_option linter.unusedSimpArgs false
theorem RowE.five {w wr : World} {A : Option Addr} {l : List Tx} {j : Nat} {x : Tx} {B : Nat} (h : RowE encT 5 w A l) (hx : l[j]? = some x) (hb : Below w.heap.size w wr) :
    ∃ b off, A = some ⟨b, off, none⟩ ∧ b < w.heap.size ∧ wr.cell? ⟨b, off + j * 5, none⟩ = some (.int .i64 x.id) ∧ wr.cell? ⟨b, off + j * 5 + 1, none⟩ = some (.int .i64 x.st) ∧ wr.cell? ⟨b, off + j * 5 + 2, none⟩ = some (.int .i64 x.en) ∧ wr.cell? ⟨b, off + j * 5 + 3, none⟩ = some (.bool x.inn) ∧ wr.cell? ⟨b, off + j * 5 + 4, none⟩ = some (.bool x.out) := by
  obtain ⟨b, off, hA, hlt, hc⟩ := h.atE hx hb
  exact ⟨b, off, hA, hlt, hc 0 _ rfl, hc 1 _ rfl, hc 2 _ rfl, hc 3 _ rfl, hc 4 _ rfl⟩
theorem wf64 {k : Int} (h1 : -9223372036854775808 ≤ k) (h2 : k ≤ 9223372036854775807) : (Lit.int .i64 k).wf = true := by
  have e : (Lit.int .i64 k).wf = (decide ((-9223372036854775808 : Int) ≤ k) && decide (k ≤ 9223372036854775807)) := rfl
  rw [e]; simp; omega
set_option maxHeartbeats 4000000 in
set_option maxRecDepth 100000 in
theorem check_any (A : Option Addr) (c : Nat) (l : List Tx) (clk nxt : Int) (w : World) (HR : RowE encT 5 w A l) (hl : l.length ≤ 140737488355328) :
    Calls Try.prog 14 #[.agg #[.slice A l.length c, .int .i64 clk, .int .i64 nxt]] w fun e w' => e = .returned (.int .i64 (chk l clk nxt)) ∧ Below w.heap.size w w' := by
  by_cases h64 : 64 < l.length ∨ clk < 0 ∨ 1099511627776 < clk ∨ nxt < 1 ∨ 1099511627776 < nxt
  · have e : chk l clk nxt = 9 := by unfold chk; rw [if_pos h64]
    have HR' := Lib.hid HR
    rw [e]
    clear HR e
    go_enter Try.func14, Try.ntmps14
    go_wp2
    all_goals first | (go_ret; exact ⟨rfl, (by (repeat (first | (with_reducible exact Below.refl _ _) | apply below_alloc _ (Nat.le_refl _) | refine below_set ?_ (by first | exact Nat.le_refl _ | omega) | apply below_drewN | refine below_step ?_ HB)))⟩) | (exfalso; omega)
  · have e9 : chkFrom clk nxt 0 [] l = false → chk l clk nxt = 9 := fun h => by unfold chk; rw [if_neg h64, h]; rfl
    have e0 : chkFrom clk nxt 0 [] l = true → chk l clk nxt = 0 := fun h => by unfold chk; rw [if_neg h64, h]; rfl
    have E9 := Lib.hid e9
    have E0 := Lib.hid e0
    have HR' := Lib.hid HR
    clear HR e9 e0
    have a1 : ¬ (64 : Int) < (l.length : Int) := by omega
    have a2 : ¬ clk < 0 := by omega
    have a3 : ¬ 1099511627776 < clk := by omega
    have a4 : ¬ nxt < 1 := by omega
    have a5 : ¬ 1099511627776 < nxt := by omega
    clear h64
    have hmm := @run_makeMap Try.prog
    go_enter Try.func14, Try.ntmps14
    go_wp2
    go_loopw [4, 35] (fun s i wr => ∃ j : Nat, j ≤ l.length ∧ i = .int .i64 j ∧ ∃ (last : Int) (es : List Int), s = .int .i64 last ∧ Hid (chkFrom clk nxt 0 [] l = chkFrom clk nxt last es (l.drop j)) ∧ BMap wr (w.heap.size + 1) j (fun k => decide (k ∈ es)) ∧ Below w.heap.size w wr ∧ wr.cell? ⟨w.heap.size, 0, none⟩ = some (.slice A l.length c) ∧ wr.cell? ⟨w.heap.size, 1, none⟩ = some (.int .i64 clk) ∧ wr.cell? ⟨w.heap.size, 2, none⟩ = some (.int .i64 nxt)) (fun _ i _ => l.length - (Lib.intOf i).toNat)
    case atStart =>
      refine ⟨0, Nat.zero_le _, rfl, 0, [], rfl, Lib.hid (by simp), ?_, (by (repeat (first | (with_reducible exact Below.refl _ _) | apply below_alloc _ (Nat.le_refl _) | refine below_set ?_ (by first | exact Nat.le_refl _ | omega) | apply below_drewN | refine below_step ?_ HB))), by go_simp, by go_simp, by go_simp⟩
      have := BMap.made (w.alloc (.cells #[.slice A l.length c, .int .i64 clk, .int .i64 nxt] 26))
      simpa using this
    case round =>
      obtain ⟨j, hj, rfl, last, es, rfl, HE, HM, hbel, s0, s1, s2⟩ := hrel
      by_cases hlt : j < l.length
      · obtain ⟨x, hx⟩ : ∃ x, l[j]? = some x := ⟨_, List.getElem?_eq_getElem hlt⟩
        obtain ⟨b0, off, rfl, hb0, g0, g1, g2, g3, g4⟩ := HR'.out.five (B := 0) hx hbel
        have DX := drop_cons hx
        have HE2 : Hid (chkFrom clk nxt 0 [] l = (okT clk nxt last es x && chkFrom clk nxt x.id (x.en :: es) (l.drop (j + 1)))) := Lib.hid (by rw [HE.out, DX, chkFrom_cons])
        clear HE DX hx
        obtain ⟨id, st, en, inn, out⟩ := x
        dsimp only at g0 g1 g2 g3 g4
        have hn : j < maxLen := by unfold maxLen; omega
        have hS := World.block_lt_of_cell? _ _ s0
        have HM1 := BMap.alloc HM (.cells #[.int .i64 id, .int .i64 st, .int .i64 en, .bool inn, .bool out] 40)
        have hB5 := hbel.alloc hbel.size (.cells #[.int .i64 id, .int .i64 st, .int .i64 en, .bool inn, .bool out] 40)
        have hne : w.heap.size ≠ wr.heap.size := by intro e; have := hS; simp at this; omega
        by_cases k1 : id ≤ last ∨ nxt ≤ id ∨ st < 0 ∨ clk < st ∨ en < -1 ∨ clk < en
        · have EE : Hid (chkFrom clk nxt 0 [] l = false) := Lib.hid (by
            rw [HE2.out]
            have : okT clk nxt last es ⟨id, st, en, inn, out⟩ = false := by
              unfold okT
              rcases k1 with k | k | k | k | k | k
              · rw [decide_eq_false (p := last < id) (by omega)]; simp
              · rw [decide_eq_false (p := id < nxt) (by omega)]; simp
              · rw [decide_eq_false (p := 0 ≤ st) (by omega)]; simp
              · rw [decide_eq_false (p := st ≤ clk) (by omega)]; simp
              · rw [decide_eq_false (p := -1 ≤ en) (by omega)]; simp
              · rw [decide_eq_false (p := en ≤ clk) (by omega)]; simp
            rw [this]; rfl)
          clear HM HM1 HE2 hn
          go_wp2
          all_goals first | (exfalso; omega) | skip
          all_goals go_ret
          all_goals exact ⟨ret_int (by rw [E9.out EE.out]), hB5⟩
        · have k2 : ¬ id ≤ last := by omega
          have k3 : ¬ nxt ≤ id := by omega
          have k4 : ¬ st < 0 := by omega
          have k5 : ¬ clk < st := by omega
          have k6 : ¬ en < -1 := by omega
          have k7 : ¬ clk < en := by omega
          have hwf := wf64 (k := en) (by omega) (by omega)
          have HT : Hid (okT clk nxt last es ⟨id, st, en, inn, out⟩ = !(decide (0 < en) && (decide (en ≤ st) || decide (en ∈ es)))) := Lib.hid (by
            unfold okT
            rw [decide_eq_true (p := last < id) (by omega), decide_eq_true (p := id < nxt) (by omega), decide_eq_true (p := 0 ≤ st) (by omega), decide_eq_true (p := st ≤ clk) (by omega), decide_eq_true (p := -1 ≤ en) (by omega), decide_eq_true (p := en ≤ clk) (by omega)]; rfl)
          clear k1
          have hlk := BMap.lookup HM1 en hwf
          obtain ⟨w5, hup, HM5, hg5⟩ := BMap.update (BMap.drew HM1) hn en hwf true
          have hBw : w.heap.size + 1 ≠ wr.heap.size := by intro e; have := HM.lt; omega
          have UP : Hid (BMap w5 (w.heap.size + 1) (j + 1) (fun k => decide (k ∈ en :: es)) ∧ Below w.heap.size w w5) := Lib.hid (by
            refine ⟨?_, ?_⟩
            · have e : (fun k => decide (k ∈ en :: es)) = (fun k => if k = en then true else decide (k ∈ es)) := by funext k; by_cases h : k = en <;> simp [h]
              rw [e]; exact HM5
            · exact (Below.drew hB5).grown hg5 (by have := hbel.size; simp; omega) (by intro k hk; cases hk; omega))
          have kept : ∀ (p : Addr) (v : Value), p.block ≠ w.heap.size + 1 → (wr.alloc (.cells #[.int .i64 id, .int .i64 st, .int .i64 en, .bool inn, .bool out] 40)).cell? p = some v → w5.cell? p = some v := fun p v hp hv => by
            have hlt := World.block_lt_of_cell? _ _ hv
            exact (World.cell?_of_block (w := (wr.alloc (.cells #[.int .i64 id, .int .i64 st, .int .i64 en, .bool inn, .bool out] 40)).drew) (hg5.block p.block hlt (by intro e; exact hp (Option.some.inj e)))).trans hv
          have t0 := kept ⟨w.heap.size, 0, none⟩ _ (by simp) ((((Below.refl wr.heap.size wr).alloc (Nat.le_refl _) _).cell (p := ⟨w.heap.size, 0, none⟩) hS).trans s0)
          have t1 := kept ⟨w.heap.size, 1, none⟩ _ (by simp) ((((Below.refl wr.heap.size wr).alloc (Nat.le_refl _) _).cell (p := ⟨w.heap.size, 1, none⟩) hS).trans s1)
          have t2 := kept ⟨w.heap.size, 2, none⟩ _ (by simp) ((((Below.refl wr.heap.size wr).alloc (Nat.le_refl _) _).cell (p := ⟨w.heap.size, 2, none⟩) hS).trans s2)
          have u0 := kept ⟨wr.heap.size, 0, none⟩ (.int .i64 id) (fun e => hBw e.symm) (by go_simp)
          have u2 := kept ⟨wr.heap.size, 2, none⟩ (.int .i64 en) (fun e => hBw e.symm) (by go_simp)
          clear kept HM HM1 HM5 hg5 hwf hmm hn
          generalize hd : decide (en ∈ es) = bd at *
          have HD := Lib.hid hd
          clear hd
          by_cases q0 : 0 < en
          · by_cases q1 : en ≤ st
            · clear hlk hup
              go_wp2
              go_ret
              exact ⟨ret_int (by rw [E9.out (by rw [HE2.out, HT.out]; simp [q0, q1])]), hB5⟩
            · cases bd with
              | true =>
                clear hup
                go_wp2
                go_ret
                exact ⟨ret_int (by rw [E9.out (by rw [HE2.out, HT.out]; simp [q0, q1])]), hB5⟩
              | false =>
                go_wp2_with fail
                go_region_with (fail)
                all_goals go_wp2
                all_goals go_roundw
                all_goals first | (simp [Lib.intOf]; omega) | exact ⟨j + 1, by omega, by go_num, id, en :: es, rfl, Lib.hid (by rw [HE2.out, HT.out]; simp [q1]), UP.out.1, UP.out.2, t0, t1, t2⟩
          · clear hlk
            go_wp2_with fail
            go_region_with (fail)
            all_goals go_wp2
            all_goals go_roundw
            all_goals first | (simp [Lib.intOf]; omega) | exact ⟨j + 1, by omega, by go_num, id, en :: es, rfl, Lib.hid (by rw [HE2.out, HT.out]; simp [q0]), UP.out.1, UP.out.2, t0, t1, t2⟩
      · obtain rfl : j = l.length := by omega
        go_wp2
        go_ret
        exact ⟨ret_int (by rw [E0.out (by rw [HE.out, List.drop_length]; rfl)]), hbel⟩
end Go.Proofs.Ytdajginkipaghaa
