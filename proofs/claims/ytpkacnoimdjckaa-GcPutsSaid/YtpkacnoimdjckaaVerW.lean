/- Package version: may, Check, See. -/
import Derived.Test.YtpkacnoimdjckaaVer
import Derived.Test.YtpkacnoimdjckaaSlB
import Derived.Test.YtpkacnoimdjckaaProg
import Derived.Shelf.Abstract
import Derived.Lib.Walk
namespace Go.Proofs.Ytpkacnoimdjckaa
open Go.RowKit
open Go.Shelf
set_option linter.unusedVariables false
set_option linter.unusedSimpArgs false
theorem encVer_len (x : Ver) : (encVer x).length = 4 := rfl
/-- The four cells of the element at hand, in a later world. -/
theorem RowE.four {w wr : World} {A : Option Addr} {l : List Ver} {j : Nat} {x : Ver} {B : Nat} (h : RowE encVer 4 w A l) (hx : l[j]? = some x) (hb : Below w.heap.size w wr) :
    ∃ b off, A = some ⟨b, off, none⟩ ∧ b < w.heap.size ∧ wr.cell? ⟨b, off + j * 4, none⟩ = some (.int .i64 x.st) ∧ wr.cell? ⟨b, off + j * 4 + 1, none⟩ = some (.int .i64 x.tx) ∧ wr.cell? ⟨b, off + j * 4 + 2, none⟩ = some (.bool x.gone) ∧ wr.cell? ⟨b, off + j * 4 + 3, none⟩ = some (.string x.val) := by
  obtain ⟨b, off, hA, hlt, hc⟩ := h j x hx
  exact ⟨b, off, hA, hlt, (hb.cell (p := ⟨b, _, none⟩) hlt).trans (hc j x hx 0 _ rfl), (hb.cell (p := ⟨b, _, none⟩) hlt).trans (hc j x hx 1 _ rfl), (hb.cell (p := ⟨b, _, none⟩) hlt).trans (hc j x hx 2 _ rfl), (hb.cell (p := ⟨b, _, none⟩) hlt).trans (hc j x hx 3 _ rfl)⟩
set_option maxHeartbeats 2000000 in
set_option maxRecDepth 100000 in
theorem may_any (st tx : Int) (g : Bool) (val : ByteArray) (w : World) :
    Calls Try.prog 63 #[.agg #[.int .i64 st, .int .i64 tx, .bool g, .string val]] w fun e w' => e = .returned (.bool (vmay ⟨st, tx, g, val⟩)) ∧ Below w.heap.size w w' := by
  go_enter Try.func63, Try.ntmps63
  go_wp2
  all_goals
    go_ret
    exact ⟨ret_bool (by first | (simp_all [vmay]; done) | (simp_all [vmay]; omega) | (simp_all [vmay]; grind)), (by (repeat (first | (with_reducible exact Below.refl _ _) | apply below_alloc _ (Nat.le_refl _) | refine below_set ?_ (by first | exact Nat.le_refl _ | omega) | apply below_drewN | refine below_step ?_ HB)))⟩
theorem vmay_st {v : Ver} (h : vmay v = true) : 0 ≤ v.st := by
  unfold vmay at h; simp at h; omega
set_option maxHeartbeats 4000000 in
set_option maxRecDepth 100000 in
theorem check_any (A : Option Addr) (c : Nat) (l : List Ver) (w : World) (HR : RowE encVer 4 w A l) :
    Calls Try.prog 41 #[.slice A l.length c] w fun e w' => e = .returned (.int .i64 (chk l)) ∧ Below w.heap.size w w' := by
  by_cases h64 : 64 < l.length
  · have hh : (64 : Int) < (l.length : Int) := by omega
    have e : chk l = 9 := by unfold chk; rw [if_pos h64]
    rw [e]
    go_enter Try.func41, Try.ntmps41
    go_wp2
    go_ret
    exact ⟨rfl, Below.refl _ _⟩
  · have hh : ¬ (64 : Int) < (l.length : Int) := by omega
    have HR' := Lib.hid HR
    have e9 : chkFrom true 1099511627777 l = false → chk l = 9 := fun h => by unfold chk; rw [if_neg h64, h]; rfl
    have e0 : chkFrom true 1099511627777 l = true → chk l = 0 := fun h => by unfold chk; rw [if_neg h64, h]; rfl
    have E9 := Lib.hid e9
    have E0 := Lib.hid e0
    clear HR e9 e0
    go_enter Try.func41, Try.ntmps41
    go_wp2
    go_loopw [3, 11] (fun s i wr => ∃ j : Nat, j ≤ l.length ∧ i = .int .i64 j ∧ ∃ ab : Int, s = .int .i64 ab ∧ Hid (chkFrom true 1099511627777 l = chkFrom (j == 0) ab (l.drop j)) ∧ Below w.heap.size w wr) (fun _ i _ => l.length - (Lib.intOf i).toNat)
    case atStart => exact ⟨0, Nat.zero_le _, rfl, _, rfl, Lib.hid (by simp), Below.refl _ _⟩
    case round =>
      obtain ⟨j, hj, rfl, ab, rfl, HE, hbel⟩ := hrel
      by_cases hlt : j < l.length
      · obtain ⟨x, hx⟩ : ∃ x, l[j]? = some x := ⟨_, List.getElem?_eq_getElem hlt⟩
        obtain ⟨b0, off, rfl, hb0, g0, g1, g2, g3⟩ := HR'.out.four (B := 0) hx hbel
        have DX := drop_cons hx
        have HE2 : Hid (chkFrom true 1099511627777 l = (vmay x && decide (x.st < ab) && ((j == 0) || !(x.st == 0)) && chkFrom false (if 0 < x.st then x.st else ab) (l.drop (j + 1)))) := Lib.hid (by rw [HE.out, DX]; rfl)
        clear HE DX hx
        obtain ⟨st, tx, g, val⟩ := x
        dsimp only at g0 g1 g2 g3
        have hlw := World.block_lt_of_cell? _ _ g0
        have hmn := fun h => vmay_st (v := ⟨st, tx, g, val⟩) h
        dsimp only at hmn
        go_wp2_with fail
        have hc := may_any st tx g val (wr.alloc (.cells #[.int .i64 st, .int .i64 tx, .bool g, .string val] 45))
        have HE3 : Hid (chkFrom true 1099511627777 l = (vmay ⟨st, tx, g, val⟩ && decide (st < ab) && ((j == 0) || !(st == 0)) && chkFrom false (if 0 < st then st else ab) (l.drop (j + 1)))) := HE2
        clear HE2
        generalize vmay ⟨st, tx, g, val⟩ = mb at *
        refine hc.mono ?_
        rintro e w5 ⟨rfl, h5⟩
        have p0 : w5.cell? ⟨wr.heap.size, 0, none⟩ = some (.int .i64 st) := (h5.cell (by simp)).trans (by go_simp)
        have hB5 : Below w.heap.size w w5 := (hbel.alloc hbel.size _).trans (h5.mono (by have := hbel.size; simp; omega))
        clear hc h5 g0 g1 g2 g3
        have hjb : (j == 0) = decide (¬ (0 : Int) < j) := by
          by_cases h : j = 0
          · subst h; rfl
          · have : ¬ ¬ (0 : Int) < j := by omega
            rw [decide_eq_false this]; simpa using h
        rw [hjb] at HE3
        clear hjb
        cases mb with
        | false =>
          go_wp2
          go_ret
          exact ⟨ret_int (by rw [E9.out (by rw [HE3.out]; simp)]), hB5⟩
        | true =>
          have hst0 := hmn rfl
          clear hmn
          by_cases h1 : st < ab
          · by_cases h2 : st = 0
            · subst h2
              by_cases h3 : (0 : Int) < j
              · have h3n : ¬ j = 0 := by omega
                go_wp2
                go_ret
                exact ⟨ret_int (by rw [E9.out (by rw [HE3.out]; simp [h1, h3n])]), hB5⟩
              · have h3n : j = 0 := by omega
                go_wp2
                go_roundw
                case rel => exact ⟨j + 1, by omega, by go_num, ab, rfl, Lib.hid (by rw [HE3.out]; simp [h1, h3n]), hB5⟩
                case measure => simp [Lib.intOf]; omega
            · have h4 : 0 < st := by omega
              have h2b : (st == 0) = false := by simpa using h2
              by_cases h3 : (0 : Int) < j
              · go_wp2
                go_roundw
                case rel => exact ⟨j + 1, by omega, by go_num, st, rfl, Lib.hid (by rw [HE3.out]; simp [h1, h2, h4]), hB5⟩
                case measure => simp [Lib.intOf]; omega
              · go_wp2
                go_roundw
                case rel => exact ⟨j + 1, by omega, by go_num, st, rfl, Lib.hid (by rw [HE3.out]; simp [h1, h2, h4]), hB5⟩
                case measure => simp [Lib.intOf]; omega
          · go_wp2
            go_ret
            have hn : ¬ st < ab := by omega
            exact ⟨ret_int (by rw [E9.out (by rw [HE3.out]; simp [hn])]), hB5⟩
      · obtain rfl : j = l.length := by omega
        go_wp2
        go_ret
        exact ⟨ret_int (by rw [E0.out (by rw [HE.out, List.drop_length]; rfl)]), hbel⟩
end Go.Proofs.Ytpkacnoimdjckaa
