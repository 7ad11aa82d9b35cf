/- keycode.Encode: a list's key. -/
import Derived.Test.YtfmfmammcjpboaaPutW
import Derived.Test.YtfmfmammcjpboaaChkOrd
import Derived.Test.YtfmfmammcjpboaaLines
import Derived.Test.YtfmfmammcjpboaaKeyOrd
namespace Go.Proofs.Ytfmfmammcjpboaa
open Go.RowKit
set_option linter.unusedVariables false
set_option linter.unusedSimpArgs false
def encVal (v : V) : List Value := [.int .i64 v.k, .int .i64 v.n, .string v.s]
theorem BldV.below {b : Nat} {v : Value} {bs : List Value} {w w' : World} (h : BldV b v bs w) (hb : Below w.heap.size w w') : BldV b v bs w' := by
  have hl := h.lt
  obtain ⟨p, hp, hbk, ho, hn⟩ := h
  exact ⟨p, hp, (hb.block b hl).trans hbk, ho.kept (row := none) ⟨hb.os, hb.tape, hb.output, hb.size, fun k hk _ => hb.block k hk⟩ (by cases v.ownBlock <;> simp), hn⟩
theorem encV_len {x : V} (hn : InR x.n) (h : vcheck x = 0) : (encV x).length ≤ 200 := by
  have hnl := (num_len x.n hn).2
  unfold encV
  (repeat' split) <;> first | omega | (simp; done) | skip
  · rename_i k0 k1 k2 k3
    have h64 : (x.s.size : Int) ≤ 64 := by simp [vcheck, k3] at h; exact h.2
    have := esc_len x.s.toList x.s.toList.length
    rw [List.take_length] at this
    have e : x.s.toList.length = x.s.size := by rw [ByteArray.toList_eq, Array.length_toList]; rfl
    simp only [List.length_cons, List.length_append, List.length_nil]; omega
theorem encL_len : ∀ (l : List V), (∀ x ∈ l, InR x.n) → (∀ x ∈ l, vcheck x = 0) → (encL l).length ≤ 200 * l.length
  | [], _, _ => by simp [encL]
  | a :: l, h, g => by
    have ih := encL_len l (fun x hx => h x (by simp [hx])) (fun x hx => g x (by simp [hx]))
    have := encV_len (h a (by simp)) (g a (by simp))
    rw [encL_cons, List.length_append, List.length_cons]; omega
theorem encL_snoc (l : List V) (j : Nat) (x : V) (h : l[j]? = some x) : encL (l.take (j + 1)) = encL (l.take j) ++ encV x := by
  rw [List.take_add_one, h]; simp [encL]
theorem encode_bad {l : List V} {j : Nat} {x : V} (hle : l.length ≤ 64) (h : l[j]? = some x) (hx : vcheck x ≠ 0) : encode l = ([], 9) := by
  unfold encode
  have hm : x ∈ l := List.mem_of_getElem? h
  have : ¬ l.all okV = true := by
    intro k
    have := List.all_eq_true.1 k x hm
    simp [okV] at this; exact hx this
  rw [if_neg (by omega), if_neg this]
theorem vcheck_or (x : V) : vcheck x = 0 ∨ vcheck x = 9 := by unfold vcheck; (repeat' split) <;> simp
set_option maxHeartbeats 4000000 in
set_option maxRecDepth 100000 in
theorem encode_any (A : Option Addr) (c : Nat) (l : List V) (w : World) (HR : RowE encVal 3 w A l) (hok : ∀ v ∈ l, InR v.n) :
    Calls Try.prog 21 #[.slice A l.length c] w fun e w' => e = .returned (.tuple #[.string ⟨(encode l).1.toArray⟩, .int .i64 (encode l).2]) ∧ Below w.heap.size w w' := by
  by_cases h64 : 64 < l.length
  · have hh : (64 : Int) < (l.length : Int) := by omega
    have e : encode l = ([], 3) := by unfold encode; rw [if_pos h64]
    rw [e]
    go_enter Try.func21, Try.ntmps21
    go_wp2
    go_ret2
    exact ⟨rfl, (by (repeat (first | (with_reducible exact Below.refl _ _) | apply below_alloc _ (Nat.le_refl _) | refine below_set ?_ (by first | exact Nat.le_refl _ | omega) | apply below_drewN | refine below_step ?_ HB)))⟩
  · have hh : ¬ (64 : Int) < (l.length : Int) := by omega
    have HR' := Lib.hid HR
    have hok' := Lib.hid hok
    clear HR hok
    go_enter Try.func21, Try.ntmps21
    go_wp2
    go_loopw [13] (fun i wr => ∃ j : Nat, j ≤ l.length ∧ i = .int .i64 j ∧ ∃ vr, BldV w.heap.size vr (Lib.byteCells (encL (l.take j))) wr ∧ Below w.heap.size w wr ∧ Hid (∀ x ∈ l.take j, vcheck x = 0)) (fun i _ => l.length - (Lib.intOf i).toNat)
    case atStart => exact ⟨0, Nat.zero_le _, rfl, .slice none 0 0, by simpa [encL, Lib.byteCells] using BldV.fresh w, (Below.refl _ _).alloc (Nat.le_refl _) _, Lib.hid (by simp)⟩
    case round =>
      obtain ⟨j, hj, rfl, vr, hb, hbel, HG⟩ := hrel
      by_cases hlt : j < l.length
      · obtain ⟨x, hx⟩ : ∃ x, l[j]? = some x := ⟨_, List.getElem?_eq_getElem hlt⟩
        obtain ⟨b0, off, rfl, hb0, hcells⟩ := HR'.out j x hx
        have hxn : InR x.n := hok'.out x (List.mem_of_getElem? hx)
        have g0 : wr.cell? ⟨b0, off + j * 3, none⟩ = some (.int .i64 x.k) := (hbel.cell (p := ⟨b0, _, none⟩) hb0).trans (hcells j x hx 0 _ rfl)
        have g1 : wr.cell? ⟨b0, off + j * 3 + 1, none⟩ = some (.int .i64 x.n) := (hbel.cell (p := ⟨b0, _, none⟩) hb0).trans (hcells j x hx 1 _ rfl)
        have g2 : wr.cell? ⟨b0, off + j * 3 + 2, none⟩ = some (.string x.s) := (hbel.cell (p := ⟨b0, _, none⟩) hb0).trans (hcells j x hx 2 _ rfl)
        have HX := Lib.hid hx
        clear hcells hx
        obtain ⟨k, n, s⟩ := x
        dsimp only at g0 g1 g2 hxn
        have hbl := hb.lt
        go_wp2_with fail
        by_cases hv : vcheck ⟨k, n, s⟩ = 0
        · have hc := check_any k n s (wr.alloc (.cells #[.int .i64 k, .int .i64 n, .string s] 28))
          rw [hv] at hc
          refine hc.mono ?_
          rintro e w5 ⟨rfl, h5⟩
          have p0 : w5.cell? ⟨wr.heap.size, 0, none⟩ = some (.int .i64 k) := (h5.cell (by simp)).trans (by go_simp)
          have p1 : w5.cell? ⟨wr.heap.size, 1, none⟩ = some (.int .i64 n) := (h5.cell (by simp)).trans (by go_simp)
          have p2 : w5.cell? ⟨wr.heap.size, 2, none⟩ = some (.string s) := (h5.cell (by simp)).trans (by go_simp)
          have hb5 := (hb.alloc (.cells #[.int .i64 k, .int .i64 n, .string s] 28)).below h5
          have hle : (encL (l.take j)).length + 200 ≤ 140737488355328 := by
            have := encL_len (l.take j) (fun x hx => hok'.out x (List.mem_of_mem_take hx)) HG.out
            rw [List.length_take] at this
            omega
          have hB5 : Below w.heap.size w w5 := (hbel.alloc (by omega) _).trans (h5.mono (by simp; omega))
          clear hc h5 g0 g1 g2
          go_wp2_with (go_at_call 47; refine (put_any _ _ _ _ _ _ _ hb5 hv hxn hle).mono ?_; rintro e w6 ⟨rfl, v6, h6, f6⟩)
          go_roundw
          case rel =>
            refine ⟨j + 1, by omega, by go_num, v6, ?_, hB5.trans f6.bel, Lib.hid ?_⟩
            · rw [encL_snoc l j _ HX.out]; exact h6
            · intro x hx
              rw [List.take_add_one, HX.out] at hx
              rcases List.mem_append.1 hx with hx | hx
              · exact HG.out x hx
              · obtain rfl : x = ⟨k, n, s⟩ := by simpa using hx
                exact hv
          case measure => simp [Lib.intOf]; omega
        · have hc := check_any k n s (wr.alloc (.cells #[.int .i64 k, .int .i64 n, .string s] 28))
          rcases vcheck_or ⟨k, n, s⟩ with q | q
          · exact absurd q hv
          rw [q] at hc
          refine hc.mono ?_
          rintro e w5 ⟨rfl, h5⟩
          go_wp2
          go_ret2
          rw [encode_bad (by omega) HX.out hv]
          exact ⟨rfl, (hbel.alloc (by omega) _).trans (h5.mono (by simp; omega))⟩
      · obtain rfl : j = l.length := by omega
        have he : encode l = (encL l, 0) := by
          unfold encode
          rw [if_neg h64, if_pos]
          rw [List.all_eq_true]
          intro x hx
          have := HG.out x (by rw [List.take_length]; exact hx)
          simp [okV, this]
        rw [List.take_length] at hb
        go_wp2_with (go_at_call 48; refine (string_any _ _ _ _ hb).mono ?_; rintro e w6 ⟨rfl, h6⟩)
        go_ret2
        rw [he]
        exact ⟨rfl, hbel.trans h6⟩
end Go.Proofs.Ytfmfmammcjpboaa
