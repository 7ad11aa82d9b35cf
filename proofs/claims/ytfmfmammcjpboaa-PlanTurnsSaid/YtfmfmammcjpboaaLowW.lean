/- lex.Lower, lex.Keyword. -/
import Derived.Test.YtfmfmammcjpboaaBase
import Derived.Test.YtfmfmammcjpboaaBox
import Derived.Test.YtfmfmammcjpboaaShl
import Derived.Lib.ConvBytes
import Derived.Laws.IdiomStrings
namespace Go.Proofs.Ytfmfmammcjpboaa
open Go.RowKit
set_option linter.unusedVariables false
set_option linter.unusedSimpArgs false
/-- A row of octets of the call's own. -/
structure BRow (w : World) (g : Nat) (l : List UInt8) : Prop where
  c : ∀ (i : Nat) (x : UInt8), l[i]? = some x → w.cell? ⟨g, i, none⟩ = some (.int .u8 x.toNat)
  f : ∀ i, i < l.length → w.frozen? ⟨g, i, none⟩ = false
  lt : g < w.heap.size
theorem BRow.below {w w' : World} {g : Nat} {l : List UInt8} (h : BRow w g l) (hb : Below w.heap.size w w') : BRow w' g l :=
  ⟨fun i x hx => (hb.cell (p := ⟨g, i, none⟩) h.lt).trans (h.c i x hx), fun i hi => (hb.frozen (p := ⟨g, i, none⟩) h.lt).trans (h.f i hi), Nat.lt_of_lt_of_le h.lt hb.size⟩
theorem BRow.set {w : World} {g : Nat} {l : List UInt8} (h : BRow w g l) (j : Nat) (d : UInt8) (hj : j < l.length) : BRow (w.setCell ⟨g, j, none⟩ (.int .u8 d.toNat)) g (l.set j d) := by
  refine ⟨fun i x hx => ?_, fun i hi => ?_, by simpa using h.lt⟩
  · by_cases e : i = j
    · subst e
      rw [List.getElem?_set_self hj] at hx
      obtain rfl := Option.some.inj hx
      have h1 := h.c i _ (List.getElem?_eq_getElem hj)
      go_simp
    · rw [List.getElem?_set_ne (Ne.symm e)] at hx
      have h1 := h.c i x hx
      have h2 := h.c j _ (List.getElem?_eq_getElem hj)
      have h3 : ¬ j = i := fun h => e h.symm
      first | (go_simp; done) | (simp [h1, h2, e, h3, go_sem]; done) | (simp [h1, h2, e, h3, h.lt, go_sem]; done)
  · rw [List.length_set] at hi
    have h1 := h.f i hi
    simpa using h1
theorem tl_len (s : ByteArray) : s.toList.length = s.size := by rw [ByteArray.toList_eq, Array.length_toList]; rfl
theorem brow_of (w : World) (s : ByteArray) : BRow (Lib.bytesWorld w 5 s) w.heap.size s.toList := by
  refine ⟨fun i x hx => ?_, fun i hi => ?_, by rw [Lib.bytesWorld_size]; omega⟩
  · have hi : i < s.size := by have := (List.getElem?_eq_some_iff.1 hx).1; rw [tl_len] at this; exact this
    rw [Lib.bytesWorld_cell _ _ _ _ hi]
    rw [ByteArray.toList_eq] at hx
    rw [List.getD_eq_getElem?_getD, hx]; rfl
  · have hn := Lib.bytesWorld_at_new w 5 s
    have hi : i < s.size := by rw [← tl_len]; exact hi
    have hsz : s.size ≤ (Lib.bytesCells w 5 s).size := by
      simp [Lib.bytesCells]
    simp only [World.frozen?, hn]
    simp
    omega
theorem bytes_below (w : World) (s : ByteArray) : Below w.heap.size w (Lib.bytesWorld w 5 s) :=
  ⟨rfl, rfl, rfl, by rw [Lib.bytesWorld_size]; omega, fun k hk => Lib.bytesWorld_at_old w 5 s k hk⟩
def lowc (c : UInt8) : UInt8 := if 65 ≤ c.toNat ∧ c.toNat ≤ 90 then c + 32 else c
def low (l : List UInt8) : List UInt8 := l.map lowc
theorem or32 : ∀ x : Fin 256, 65 ≤ x.val → x.val ≤ 90 → bits .or .u8 (x.val : Int) 32 = (x.val : Int) + 32 := by decide +kernel
set_option maxHeartbeats 2000000 in
set_option maxRecDepth 100000 in
theorem lower_any (s : ByteArray) (w : World) (hs : s.size ≤ 1000000) :
    Calls Try.prog 71 #[.string s] w fun e w' => e = .returned (.string ⟨(low s.toList).toArray⟩) ∧ Below w.heap.size w w' := by
  have hcv := fun w => Lib.run_convert_string_bytes (P := Try.prog) w 9 100 5 s Try.underlying9 Try.underlying100 Try.underlying5
  have hB := brow_of w s
  have hF := bytes_below w s
  have hl := tl_len s
  go_enter Try.func71, Try.ntmps71
  go_wp2
  generalize Lib.bytesWorld w 5 s = w1 at *
  generalize grownCap w s.size 0 5 = cap at *
  have HF := Lib.hid hF
  clear hF hcv
  go_loopw [10] (fun i wr => ∃ j : Nat, j ≤ s.size ∧ i = .int .i64 j ∧ BRow wr w.heap.size (low (s.toList.take j) ++ s.toList.drop j) ∧ Hid (Below w.heap.size w wr)) (fun i _ => s.size - (Lib.intOf i).toNat)
  case atStart => exact ⟨0, Nat.zero_le _, rfl, by simpa [low] using hB, HF⟩
  case round =>
    obtain ⟨j, hj, rfl, HB, HFr⟩ := hrel
    have hlt0 := HB.lt
    have hlow : (low (s.toList.take j)).length = j := by simp [low]; omega
    by_cases hlt : j < s.size
    · obtain ⟨c, hc⟩ : ∃ c, s.toList[j]? = some c := ⟨_, List.getElem?_eq_getElem (by omega)⟩
      have hd : s.toList.drop j = c :: s.toList.drop (j + 1) := by
        rw [List.drop_eq_getElem_cons (by omega)]
        congr 1
        exact Option.some.inj ((List.getElem?_eq_getElem (by omega)).symm.trans hc)
      have ht : low (s.toList.take (j + 1)) = low (s.toList.take j) ++ [lowc c] := by
        rw [List.take_add_one, hc]; simp [low]
      rw [hd] at HB
      have HD := Lib.hid hd
      have HT := Lib.hid ht
      have hcell := HB.c j c (by rw [List.getElem?_append_right (by omega), hlow]; simp)
      have hfz := HB.f j (by rw [List.length_append, hlow]; simp)
      have hcn := c.toNat_lt
      have HLW := Lib.hid hlow
      clear hd ht hlow hc
      have hlt' : (j : Int) < (s.size : Int) := by omega
      by_cases hu : 65 ≤ c.toNat ∧ c.toNat ≤ 90
      · have h1 : ((c.toNat : Int) - 65) % 256 < 26 := by omega
        have h2 := or32 ⟨c.toNat, c.toNat_lt⟩ hu.1 hu.2
        simp only at h2
        have HS := HB.set j (lowc c) (by rw [List.length_append, HLW.out]; simp)
        have e1 : ((lowc c).toNat : Int) = (c.toNat : Int) + 32 := by
          unfold lowc; rw [if_pos hu, UInt8.toNat_add]; simp; omega
        rw [e1] at HS
        clear e1 HB hu
        go_wp2
        go_roundw
        case rel =>
          refine ⟨j + 1, by omega, by go_num, ?_, Lib.hid (HFr.out.setCell (p := ⟨w.heap.size, j, none⟩) (Nat.le_refl _) _)⟩
          rw [HT.out]
          have e2 : (low (s.toList.take j) ++ c :: s.toList.drop (j + 1)).set j (lowc c) = low (s.toList.take j) ++ [lowc c] ++ s.toList.drop (j + 1) := by
            rw [List.set_append_right _ _ (by rw [HLW.out]; exact Nat.le_refl _), HLW.out]; simp
          rw [← e2]
          exact HS
        case measure => simp [Lib.intOf]; omega
      · have h1 : ¬ ((c.toNat : Int) - 65) % 256 < 26 := by omega
        have e1 : lowc c = c := by unfold lowc; rw [if_neg hu]
        clear hu
        go_wp2
        go_roundw
        case rel =>
          refine ⟨j + 1, by omega, by go_num, ?_, HFr⟩
          rw [HT.out, e1]
          simpa using HB
        case measure => simp [Lib.intOf]; omega
    · obtain rfl : j = s.size := by omega
      rw [List.take_of_length_le (by omega), List.drop_of_length_le (by omega), List.append_nil] at HB
      have hll : (low s.toList).length = s.size := by simp [low, hl]
      have hcb := fun cap => run_convert_bytes_back (P := Try.prog) wr 100 9 5 ⟨w.heap.size, 0, none⟩ cap (low s.toList) Try.underlying100 Try.underlying5 Try.underlying9 (fun i hi => by rw [Addr.add_lit, Nat.zero_add]; exact HB.c i _ (List.getElem?_eq_getElem hi))
      rw [hll] at hcb
      go_wp2
      go_ret
      exact ⟨rfl, HFr.out⟩
end Go.Proofs.Ytfmfmammcjpboaa
