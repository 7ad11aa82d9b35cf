/- keycode.put, keycode.Encode: values' octets go into a builder; a list's key. -/
import Derived.Test.YtfmfmammcjpboaaNumW
import Derived.Laws.IdiomStrings
namespace Go.Proofs.Ytfmfmammcjpboaa
open Go.RowKit
set_option linter.unusedVariables false
set_option linter.unusedSimpArgs false
theorem Fr.alloc {b : Nat} {v v' : Value} {w w1 : World} (h : Fr b v v' w w1) (hb : b ≤ w.heap.size) (o : Obj) : Fr b v v' w (w1.alloc o) :=
  ⟨h.bel.alloc (Nat.le_trans hb h.bel.size) o, fun k hk hkb hv => ⟨(Lib.alloc_old w1 o k (Nat.lt_of_lt_of_le hk h.bel.size)).trans (h.kept k hk hkb hv).1, (h.kept k hk hkb hv).2⟩⟩
theorem Fr.drew {b : Nat} {v v' : Value} {w w1 : World} (h : Fr b v v' w w1) : Fr b v v' w w1.drew := ⟨h.bel.drew, fun k hk hkb hv => h.kept k hk hkb hv⟩
theorem BldV.drew {b : Nat} {v : Value} {bs : List Value} {w : World} (h : BldV b v bs w) : BldV b v bs w.drew := h
theorem bc_app (l m : List UInt8) : Lib.byteCells (l ++ m) = Lib.byteCells l ++ Lib.byteCells m := by simp [Lib.byteCells]
theorem bc_one (l : List UInt8) (c : UInt8) (x : Int) (h : x = c.toNat) : Lib.byteCells l ++ [.int .u8 x] = Lib.byteCells (l ++ [c]) := by subst h; simp [Lib.byteCells]
theorem row_cell (s : ByteArray) (cap j : Nat) (c : UInt8) (h : s.toList[j]? = some c) : (bytesRow s cap)[j]? = some (.int .u8 c.toNat) := by
  have h1 : s.data[j]? = some c := by rw [ByteArray.toList_eq] at h; rw [← Array.getElem?_toList]; exact h
  obtain ⟨hj, e⟩ := Array.getElem?_eq_some_iff.1 h1
  unfold bytesRow
  rw [Array.getElem?_append_left (by simpa using hj)]
  simp [h1]
theorem esc_len (l : List UInt8) : ∀ j, (esc (l.take j)).length ≤ 2 * j
  | 0 => by simp [esc]
  | j + 1 => by
    have ih := esc_len l j
    rw [List.take_add_one]
    cases h : l[j]? with
    | none => simp; omega
    | some c =>
      have : (esc1 c).length ≤ 2 := by unfold esc1; split <;> simp
      simp only [esc, Option.toList_some, List.flatMap_append, List.length_append] at ih ⊢
      simp at ih ⊢
      omega
set_option maxHeartbeats 2000000 in
set_option maxRecDepth 100000 in
theorem put_any (b : Nat) (v : Value) (bs : List UInt8) (k n : Int) (s : ByteArray) (w : World) (HBl : BldV b v (Lib.byteCells bs) w) (hg : vcheck ⟨k, n, s⟩ = 0) (hn : InR n) (hlen : bs.length + 200 ≤ 140737488355328) :
    Calls Try.prog 47 #[.pointer (some ⟨b, 0, none⟩), .agg #[.int .i64 k, .int .i64 n, .string s]] w fun e w' => e = .returned (.tuple #[]) ∧ ∃ v', BldV b v' (Lib.byteCells (bs ++ encV ⟨k, n, s⟩)) w' ∧ Fr b v v' w w' := by
  have hblt := HBl.lt
  have HB1 := HBl.alloc (.cells #[.int .i64 k, .int .i64 n, .string s] 28)
  have F0 : Fr b v v w (w.alloc (.cells #[.int .i64 k, .int .i64 n, .string s] 28)) := (Fr.refl b v w).alloc (by omega) _
  have hl : (Lib.byteCells bs).length + 1 ≤ 140737488355328 := by rw [Lib.byteCells_length]; omega
  by_cases k0 : k = 0
  · subst k0
    go_enter Try.func47, Try.ntmps47
    go_wp2_with (first | (go_at_call 59; refine (writeByte_any b _ _ _ _ HB1 hl).mono ?_; rintro e w1 ⟨rfl, v1, h1, f1⟩))
    go_end0
    refine ⟨rfl, v1, ?_, F0.trans f1⟩
    rw [bc_one bs 4 4 (by rfl)] at h1
    simpa [encV] using h1
  · by_cases k1 : k = 1
    · subst k1
      go_enter Try.func47, Try.ntmps47
      go_wp2_with (first | (go_at_call 60; refine (number_any b _ _ _ _ HB1 hn (by omega)).mono ?_; rintro e w1 ⟨rfl, v1, h1, f1⟩))
      go_end0
      refine ⟨rfl, v1, ?_, F0.trans f1⟩
      simpa [encV] using h1
    · by_cases k2 : k = 2
      · subst k2
        obtain ⟨_, b0, b1⟩ := vcheck_bool (v := ⟨2, n, s⟩) hn hg rfl
        dsimp only at b0 b1
        clear hg
        go_enter Try.func47, Try.ntmps47
        go_wp2_with (first | (go_at_call 59; refine (writeByte_any b _ _ _ _ HB1 hl).mono ?_; rintro e w1 ⟨rfl, v1, h1, f1⟩))
        go_end0
        refine ⟨rfl, v1, ?_, F0.trans f1⟩
        rw [bc_one bs (UInt8.ofNat (80 + n.toNat)) _ (by rw [UInt8.toNat_ofNat']; omega)] at h1
        simpa [encV] using h1
      · have k3 : k = 3 := by
          apply Decidable.byContradiction; intro k3
          simp [vcheck, k0, k1, k2, k3] at hg
        subst k3
        have hsz : (s.size : Int) ≤ 64 := by
          simp [vcheck] at hg; exact hg.2
        clear hg k0 k1 k2
        have hcv := fun w s => run_bytes_of_string (P := Try.prog) w 9 100 5 s Try.underlying9 Try.underlying100 Try.underlying5
        go_enter Try.func47, Try.ntmps47
        go_wp2_with (first | (go_at_call 59; refine (writeByte_any b _ _ _ _ HB1 hl).mono ?_; rintro e w1 ⟨rfl, v1, h1, f1⟩
                              have hbox : w1.heap[w.heap.size]? = some (.cells #[.int .i64 3, .int .i64 n, .string s] 28 (0, 0)) := ((f1.kept w.heap.size (by simp) (by omega) (fun e => by have := HBl.own_lt _ e; omega)).1).trans (heap_alloc_new w _)
                              have hb2 : w1.cell? ⟨w.heap.size, 2, none⟩ = some (.string s) := by rw [Lib.cell_of_heap hbox]; rfl
                              clear hbox))
        generalize grownCap w1 s.size 0 5 = cap at *
        have hlen1 : s.toList.length = s.size := by rw [ByteArray.toList_eq, Array.length_toList]; rfl
        have hesc : ∀ j, (esc (s.toList.take j)).length ≤ 2 * j := esc_len s.toList
        have e96 : Lib.byteCells bs ++ [.int .u8 96] = Lib.byteCells (bs ++ [96]) := bc_one bs 96 96 (by rfl)
        rw [e96] at h1
        clear e96 HB1
        have q1 : v1.ownBlock ≠ some w1.heap.size := fun e => by have := h1.own_lt _ e; omega
        have hlt1 := h1.lt
        have hO : ((w1.alloc (Obj.cells (bytesRow s cap) 5 ((bytesRow s cap).size, (bytesRow s cap).size + 1))).drew).heap[w1.heap.size]? = some (Obj.cells (bytesRow s cap) 5 ((bytesRow s cap).size, (bytesRow s cap).size + 1)) := heap_alloc_new w1 _
        have F1 := F0.trans f1
        have hbw : b ≤ w.heap.size := by omega
        clear f1 F0 hb2 hcv
        have BR := Lib.hid (fun j c => row_cell s cap j c)
        generalize bytesRow s cap = R at *
        go_loopw [34] (fun i wr => ∃ j : Nat, j ≤ s.size ∧ i = .int .i64 j ∧ ∃ vr, BldV b vr (Lib.byteCells (bs ++ [96] ++ esc (s.toList.take j))) wr ∧ Fr b v vr w wr ∧ vr.ownBlock ≠ some w1.heap.size ∧ wr.heap[w1.heap.size]? = some (Obj.cells R 5 (R.size, R.size + 1))) (fun i _ => s.size - (Lib.intOf i).toNat)
        case atStart => exact ⟨0, Nat.zero_le _, rfl, v1, by simpa [esc] using (h1.alloc _).drew, (F1.alloc hbw _).drew, q1, hO⟩
        case round =>
          obtain ⟨j, hj, rfl, vr, hb, hf, hq, hr⟩ := hrel
          clear hO h1 F1 q1
          by_cases hlt : j < s.size
          · obtain ⟨c, hc⟩ : ∃ c, s.toList[j]? = some c := ⟨_, List.getElem?_eq_getElem (by omega)⟩
            have hcell : wr.cell? ⟨w1.heap.size, j, none⟩ = some (.int .u8 c.toNat) := by rw [Lib.cell_of_heap hr]; exact BR.out j c hc
            have htake : s.toList.take (j + 1) = s.toList.take j ++ [c] := by rw [List.take_add_one, hc]; rfl
            have hesc1 : esc (s.toList.take (j + 1)) = esc (s.toList.take j) ++ esc1 c := by rw [htake]; simp [esc]
            have hn1 : (Lib.byteCells (bs ++ [96] ++ esc (s.toList.take j))).length + 2 ≤ 140737488355328 := by
              have := hesc j
              rw [Lib.byteCells_length]; simp only [List.length_append, List.length_cons, List.length_nil]; omega
            have hn2 : (Lib.byteCells (bs ++ [96] ++ esc (s.toList.take j))).length + 1 ≤ 140737488355328 := by omega
            have hlb := hb.lt
            have hwr : w1.heap.size < wr.heap.size := by
              rcases Nat.lt_or_ge w1.heap.size wr.heap.size with h' | h'
              · exact h'
              · simp [Array.getElem?_eq_none h'] at hr
            have hcl := c.toNat_lt
            by_cases hc2 : (c.toNat : Int) < 2
            · go_wp2_with (first | (go_at_call 59; refine (writeByte_any b _ _ _ _ hb hn2).mono ?_; rintro e w2 ⟨rfl, v2, h2, f2⟩
                                    have hn3 : (Lib.byteCells (bs ++ [96] ++ esc (s.toList.take j)) ++ [Value.int IntKind.u8 1]).length + 1 ≤ 140737488355328 := by simp only [List.length_append, List.length_cons, List.length_nil]; omega
                                    clear hb hn2))
              refine (writeByte_any b _ _ _ _ h2 hn3).mono ?_; rintro e w3 ⟨rfl, v3, h3, f3⟩
              go_wp2
              go_roundw
              case rel =>
                refine ⟨j + 1, by omega, by go_num, v3, ?_, (hf.trans f2).trans f3, ?_, ?_⟩
                · rw [hesc1]
                  have e1 : esc1 c = [1, c + 1] := by unfold esc1; rw [if_pos (by rw [UInt8.lt_iff_toNat_lt]; simp; omega)]
                  rw [e1]
                  rw [bc_one _ 1 1 (by rfl), bc_one _ (c + 1) _ (by rw [UInt8.toNat_add]; simp; omega)] at h3
                  simpa using h3
                · exact (f3.kept _ (Nat.lt_of_lt_of_le hwr f2.bel.size) (by omega) (f2.kept _ hwr (by omega) hq).2).2
                · rw [(f3.kept _ (Nat.lt_of_lt_of_le hwr f2.bel.size) (by omega) (f2.kept _ hwr (by omega) hq).2).1, (f2.kept _ hwr (by omega) hq).1]; exact hr
              case measure => simp [Lib.intOf]; omega
            · go_wp2_with (first | (go_at_call 59; refine (writeByte_any b _ _ _ _ hb hn2).mono ?_; rintro e w2 ⟨rfl, v2, h2, f2⟩))
              go_roundw
              case rel =>
                refine ⟨j + 1, by omega, by go_num, v2, ?_, hf.trans f2, ?_, ?_⟩
                · rw [hesc1]
                  have e1 : esc1 c = [c] := by unfold esc1; rw [if_neg (by rw [UInt8.lt_iff_toNat_lt]; simp; omega)]
                  rw [e1]
                  rw [bc_one _ c _ rfl] at h2
                  simpa using h2
                · exact (f2.kept _ hwr (by omega) hq).2
                · rw [(f2.kept _ hwr (by omega) hq).1]; exact hr
              case measure => simp [Lib.intOf]; omega
          · obtain rfl : j = s.size := by omega
            have hn2 : (Lib.byteCells (bs ++ [96] ++ esc (s.toList.take s.size))).length + 1 ≤ 140737488355328 := by
              have := hesc s.size
              rw [Lib.byteCells_length]; simp only [List.length_append, List.length_cons, List.length_nil]; omega
            go_wp2_with (first | (go_at_call 59; refine (writeByte_any b _ _ _ _ hb hn2).mono ?_; rintro e w2 ⟨rfl, v2, h2, f2⟩))
            go_end0
            refine ⟨rfl, v2, ?_, hf.trans f2⟩
            have e1 : encV ⟨3, n, s⟩ = 96 :: (esc s.toList ++ [0]) := by simp [encV]
            rw [e1]
            rw [bc_one _ 0 0 (by rfl), List.take_of_length_le (by omega)] at h2
            simpa using h2
end Go.Proofs.Ytfmfmammcjpboaa
