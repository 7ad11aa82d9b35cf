/- The laws of layer 2: KeycodePrefix. -/
import Derived.Test.YtinkmcbcfdlnjaaLawB
import Derived.Test.YtinkmcbcfdlnjaaLater
namespace Go.Proofs.Ytinkmcbcfdlnjaa
open Go.RowKit
set_option linter.unusedVariables false
set_option linter.unusedSimpArgs false
attribute [local go_sem high] eqVal
theorem below_of_eq {w w' : World} (h : w = w') : Below w.heap.size w w' := h ▸ Below.refl _ _
theorem take_text (t : ByteArray) (n : Nat) : (t.extract 0 n).toList = t.toList.take n := by
  rw [ByteArray.toList_eq, ByteArray.toList_eq]
  simp
theorem encode_ok {l : List V} (h : (encode l).2 = 0) : l.length ≤ 64 ∧ (∀ v ∈ l, vcheck v = 0) ∧ encode l = (encL l, 0) := by
  unfold encode at *
  split at h
  · cases h
  · rename_i q
    rw [if_neg q]
    split at h
    · rename_i g
      rw [if_pos g]
      refine ⟨by omega, fun v hv => ?_, rfl⟩
      have := List.all_eq_true.1 g v hv
      simpa [okV] using this
    · cases h
theorem encode_not {l : List V} (h : ¬ (encode l).2 = 0) : (encode l).1 = [] := by
  unfold encode at *
  split
  · rfl
  · rename_i q
    rw [if_neg q] at h
    split
    · rename_i g; rw [if_pos g] at h; exact absurd rfl h
    · rfl
set_option maxHeartbeats 2000000 in
set_option maxRecDepth 100000 in
theorem keyPrefix_any (k n : Int) (s : ByteArray) (k' n' : Int) (s' : ByteArray) (w : World) (hn : InR n) (hn' : InR n') :
    Calls Try.prog 5 #[.agg #[.int .i64 k, .int .i64 n, .string s], .agg #[.int .i64 k', .int .i64 n', .string s']] w fun e w' => e = .returned (.bool true) ∧ Below w.heap.size w w' := by
  have HF := Below.refl w.heap.size w
  go_enter Try.func5, Try.ntmps5
  go_wp2_with fail
  refine (alive_any _).mono ?_; rintro e w1 ⟨rfl, h⟩
  have qa0 : w1.cell? ⟨w.heap.size, 0, none⟩ = some (.int .i64 k) := (h.cell (by simp <;> omega)).trans (by go_simp)
  have qa1 : w1.cell? ⟨w.heap.size, 1, none⟩ = some (.int .i64 n) := (h.cell (by simp <;> omega)).trans (by go_simp)
  have qa2 : w1.cell? ⟨w.heap.size, 2, none⟩ = some (.string s) := (h.cell (by simp <;> omega)).trans (by go_simp)
  have la : w.heap.size < w1.heap.size := Nat.lt_of_lt_of_le (by simp <;> omega) h.size
  have qb0 : w1.cell? ⟨w.heap.size + 1, 0, none⟩ = some (.int .i64 k') := (h.cell (by simp <;> omega)).trans (by go_simp)
  have qb1 : w1.cell? ⟨w.heap.size + 1, 1, none⟩ = some (.int .i64 n') := (h.cell (by simp <;> omega)).trans (by go_simp)
  have qb2 : w1.cell? ⟨w.heap.size + 1, 2, none⟩ = some (.string s') := (h.cell (by simp <;> omega)).trans (by go_simp)
  have lb : w.heap.size + 1 < w1.heap.size := Nat.lt_of_lt_of_le (by simp <;> omega) h.size
  have hh : Below w.heap.size w w1 := below_step (by repeat (first | (with_reducible exact Below.refl _ _) | apply below_alloc _ (Nat.le_refl _))) h
  replace HF := below_step HF hh
  clear h hh
  go_wp2_with fail
  have c := encode_any (some ⟨w1.heap.size, 0, none⟩) 1 [⟨k, n, s⟩] _ (RowE.lit (T := 31) (fr := (0, 0)) (cs := #[.int .i64 k, .int .i64 n, .string s]) encVal_len (heap_alloc_new w1 _) rfl) (by
    intro v hv
    simp at hv
    subst hv; exact hn)
  refine c.mono ?_; rintro e w2 ⟨rfl, h⟩
  have hh : Below w1.heap.size w1 w2 := below_step (by repeat (first | (with_reducible exact Below.refl _ _) | apply below_alloc _ (Nat.le_refl _))) h
  replace qa0 := (hh.cell (World.block_lt_of_cell? _ _ qa0)).trans qa0
  replace qa1 := (hh.cell (World.block_lt_of_cell? _ _ qa1)).trans qa1
  replace qa2 := (hh.cell (World.block_lt_of_cell? _ _ qa2)).trans qa2
  replace la := Nat.lt_of_lt_of_le la hh.size
  replace qb0 := (hh.cell (World.block_lt_of_cell? _ _ qb0)).trans qb0
  replace qb1 := (hh.cell (World.block_lt_of_cell? _ _ qb1)).trans qb1
  replace qb2 := (hh.cell (World.block_lt_of_cell? _ _ qb2)).trans qb2
  replace lb := Nat.lt_of_lt_of_le lb hh.size
  replace HF := below_step HF hh
  clear h hh c
  go_wp2_with fail
  have c := encode_any (some ⟨w2.heap.size, 0, none⟩) 1 [⟨k', n', s'⟩] _ (RowE.lit (T := 31) (fr := (0, 0)) (cs := #[.int .i64 k', .int .i64 n', .string s']) encVal_len (heap_alloc_new w2 _) rfl) (by
    intro v hv
    simp at hv
    subst hv; exact hn')
  refine c.mono ?_; rintro e w3 ⟨rfl, h⟩
  have hh : Below w2.heap.size w2 w3 := below_step (by repeat (first | (with_reducible exact Below.refl _ _) | apply below_alloc _ (Nat.le_refl _))) h
  replace qa0 := (hh.cell (World.block_lt_of_cell? _ _ qa0)).trans qa0
  replace qa1 := (hh.cell (World.block_lt_of_cell? _ _ qa1)).trans qa1
  replace qa2 := (hh.cell (World.block_lt_of_cell? _ _ qa2)).trans qa2
  replace la := Nat.lt_of_lt_of_le la hh.size
  replace qb0 := (hh.cell (World.block_lt_of_cell? _ _ qb0)).trans qb0
  replace qb1 := (hh.cell (World.block_lt_of_cell? _ _ qb1)).trans qb1
  replace qb2 := (hh.cell (World.block_lt_of_cell? _ _ qb2)).trans qb2
  replace lb := Nat.lt_of_lt_of_le lb hh.size
  replace HF := below_step HF hh
  clear h hh c
  obtain ⟨ta, hta, htl, hts⟩ := text_of (encode [⟨k, n, s⟩]).1
  obtain ⟨tb, htb, htl2, hts2⟩ := text_of (encode [⟨k', n', s'⟩]).1
  rw [hta, htb]
  have HE1 : Hid (∀ h : (encode [⟨k, n, s⟩]).2 = 0, vcheck ⟨k, n, s⟩ = 0 ∧ ta.toList = encV ⟨k, n, s⟩) := Lib.hid (fun h => by
    obtain ⟨_, hv, he⟩ := encode_ok h
    exact ⟨hv _ (by simp), by rw [htl, he]; simp [encL]⟩)
  have HE2 : Hid (∀ h : (encode [⟨k', n', s'⟩]).2 = 0, vcheck ⟨k', n', s'⟩ = 0 ∧ tb.toList = encV ⟨k', n', s'⟩) := Lib.hid (fun h => by
    obtain ⟨_, hv, he⟩ := encode_ok h
    exact ⟨hv _ (by simp), by rw [htl2, he]; simp [encL]⟩)
  have HN1 : Hid (∀ h : ¬ (encode [⟨k, n, s⟩]).2 = 0, ta.toList = []) := Lib.hid (fun h => by rw [htl, encode_not h])
  have HN2 : Hid (∀ h : ¬ (encode [⟨k', n', s'⟩]).2 = 0, tb.toList = []) := Lib.hid (fun h => by rw [htl2, encode_not h])
  clear hta htb htl htl2 hts hts2
  generalize (encode [⟨k, n, s⟩]).2 = ea at *
  generalize (encode [⟨k', n', s'⟩]).2 = eb at *
  by_cases ha : ea = 0
  · by_cases hb : eb = 0
    · subst ha hb
      obtain ⟨va, la⟩ := HE1.out rfl
      obtain ⟨vb, lb⟩ := HE2.out rfl
      have P := prefix_same (a := ⟨k, n, s⟩) (b := ⟨k', n', s'⟩) ⟨hn, va⟩ ⟨hn', vb⟩
      rw [← la, ← lb] at P
      have hA : ta.toList.length = ta.size := by rw [ByteArray.toList_eq, Array.length_toList]; rfl
      have hB : tb.toList.length = tb.size := by rw [ByteArray.toList_eq, Array.length_toList]; rfl
      rw [hA, hB] at P
      have P' := Lib.hid P
      clear P la lb va vb HE1 HE2 HN1 HN2 hA hB
      go_wp2_with (go_at_call 12; refine (num_any _ _).mono ?_; rintro e w' ⟨rfl, rfl⟩)
      by_cases hl : (ta.size : Int) ≤ tb.size
      · have hl' : decide ((ta.size : Int) ≤ tb.size) = true := decide_eq_true hl
        go_quiet (fail)
        go_wp2
        go_ret
        have P := P'.out
        have hl2 : ta.size ≤ tb.size := by omega
        rw [decide_eq_true hl2, Bool.true_and] at P
        exact ⟨ret_bool (by rw [take_text, P]; show (sameB k n s k' n' s' == sameB k n s k' n' s') = true; simp), below_drewN HF _⟩
      · have hl' : decide ((ta.size : Int) ≤ tb.size) = false := decide_eq_false hl
        go_quiet (fail)
        go_wp2
        go_ret
        have P := P'.out
        have hl2 : ¬ ta.size ≤ tb.size := by omega
        rw [decide_eq_false hl2, Bool.false_and] at P
        have P2 : sameB k n s k' n' s' = false := P.symm
        exact ⟨ret_bool (by rw [P2]; rfl), below_drewN HF _⟩
    · have := HN2.out hb
      go_wp2_with (go_at_call 12; refine (num_any _ _).mono ?_; rintro e w' ⟨rfl, rfl⟩)
      all_goals (go_ret; exact ⟨ret_bool (by simp_all), HF⟩)
  · have := HN1.out ha
    go_wp2_with (go_at_call 12; refine (num_any _ _).mono ?_; rintro e w' ⟨rfl, rfl⟩)
    all_goals (go_ret; exact ⟨ret_bool (by simp_all), HF⟩)
end Go.Proofs.Ytinkmcbcfdlnjaa
