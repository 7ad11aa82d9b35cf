/- Keys, in plain Lean: keys are ordered as the lists are. -/
import Derived.Test.YtfmfmammcjpboaaKey
import Derived.Test.YtfmfmammcjpboaaOrd
namespace Go.Proofs.Ytfmfmammcjpboaa
open Go.RowKit
set_option linter.unusedVariables false
set_option linter.unusedSimpArgs false
def good (v : V) : Prop := InR v.n ∧ vcheck v = 0
theorem enc_cons {v : V} (h : good v) : ∃ c s, encV v = c :: s := by
  obtain ⟨c, s, e, _⟩ := enc_head h.1 h.2
  exact ⟨c, s, e⟩
theorem encL_cons (a : V) (l : List V) : encL (a :: l) = encV a ++ encL l := rfl
theorem encV_same {a b : V} (h : a.same b = true) : encV a = encV b := by
  unfold V.same sameB at h
  simp only [Bool.and_eq_true, beq_iff_eq] at h
  unfold encV
  rw [h.1, h.2.1, h.2.2]
theorem key_order : ∀ (l m : List V), (∀ v ∈ l, good v) → (∀ v ∈ m, good v) → Op.bytesLess (encL l) (encL m) = decide (lcmp l m < 0) ∧ ((encL l == encL m) = sameL l m)
  | [], [], _, _ => by simp [encL, lcmp, sameL, Op.bytesLess]
  | [], b :: m, _, hm => by
    obtain ⟨c, s, e⟩ := enc_cons (hm b (by simp))
    rw [encL_cons, e]
    simp [encL, lcmp, sameL, Op.bytesLess]
  | a :: l, [], hl, _ => by
    obtain ⟨c, s, e⟩ := enc_cons (hl a (by simp))
    rw [encL_cons, e]
    simp [encL, lcmp, sameL, Op.bytesLess]
  | a :: l, b :: m, hl, hm => by
    have ga := hl a (by simp)
    have gb := hm b (by simp)
    obtain ⟨ih1, ih2⟩ := key_order l m (fun v hv => hl v (by simp [hv])) (fun v hv => hm v (by simp [hv]))
    rw [encL_cons, encL_cons]
    have hz := vorder_zero a b ga.2 gb.2
    have hsw := vorder_swap a b
    rcases vorder_three a b with o | o | o
    · have d := (enc_dif ga.1 gb.1 ga.2 gb.2 o).app (encL l) (encL m)
      have hs : a.same b = false := by
        rw [Bool.eq_false_iff]; intro k; have := hz.2 k; omega
      refine ⟨?_, ?_⟩
      · rw [d.less]; simp [lcmp, o]
      · simp only [sameL, hs, Bool.false_and, beq_eq_false_iff_ne]; exact d.ne
    · have hs := hz.1 o
      refine ⟨?_, ?_⟩
      · rw [encV_same hs, less_pre, ih1]; simp [lcmp, o]
      · rw [encV_same hs]; simp only [sameL, hs, Bool.true_and, ← ih2]
        rw [Bool.eq_iff_iff]; simp
    · have d := (enc_dif gb.1 ga.1 gb.2 ga.2 (by omega)).app (encL m) (encL l)
      have hs : a.same b = false := by
        rw [Bool.eq_false_iff]; intro k; have := hz.2 k; omega
      refine ⟨?_, ?_⟩
      · rw [d.more]; simp [lcmp, o]
      · simp only [sameL, hs, Bool.false_and, beq_eq_false_iff_ne]; exact fun e => d.ne e.symm
theorem less_after (s : List UInt8) : Op.bytesLess s (s ++ [0]) = true := by
  have := less_pre s [] [0]
  rw [List.append_nil] at this
  rw [this]; rfl
theorem after_least : ∀ (s t : List UInt8), Op.bytesLess s t = true → Op.bytesLess t (s ++ [0]) = false
  | [], [], h => by simp [Op.bytesLess] at h
  | [], d :: t, _ => by
    have h1 : ¬ d < 0 := by rw [UInt8.lt_iff_toNat_lt]; simp
    cases t <;> simp [Op.bytesLess, h1]
  | c :: s, [], h => by simp [Op.bytesLess] at h
  | c :: s, d :: t, h => by
    have ih := after_least s t
    simp only [List.cons_append, Op.bytesLess, Bool.or_eq_true, decide_eq_true_eq, Bool.and_eq_true, beq_iff_eq] at h ⊢
    rcases h with h | ⟨rfl, h⟩
    · have h1 : ¬ d < c := by rw [UInt8.lt_iff_toNat_lt] at *; omega
      have h2 : ¬ d = c := by rintro rfl; rw [UInt8.lt_iff_toNat_lt] at h; omega
      simp [h1, h2]
    · have h1 : ¬ c < c := by rw [UInt8.lt_iff_toNat_lt]; omega
      simp [h1, ih h]
theorem prefix_same {a b : V} (ha : good a) (hb : good b) : (decide ((encV a).length ≤ (encV b).length) && (encV b).take (encV a).length == encV a) = a.same b := by
  have hz := vorder_zero a b ha.2 hb.2
  have hsw := vorder_swap a b
  rcases vorder_three a b with o | o | o
  · have d := enc_dif ha.1 hb.1 ha.2 hb.2 o
    have hs : a.same b = false := by
      rw [Bool.eq_false_iff]; intro k; have := hz.2 k; omega
    rw [hs]; simp [d.take.1]
  · have hs := hz.1 o
    rw [encV_same hs, hs]; simp
  · have d := enc_dif hb.1 ha.1 hb.2 ha.2 (by omega)
    have hs : a.same b = false := by
      rw [Bool.eq_false_iff]; intro k; have := hz.2 k; omega
    rw [hs]; simp [d.take.2]
end Go.Proofs.Ytfmfmammcjpboaa
