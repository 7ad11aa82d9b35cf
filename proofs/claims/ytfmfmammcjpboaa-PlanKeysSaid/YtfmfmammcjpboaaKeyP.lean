/- A plan's keys, in plain Lean: a value's key, whatever stands behind it, lies within them just if the plan lets it in. -/
import Derived.Test.YtfmfmammcjpboaaHasW
import Derived.Test.YtfmfmammcjpboaaKeyOrd
namespace Go.Proofs.Ytfmfmammcjpboaa
open Go.RowKit
set_option linter.unusedVariables false
set_option linter.unusedSimpArgs false
def endS (b : Bd) (o : List UInt8) (past : Bool) : List UInt8 × Int :=
  if b.op = true then (o, 0) else if vcheck b.v = 0 then (encV b.v ++ (if past = true then [255] else []), 0) else ([], 9)
def keysP (p : Pl) : List UInt8 × List UInt8 × Int :=
  if p.emp = true then ([], [0], 0) else if (endS p.lo [5] (!p.lo.inn)).2 ≠ 0 then ([], [], (endS p.lo [5] (!p.lo.inn)).2) else if (endS p.hi [] p.hi.inn).2 ≠ 0 then ([], [], (endS p.hi [] p.hi.inn).2) else ((endS p.lo [5] (!p.lo.inn)).1, (endS p.hi [] p.hi.inn).1, 0)
theorem good_head {v : V} (h : good v) : ∃ c s, encV v = c :: s ∧ c.toNat < 255 := by
  obtain ⟨c, s, e, h⟩ := enc_head h.1 h.2
  refine ⟨c, s, e, ?_⟩
  rcases h with ⟨_, rfl, _⟩ | ⟨_, _, _⟩ | ⟨_, _, _, _⟩ | ⟨_, rfl⟩
  · decide
  · omega
  · omega
  · decide
theorem less_ff {l : List V} (h : ∀ v ∈ l, good v) : Op.bytesLess (encL l) [255] = true := by
  cases l with
  | nil => rfl
  | cons a l =>
    obtain ⟨c, s, e, hc⟩ := good_head (h a (by simp))
    rw [encL_cons, e]
    have : c < 255 := by rw [UInt8.lt_iff_toNat_lt]; exact hc
    simp [Op.bytesLess, this]
theorem less_none (l : List UInt8) : Op.bytesLess l [] = false := by cases l <;> rfl
theorem less_end {v b : V} {more : List V} (hv : good v) (hb : good b) (hm : ∀ x ∈ more, good x) (q : Bool) :
    Op.bytesLess (encL (v :: more)) (encV b ++ (if q = true then [255] else [])) = (decide (vorder v b = -1) || (decide (vorder v b = 0) && q)) := by
  have hz := vorder_zero v b hv.2 hb.2
  have hsw := vorder_swap v b
  rw [encL_cons]
  rcases vorder_three v b with o | o | o
  · rw [((enc_dif hv.1 hb.1 hv.2 hb.2 o).app _ _).less, o]; rfl
  · rw [encV_same (hz.1 o), less_pre, o]
    cases q
    · simp [less_none]
    · simp [less_ff hm]
  · rw [((enc_dif hb.1 hv.1 hb.2 hv.2 (by omega)).app _ _).more, o]; rfl
theorem first_some {v : V} {more : List V} (hv : good v) (hk : v.k ≠ 0) : Op.bytesLess (encL (v :: more)) [5] = false := by
  obtain ⟨c, s, e, h⟩ := enc_head hv.1 hv.2
  have h5 : (5 : UInt8) < c := by
    rw [UInt8.lt_iff_toNat_lt]
    have e5 : (5 : UInt8).toNat = 5 := rfl
    rcases h with ⟨_, _, _⟩ | ⟨_, _, _⟩ | ⟨_, _, _, _⟩ | ⟨_, rfl⟩
    · omega
    · omega
    · omega
    · decide
  rw [encL_cons, e]
  exact (Dif.head h5 [] (s ++ encL more)).more
theorem lo_lets {b : Bd} {v : V} {more : List V} (hv : good v) (hk : v.k ≠ 0) (hm : ∀ x ∈ more, good x) (hn : InR b.v.n) (h : (endS b [5] (!b.inn)).2 = 0) :
    letsB b v 1 = !(Op.bytesLess (encL (v :: more)) (endS b [5] (!b.inn)).1) := by
  by_cases ho : b.op = true
  · unfold letsB endS
    rw [if_pos ho, ho, first_some hv hk]
    rfl
  · by_cases hc : vcheck b.v = 0
    · unfold letsB endS
      rw [if_neg ho, if_pos hc]
      dsimp only
      rw [less_end hv ⟨hn, hc⟩ hm]
      have hof : b.op = false := by simpa using ho
      rw [hof]
      rcases vorder_three v b.v with o | o | o <;> rw [o] <;> cases b.inn <;> rfl
    · unfold endS at h
      rw [if_neg ho, if_neg hc] at h
      cases h
theorem hi_lets {b : Bd} {v : V} {more : List V} (hv : good v) (hm : ∀ x ∈ more, good x) (hn : InR b.v.n) (h : (endS b [] b.inn).2 = 0) :
    letsB b v (-1) = ((endS b [] b.inn).1 == [] || Op.bytesLess (encL (v :: more)) (endS b [] b.inn).1) := by
  by_cases ho : b.op = true
  · unfold letsB endS
    rw [if_pos ho, ho]
    rfl
  · by_cases hc : vcheck b.v = 0
    · unfold letsB endS
      rw [if_neg ho, if_pos hc]
      dsimp only
      rw [less_end hv ⟨hn, hc⟩ hm]
      have hof : b.op = false := by simpa using ho
      obtain ⟨c, s, e, _⟩ := good_head (v := b.v) ⟨hn, hc⟩
      rw [hof, e]
      have hne : ((c :: s ++ (if b.inn = true then [255] else [])) == ([] : List UInt8)) = false := by simp
      rw [hne]
      rcases vorder_three v b.v with o | o | o <;> rw [o] <;> cases b.inn <;> rfl
    · unfold endS at h
      rw [if_neg ho, if_neg hc] at h
      cases h
theorem keys_has {p : Pl} {v : V} {more : List V} (he : p.emp = false) (hk : v.k ≠ 0) (hv : good v) (hm : ∀ x ∈ more, good x) (hl : InR p.lo.v.n) (hh : InR p.hi.v.n) (h0 : (keysP p).2.2 = 0) :
    hasP p v = (!(Op.bytesLess (encL (v :: more)) (keysP p).1) && ((keysP p).2.1 == [] || Op.bytesLess (encL (v :: more)) (keysP p).2.1)) := by
  have hef : ¬ p.emp = true := by rw [he]; simp
  unfold keysP at h0 ⊢
  rw [if_neg hef] at h0 ⊢
  by_cases h1 : (endS p.lo [5] (!p.lo.inn)).2 = 0
  · rw [if_neg (by omega)] at h0 ⊢
    by_cases h2 : (endS p.hi [] p.hi.inn).2 = 0
    · rw [if_neg (by omega)] at h0 ⊢
      unfold hasP
      rw [he, lo_lets hv hk hm hl h1, hi_lets hv hm hh h2]
      have : (v.k != 0) = true := by simpa using hk
      rw [this]; rfl
    · rw [if_pos h2] at h0
      exact absurd h0 h2
  · rw [if_pos h1] at h0
    exact absurd h0 h1
end Go.Proofs.Ytfmfmammcjpboaa
