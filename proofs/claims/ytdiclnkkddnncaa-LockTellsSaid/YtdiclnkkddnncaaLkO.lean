/- The order of locks, in plain Lean. -/
import Derived.Test.YtdiclnkkddnncaaLk
namespace Go.Proofs.Ytdiclnkkddnncaa
open Go.RowKit
set_option linter.unusedVariables false
set_option linter.unusedSimpArgs false
theorem cmpS_neg (a b : ByteArray) : cmpS a b < 0 ↔ lt? a b = true := by
  unfold cmpS lt?
  by_cases h1 : Op.bytesLess a.toList b.toList = true <;> by_cases h2 : Op.bytesLess b.toList a.toList = true <;> simp [h1, h2]
theorem lt_irr (a : ByteArray) : lt? a a = false := less_irrefl _
theorem lt_trans' {a b c : ByteArray} (h : lt? a b = true) (g : lt? b c = true) : lt? a c = true := less_trans _ _ _ h g
theorem lt_asym {a b : ByteArray} (h : lt? a b = true) : lt? b a = false := less_asym _ _ h
theorem lt_tri (a b : ByteArray) : lt? a b = true ∨ a.toList = b.toList ∨ lt? b a = true := by
  have h := less_total a.toList b.toList
  unfold lt?
  by_cases h1 : Op.bytesLess a.toList b.toList = true
  · exact .inl h1
  · by_cases h2 : a.toList = b.toList
    · exact .inr (.inl h2)
    · right; right; rw [← h]; simp [h1, h2]
theorem lt_congr {a b a' b' : ByteArray} (h : a.toList = a'.toList) (g : b.toList = b'.toList) : lt? a b = lt? a' b' := by unfold lt?; rw [h, g]
theorem nil_lt (a b : ByteArray) (h : nil? a = true) (g : nil? b = false) : lt? a b = true := by
  rcases lt_tri a b with k | k | k
  · exact k
  · unfold nil? at h g; rw [k] at h; rw [h] at g; cases g
  · exfalso
    unfold lt? at k
    have : a.toList = [] := by simpa [nil?] using h
    rw [this] at k
    cases hb : b.toList <;> simp [hb, Op.bytesLess] at k
theorem lt_nil (a b : ByteArray) (h : nil? b = true) : lt? a b = false := by
  have e : b.toList = [] := by simpa [nil?] using h
  unfold lt?
  rw [e]
  cases a.toList <;> simp [Op.bytesLess]
/-- The high ends' order: none is above all. -/
def elt (a b : ByteArray) : Prop := nil? a = false ∧ (nil? b = true ∨ lt? a b = true)
theorem ends_neg (a b : ByteArray) : endsR a b < 0 ↔ elt a b := by
  unfold endsR elt
  by_cases e : a.toList = b.toList
  · have e1 : eq? a b = true := by simp [eq?, e]
    rw [if_pos e1]
    have e2 : nil? a = nil? b := by unfold nil?; rw [e]
    have e3 : lt? a b = false := by rw [lt_congr e rfl]; exact lt_irr b
    cases hb : nil? b <;> simp [e2, e3, hb]
  · have e1 : ¬ eq? a b = true := by simp [eq?, e]
    rw [if_neg e1]
    cases ha : nil? a
    · cases hb : nil? b
      · simp [cmpS_neg]
      · simp
    · simp
theorem ends_zero (a b : ByteArray) : endsR a b = 0 ↔ a.toList = b.toList := by
  unfold endsR
  by_cases e : a.toList = b.toList
  · have e1 : eq? a b = true := by simp [eq?, e]
    rw [if_pos e1]; simp [e]
  · have e1 : ¬ eq? a b = true := by simp [eq?, e]
    rw [if_neg e1]
    simp only [e, iff_false]
    split
    · decide
    · split
      · decide
      · rw [cmpS_zero]; exact e
theorem elt_trans {a b c : ByteArray} (h : elt a b) (g : elt b c) : elt a c := by
  refine ⟨h.1, ?_⟩
  rcases g.2 with g2 | g2
  · exact .inl g2
  · rcases h.2 with h2 | h2
    · have := g.1; rw [h2] at this; cases this
    · exact .inr (lt_trans' h2 g2)
theorem elt_congr {a b a' b' : ByteArray} (h : a.toList = a'.toList) (g : b.toList = b'.toList) : elt a b ↔ elt a' b' := by
  unfold elt nil?; rw [lt_congr h g, h, g]
theorem elt_tri (a b : ByteArray) : elt a b ∨ a.toList = b.toList ∨ elt b a := by
  unfold elt
  cases ha : nil? a
  · cases hb : nil? b
    · rcases lt_tri a b with k | k | k
      · exact .inl ⟨rfl, .inr k⟩
      · exact .inr (.inl k)
      · exact .inr (.inr ⟨rfl, .inr k⟩)
    · exact .inl ⟨rfl, .inl rfl⟩
  · cases hb : nil? b
    · exact .inr (.inr ⟨rfl, .inl rfl⟩)
    · right; left
      have h1 : a.toList = [] := by simpa [nil?] using ha
      have h2 : b.toList = [] := by simpa [nil?] using hb
      rw [h1, h2]
theorem elt_irr (a : ByteArray) : ¬ elt a a := by
  rintro ⟨h1, h2 | h2⟩
  · rw [h2] at h1; cases h1
  · rw [lt_irr] at h2; cases h2
/-- One lock ahead of another. -/
def llt (a b : Lk) : Prop := a.tx < b.tx ∨ (a.tx = b.tx ∧ (lt? a.lo b.lo = true ∨ (a.lo.toList = b.lo.toList ∧ elt a.hi b.hi)))
theorem lorder_neg (a b : Lk) : lorder a b < 0 ↔ llt a b := by
  unfold lorder llt
  have h1 : cmpI a.tx b.tx < 0 ↔ a.tx < b.tx := by unfold cmpI; (repeat' split) <;> omega
  have h2 : cmpI a.tx b.tx = 0 ↔ a.tx = b.tx := by unfold cmpI; (repeat' split) <;> omega
  by_cases e : a.tx = b.tx
  · rw [if_neg (by simp [h2.2 e])]
    by_cases f : cmpS a.lo b.lo = 0
    · rw [if_neg (by simp [f]), ends_neg]
      have f' := (cmpS_zero _ _).1 f
      have f2 : lt? a.lo b.lo = false := by rw [lt_congr f' rfl]; exact lt_irr _
      simp [e, f2, f']
    · rw [if_pos f, cmpS_neg]
      have f' : ¬ a.lo.toList = b.lo.toList := fun q => f ((cmpS_zero _ _).2 q)
      simp [e, f']
  · rw [if_pos (by simpa [h2] using e), h1]
    simp [e]
theorem llt_trans {a b c : Lk} (h : llt a b) (g : llt b c) : llt a c := by
  rcases h with h | ⟨h, h'⟩
  · rcases g with g | ⟨g, _⟩
    · exact .inl (by omega)
    · exact .inl (by omega)
  · rcases g with g | ⟨g, g'⟩
    · exact .inl (by omega)
    · refine .inr ⟨by omega, ?_⟩
      rcases h' with h' | ⟨h', h2⟩
      · rcases g' with g' | ⟨g', _⟩
        · exact .inl (lt_trans' h' g')
        · exact .inl (by rw [← lt_congr (a := a.lo) rfl g']; exact h')
      · rcases g' with g' | ⟨g', g2⟩
        · exact .inl (by rw [lt_congr h' rfl]; exact g')
        · exact .inr ⟨h'.trans g', elt_trans h2 g2⟩
theorem llt_irr (a : Lk) : ¬ llt a a := by
  rintro (h | ⟨_, h | ⟨_, h⟩⟩)
  · omega
  · rw [lt_irr] at h; cases h
  · exact elt_irr _ h
theorem bytes_ext {a b : ByteArray} (h : a.toList = b.toList) : a = b := by
  have e : ∀ x : ByteArray, x.toList = x.data.toList := fun x => by rw [ByteArray.toList_eq]
  rw [e, e] at h
  cases a; cases b
  simp at h
  subst h
  rfl
theorem llt_tri (a b : Lk) : llt a b ∨ a = b ∨ llt b a := by
  unfold llt
  rcases Int.lt_trichotomy a.tx b.tx with h | h | h
  · exact .inl (.inl h)
  · rcases lt_tri a.lo b.lo with g | g | g
    · exact .inl (.inr ⟨h, .inl g⟩)
    · rcases elt_tri a.hi b.hi with k | k | k
      · exact .inl (.inr ⟨h, .inr ⟨g, k⟩⟩)
      · right; left
        obtain ⟨t, lo, hi⟩ := a
        obtain ⟨t', lo', hi'⟩ := b
        simp only at h g k
        subst h
        rw [bytes_ext g, bytes_ext k]
      · exact .inr (.inr (.inr ⟨h.symm, .inr ⟨g.symm, k⟩⟩))
    · exact .inr (.inr (.inr ⟨h.symm, .inl g⟩))
  · exact .inr (.inr (.inl h))
/-- In order. -/
def Inc (l : List Lk) : Prop := l.Pairwise llt
theorem inc_get {l : List Lk} (h : Inc l) {i j : Nat} {x y : Lk} (hi : l[i]? = some x) (hj : l[j]? = some y) (hij : i < j) : llt x y := by
  obtain ⟨hi1, rfl⟩ := List.getElem?_eq_some_iff.1 hi
  obtain ⟨hj1, rfl⟩ := List.getElem?_eq_some_iff.1 hj
  exact List.pairwise_iff_getElem.1 h i j hi1 hj1 hij
end Go.Proofs.Ytdiclnkkddnncaa
