/- Which keys are locked: in plain Lean. -/
import Derived.Test.YtdiclnkkddnncaaLkM
namespace Go.Proofs.Ytdiclnkkddnncaa
open Go.RowKit
set_option linter.unusedVariables false
set_option linter.unusedSimpArgs false
/-- Has a lock a key? -/
def cov (x : Lk) (k : ByteArray) : Bool := !lt? k x.lo && (nil? x.hi || lt? k x.hi)
def covT (l : List Lk) (t : Int) (k : ByteArray) : Bool := l.any (fun x => x.tx == t && cov x k)
theorem cov_iff (x : Lk) (k : ByteArray) : cov x k = true ↔ lt? k x.lo = false ∧ (nil? x.hi = true ∨ lt? k x.hi = true) := by
  unfold cov; simp
theorem covT_iff (l : List Lk) (t : Int) (k : ByteArray) : covT l t k = true ↔ ∃ y ∈ l, y.tx = t ∧ cov y k = true := by
  unfold covT
  rw [List.any_eq_true]
  constructor
  · rintro ⟨y, hy, h⟩
    simp only [Bool.and_eq_true, beq_iff_eq] at h
    exact ⟨y, hy, h.1, h.2⟩
  · rintro ⟨y, hy, h1, h2⟩
    exact ⟨y, hy, by simp [h1, h2]⟩
/-- k below b, b at most c: k below c. -/
theorem lt_le {a b c : ByteArray} (h : lt? a b = true) (g : lt? c b = false) : lt? a c = true := by
  rcases lt_tri b c with q | q | q
  · exact lt_trans' h q
  · rw [← lt_congr (a := a) rfl q]; exact h
  · rw [q] at g; cases g
theorem min_iff (a b k : ByteArray) : lt? k (minS a b) = false ↔ (lt? k a = false ∨ lt? k b = false) := by
  unfold minS
  by_cases q : lt? b a = true
  · rw [if_pos q]
    constructor
    · intro h; exact .inr h
    · rintro (h | h)
      · exact nlt_trans (lt_asym q) h
      · exact h
  · rw [if_neg q]
    have q' : lt? b a = false := by simpa using q
    constructor
    · intro h; exact .inl h
    · rintro (h | h)
      · exact h
      · exact nlt_trans q' h
theorem up_iff (a b k : ByteArray) : (nil? (if endsR a b < 0 then b else a) = true ∨ lt? k (if endsR a b < 0 then b else a) = true) ↔ ((nil? a = true ∨ lt? k a = true) ∨ (nil? b = true ∨ lt? k b = true)) := by
  by_cases q : endsR a b < 0
  · rw [if_pos q]
    have e := (ends_neg a b).1 q
    constructor
    · exact .inr
    · rintro (h | h)
      · rcases h with h | h
        · rw [e.1] at h; cases h
        · rcases e.2 with e2 | e2
          · exact .inl e2
          · exact .inr (lt_trans' h e2)
      · exact h
  · rw [if_neg q]
    have e : ¬ elt a b := fun h => q ((ends_neg a b).2 h)
    constructor
    · exact .inl
    · rintro (h | h)
      · exact h
      · cases ha : nil? a with
        | true => exact .inl rfl
        | false =>
          right
          rcases h with h | h
          · exact absurd ⟨ha, .inl h⟩ e
          · have : lt? a b = false := by
              cases k2 : lt? a b with
              | false => rfl
              | true => exact absurd ⟨ha, .inr k2⟩ e
            exact lt_le h this
theorem touches_parts {x y : Lk} (h : touches x y = true) : x.tx = y.tx ∧ (nil? x.hi = true ∨ lt? x.hi y.lo = false) ∧ (nil? y.hi = true ∨ lt? y.hi x.lo = false) := by
  unfold touches at h
  simp only [Bool.and_eq_true, Bool.or_eq_true, Bool.not_eq_true', beq_iff_eq] at h
  exact ⟨h.1.1, h.1.2, h.2⟩
/-- Two that touch have as one what either has. -/
theorem cov_join {acc x y : Lk} (hm : mayL x = true) (h : Has acc x) (ht : touches x y = true) (k : ByteArray) : cov (joinL acc y) k = true ↔ (cov acc k = true ∨ cov y k = true) := by
  obtain ⟨_, t1, t2⟩ := touches_parts ht
  have a1 : nil? acc.hi = true ∨ lt? acc.hi y.lo = false := by
    rcases has_up h hm with q | ⟨q1, q2⟩
    · exact .inl q
    · rcases t1 with t1 | t1
      · rw [t1] at q1; cases q1
      · exact .inr (nlt_trans t1 q2)
  have a2 : nil? y.hi = true ∨ lt? y.hi acc.lo = false := by
    rcases t2 with t2 | t2
    · exact .inl t2
    · exact .inr (nlt_trans h.2.1 t2)
  rw [cov_iff, cov_iff, cov_iff]
  have em := min_iff acc.lo y.lo k
  have eu := up_iff acc.hi y.hi k
  have e1 : (joinL acc y).lo = minS acc.lo y.lo := rfl
  have e2 : (joinL acc y).hi = if endsR acc.hi y.hi < 0 then y.hi else acc.hi := rfl
  rw [e1, e2, em, eu]
  constructor
  · rintro ⟨h1, h2⟩
    by_cases c1 : lt? k acc.lo = false
    · by_cases c2 : nil? acc.hi = true ∨ lt? k acc.hi = true
      · exact .inl ⟨c1, c2⟩
      · right
        refine ⟨?_, by rcases h2 with h2 | h2; exact absurd h2 c2; exact h2⟩
        have n1 : nil? acc.hi = false := by
          cases q : nil? acc.hi with
          | false => rfl
          | true => exact absurd (.inl q) c2
        have n2 : lt? k acc.hi = false := by
          cases q : lt? k acc.hi with
          | false => rfl
          | true => exact absurd (.inr q) c2
        rcases a1 with a1 | a1
        · rw [a1] at n1; cases n1
        · exact nlt_trans a1 n2
    · right
      have c1' : lt? k acc.lo = true := by simpa using c1
      refine ⟨by rcases h1 with h1 | h1; exact absurd h1 c1; exact h1, ?_⟩
      rcases a2 with a2 | a2
      · exact .inl a2
      · exact .inr (lt_le c1' a2)
  · rintro (⟨h1, h2⟩ | ⟨h1, h2⟩)
    · exact ⟨.inl h1, .inl h2⟩
    · exact ⟨.inr h1, .inr h2⟩
theorem cov_fold {x : Lk} (hm : mayL x = true) (k : ByteArray) : ∀ (l : List Lk) (acc : Lk), Has acc x → (∀ y ∈ l, touches x y = true) → (cov (l.foldl joinL acc) k = true ↔ (cov acc k = true ∨ ∃ y ∈ l, cov y k = true))
  | [], acc, h, _ => by simp
  | y :: l, acc, h, ht => by
    rw [List.foldl_cons, cov_fold hm k l (joinL acc y) (has_join h y) (fun z hz => ht z (by simp [hz])), cov_join hm h (ht y (by simp)) k]
    constructor
    · rintro ((h1 | h1) | ⟨z, hz, h1⟩)
      · exact .inl h1
      · exact .inr ⟨y, by simp, h1⟩
      · exact .inr ⟨z, by simp [hz], h1⟩
    · rintro (h1 | ⟨z, hz, h1⟩)
      · exact .inl (.inl h1)
      · rcases List.mem_cons.1 hz with rfl | hz
        · exact .inl (.inr h1)
        · exact .inr ⟨z, hz, h1⟩
theorem within_cov {x y : Lk} (h : within x y = true) {k : ByteArray} (hk : cov x k = true) : x.tx = y.tx ∧ cov y k = true := by
  unfold within at h
  simp only [Bool.and_eq_true, beq_iff_eq, Bool.not_eq_true', decide_eq_true_eq] at h
  obtain ⟨⟨h1, h2⟩, h3⟩ := h
  rw [cov_iff] at hk ⊢
  refine ⟨h1, nlt_trans h2 hk.1, ?_⟩
  have e : ¬ elt y.hi x.hi := fun q => by
    rcases elt_tri x.hi y.hi with r | r | r
    · exact elt_asym r q
    · exact elt_irr y.hi ((elt_congr rfl r).1 q)
    · have := (ends_neg y.hi x.hi).2 r
      by_cases z : endsR x.hi y.hi < 0
      · exact elt_asym ((ends_neg _ _).1 z) q
      · have z0 : endsR x.hi y.hi = 0 := by omega
        have := (ends_zero _ _).1 z0
        exact elt_irr y.hi ((elt_congr rfl this).1 q)
  cases hn : nil? y.hi with
  | true => exact .inl rfl
  | false =>
    right
    rcases hk.2 with q | q
    · exact absurd ⟨hn, .inl q⟩ e
    · have : lt? y.hi x.hi = false := by
        cases k2 : lt? y.hi x.hi with
        | false => rfl
        | true => exact absurd ⟨hn, .inr k2⟩ e
      exact lt_le q this
/-- A lock more locks just its keys. -/
theorem add_cov {l : List Lk} {x : Lk} (h : (addL l x).2 = 0) (t : Int) (k : ByteArray) : covT (addL l x).1 t k = true ↔ ((x.tx = t ∧ cov x k = true) ∨ covT l t k = true) := by
  obtain ⟨c, m, ⟨a, e⟩ | ⟨a, f, e⟩⟩ := add_ok h
  · rw [e]
    constructor
    · exact .inr
    · rintro (⟨rfl, h1⟩ | h1)
      · obtain ⟨y, hy, hw⟩ := List.any_eq_true.1 a
        obtain ⟨w1, w2⟩ := within_cov hw h1
        exact (covT_iff _ _ _).2 ⟨y, hy, w1.symm, w2⟩
      · exact h1
  · rw [e]
    have hz := add_fold (l := l) (x := x)
    have hcf := cov_fold m k (l.filter (touches x)) x (has_refl x) (fun y hy => (List.mem_filter.1 hy).2)
    generalize (l.filter (touches x)).foldl joinL x = z at *
    rw [covT_iff, covT_iff]
    dsimp only
    constructor
    · rintro ⟨y, hy, h1, h2⟩
      rcases mem_put.1 hy with rfl | hy
      · rcases hcf.1 h2 with q | ⟨u, hu, q⟩
        · exact .inl ⟨by rw [← hz.1]; exact h1, q⟩
        · obtain ⟨hu1, hu2⟩ := List.mem_filter.1 hu
          exact .inr ⟨u, hu1, by rw [← (touches_parts hu2).1, ← hz.1]; exact h1, q⟩
      · exact .inr ⟨y, (List.mem_filter.1 hy).1, h1, h2⟩
    · rintro (⟨h1, h2⟩ | ⟨y, hy, h1, h2⟩)
      · exact ⟨z, mem_put.2 (.inl rfl), by rw [hz.1]; exact h1, hcf.2 (.inl h2)⟩
      · cases ht : touches x y with
        | true => exact ⟨z, mem_put.2 (.inl rfl), by rw [hz.1, (touches_parts ht).1]; exact h1, hcf.2 (.inr ⟨y, List.mem_filter.2 ⟨hy, ht⟩, h2⟩)⟩
        | false => exact ⟨y, mem_put.2 (.inr (List.mem_filter.2 ⟨hy, by simp [ht]⟩)), h1, h2⟩
end Go.Proofs.Ytdiclnkkddnncaa
