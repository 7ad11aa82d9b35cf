/- What Add makes may be; the same lock again changes nothing: in plain Lean. -/
import Derived.Test.YtdiclnkkddnncaaLkA
namespace Go.Proofs.Ytdiclnkkddnncaa
open Go.RowKit
set_option linter.unusedVariables false
set_option linter.unusedSimpArgs false
theorem nlt_trans {a b c : ByteArray} (h : lt? b a = false) (g : lt? c b = false) : lt? c a = false := by
  cases k : lt? c a with
  | false => rfl
  | true =>
    rcases lt_tri b c with q | q | q
    · rw [lt_trans' q k] at h; cases h
    · rw [lt_congr q rfl, k] at h; cases h
    · rw [q] at g; cases g
theorem nelt_trans {a b c : ByteArray} (h : ¬ elt b a) (g : ¬ elt c b) : ¬ elt c a := fun k => by
  rcases elt_tri b c with q | q | q
  · exact h (elt_trans q k)
  · exact h ((elt_congr q rfl).2 k)
  · exact g q
theorem elt_asym {a b : ByteArray} (h : elt a b) : ¬ elt b a := fun g => elt_irr a (elt_trans h g)
/-- z has all of x. -/
def Has (z x : Lk) : Prop := z.tx = x.tx ∧ lt? x.lo z.lo = false ∧ ¬ elt z.hi x.hi
theorem has_refl (x : Lk) : Has x x := ⟨rfl, lt_irr _, elt_irr _⟩
theorem has_join {acc x : Lk} (h : Has acc x) (y : Lk) : Has (joinL acc y) x := by
  obtain ⟨h1, h2, h3⟩ := h
  refine ⟨h1, ?_, ?_⟩
  · unfold joinL minS
    dsimp only
    by_cases q : lt? y.lo acc.lo = true
    · rw [if_pos q]; exact nlt_trans (lt_asym q) h2
    · rw [if_neg q]; exact h2
  · unfold joinL
    dsimp only
    by_cases q : endsR acc.hi y.hi < 0
    · rw [if_pos q]; exact nelt_trans h3 (elt_asym ((ends_neg _ _).1 q))
    · rw [if_neg q]; exact h3
theorem has_fold {x : Lk} : ∀ (l : List Lk) (acc : Lk), Has acc x → Has (l.foldl joinL acc) x
  | [], acc, h => h
  | y :: l, acc, h => has_fold l (joinL acc y) (has_join h y)
theorem has_within {z x : Lk} (h : Has z x) : within x z = true := by
  obtain ⟨h1, h2, h3⟩ := h
  unfold within
  have e : endsR x.hi z.hi ≤ 0 := by
    rcases elt_tri x.hi z.hi with q | q | q
    · have := (ends_neg _ _).2 q; omega
    · have := (ends_zero _ _).2 q; omega
    · exact absurd q h3
  simp [h1, h2, e]
theorem lt_mix {a b c : ByteArray} (h : lt? b a = false) (g : lt? b c = true) : lt? a c = true := by
  rcases lt_tri a b with q | q | q
  · exact lt_trans' q g
  · rw [lt_congr q rfl]; exact g
  · rw [q] at h; cases h
theorem may_parts {x : Lk} (h : mayL x = true) : 1 ≤ x.tx ∧ x.tx ≤ 1099511627776 ∧ (nil? x.hi = true ∨ lt? x.lo x.hi = true) := by
  unfold mayL at h
  simpa [and_assoc] using h
theorem has_up {z x : Lk} (h : Has z x) (hx : mayL x = true) : nil? z.hi = true ∨ (nil? x.hi = false ∧ lt? z.hi x.hi = false) := by
  cases hz : nil? z.hi with
  | true => exact .inl rfl
  | false =>
    right
    refine ⟨?_, ?_⟩
    · cases hn : nil? x.hi with
      | false => rfl
      | true => exact absurd ⟨hz, .inl hn⟩ h.2.2
    · cases k : lt? z.hi x.hi with
      | false => rfl
      | true => exact absurd ⟨hz, .inr k⟩ h.2.2
theorem has_may {z x : Lk} (h : Has z x) (hx : mayL x = true) : mayL z = true := by
  obtain ⟨m1, m2, m3⟩ := may_parts hx
  have hu : nil? z.hi = true ∨ lt? z.lo z.hi = true := by
    rcases has_up h hx with q | ⟨q1, q2⟩
    · exact .inl q
    · right
      rcases m3 with m3 | m3
      · rw [m3] at q1; cases q1
      · have h1 : lt? z.lo x.hi = true := lt_mix h.2.1 m3
        cases k : lt? z.lo z.hi with
        | true => rfl
        | false =>
          have := nlt_trans q2 k
          rw [h1] at this; cases this
  unfold mayL
  rw [h.1]
  simp [m1, m2, hu]
theorem has_touch {z x : Lk} (h : Has z x) (hx : mayL x = true) : touches x z = true := by
  obtain ⟨m1, m2, m3⟩ := may_parts hx
  have a1 : nil? x.hi = true ∨ lt? x.hi z.lo = false := by
    rcases m3 with m3 | m3
    · exact .inl m3
    · right
      exact nlt_trans (lt_asym (lt_mix h.2.1 m3)) (lt_irr _)
  have a2 : nil? z.hi = true ∨ lt? z.hi x.lo = false := by
    rcases has_up h hx with q | ⟨q1, q2⟩
    · exact .inl q
    · right
      rcases m3 with m3 | m3
      · rw [m3] at q1; cases q1
      · exact nlt_trans (lt_asym m3) q2
  unfold touches
  simp only [Bool.and_eq_true, Bool.or_eq_true, Bool.not_eq_true', beq_iff_eq]
  exact ⟨⟨h.1.symm, a1⟩, a2⟩
theorem inc_put {F : List Lk} {z : Lk} (h : Inc F) (hz : z ∉ F) : Inc (putL F z) := by
  unfold putL putAt
  have pos : ∀ (k : Nat) (y : Lk), F[k]? = some y → (k < (F.filter (fun y => decide (lorder y z < 0))).length → llt y z) ∧ ((F.filter (fun y => decide (lorder y z < 0))).length ≤ k → llt z y) := by
    obtain ⟨i, hi, h1, h2⟩ : ∃ i, i ≤ F.length ∧ (∀ (k : Nat) (y : Lk), k < i → F[k]? = some y → llt y z) ∧ (∀ (k : Nat) (y : Lk), i ≤ k → F[k]? = some y → ¬ llt y z) := by
      clear hz
      induction F with
      | nil => exact ⟨0, Nat.le_refl _, fun k y h => absurd h (Nat.not_lt_zero _), fun k y _ h => by simp at h⟩
      | cons a F ih =>
        obtain ⟨k1, k2⟩ := List.pairwise_cons.1 h
        obtain ⟨i, hi, h1, h2⟩ := ih k2
        by_cases q : llt a z
        · refine ⟨i + 1, by simp; omega, fun k y hk hy => ?_, fun k y hk hy => ?_⟩
          · cases k with
            | zero => simp at hy; subst hy; exact q
            | succ k => exact h1 k y (by omega) (by simpa using hy)
          · cases k with
            | zero => omega
            | succ k => exact h2 k y (by omega) (by simpa using hy)
        · refine ⟨0, Nat.zero_le _, fun k y hk => absurd hk (Nat.not_lt_zero _), fun k y _ hy => ?_⟩
          cases k with
          | zero => simp at hy; subst hy; exact q
          | succ k =>
            intro hl
            have hm : y ∈ F := List.mem_of_getElem? (by simpa using hy)
            exact q (llt_trans (k1 y hm) hl)
    have e := place_is hi h1 h2
    rw [e]
    intro k y hy
    refine ⟨fun hk => h1 k y hk hy, fun hk => ?_⟩
    rcases llt_tri y z with q | q | q
    · exact absurd q (h2 k y hk hy)
    · subst q; exact absurd (List.mem_of_getElem? hy) hz
    · exact q
  generalize (F.filter (fun y => decide (lorder y z < 0))).length = i at *
  have hlt : ∀ a ∈ F.take i, llt a z := fun a ha => by
    obtain ⟨k, hk⟩ := List.mem_iff_getElem?.1 ha
    rw [List.getElem?_take] at hk
    split at hk
    · rename_i q; exact (pos k a hk).1 q
    · cases hk
  have hgt : ∀ a ∈ F.drop i, llt z a := fun a ha => by
    obtain ⟨k, hk⟩ := List.mem_iff_getElem?.1 ha
    rw [List.getElem?_drop] at hk
    exact (pos (i + k) a hk).2 (by omega)
  have e : F = F.take i ++ F.drop i := (List.take_append_drop i F).symm
  have hp := h
  unfold Inc at hp
  rw [e, List.pairwise_append] at hp
  obtain ⟨p1, p2, p3⟩ := hp
  refine List.pairwise_append.2 ⟨p1, List.pairwise_cons.2 ⟨hgt, p2⟩, fun a ha b hb => ?_⟩
  rcases List.mem_cons.1 hb with rfl | hb
  · exact hlt a ha
  · exact p3 a ha b hb
theorem mem_put {F : List Lk} {z y : Lk} : y ∈ putL F z ↔ y = z ∨ y ∈ F := by
  unfold putL putAt
  rw [List.mem_append, List.mem_cons]
  constructor
  · rintro (h | h | h)
    · exact .inr (List.mem_of_mem_take h)
    · exact .inl h
    · exact .inr (List.mem_of_mem_drop h)
  · rintro (h | h)
    · exact .inr (.inl h)
    · have e := List.take_append_drop (F.filter (fun y => decide (lorder y z < 0))).length F
      rw [← e] at h
      rcases List.mem_append.1 h with h | h
      · exact .inl h
      · exact .inr (.inr h)
/-- What Add makes. -/
theorem add_ok {l : List Lk} {x : Lk} (h : (addL l x).2 = 0) : chkL l = 0 ∧ mayL x = true ∧ ((l.any (within x) = true ∧ addL l x = (l, 0)) ∨ (l.any (within x) = false ∧ (l.filter (fun y => !touches x y)).length ≠ 512 ∧ addL l x = (putL (l.filter (fun y => !touches x y)) ((l.filter (touches x)).foldl joinL x), 0))) := by
  unfold addL at h ⊢
  by_cases c : chkL l = 0
  · rw [if_neg (by simp [c])] at h ⊢
    cases m : mayL x with
    | false => rw [if_pos m] at h; simp at h
    | true =>
      rw [if_neg (by simp [m])] at h ⊢
      cases a : l.any (within x) with
      | true => simp only [if_true]; exact ⟨c, by trivial, .inl ⟨by trivial, by trivial⟩⟩
      | false =>
        rw [a] at h
        simp only [Bool.false_eq_true, if_false] at h ⊢
        by_cases f : (l.filter (fun y => !touches x y)).length = 512
        · rw [if_pos f] at h; simp at h
        · rw [if_neg f]; exact ⟨c, by trivial, .inr ⟨by trivial, f, by trivial⟩⟩
  · rw [if_pos c] at h; exact absurd h c
theorem add_bad {l : List Lk} {x : Lk} (h : (addL l x).2 ≠ 0) : (addL l x).1 = [] := by
  unfold addL at h ⊢
  (repeat' split) <;> simp_all
theorem add_fold {l : List Lk} {x : Lk} : Has ((l.filter (touches x)).foldl joinL x) x := has_fold _ _ (has_refl x)
theorem add_chk {l : List Lk} {x : Lk} (h : (addL l x).2 = 0) : chkL (addL l x).1 = 0 := by
  obtain ⟨c, m, ⟨_, e⟩ | ⟨a, f, e⟩⟩ := add_ok h
  · rw [e]; exact c
  · rw [e]
    obtain ⟨k1, k2, k3⟩ := (chkL_iff l).1 c
    have hz := add_fold (l := l) (x := x)
    generalize (l.filter (touches x)).foldl joinL x = z at *
    have hF : (l.filter (fun y => !touches x y)).length ≤ 512 := Nat.le_trans (List.length_filter_le _ _) k1
    have hn : z ∉ l.filter (fun y => !touches x y) := fun hm => by
      have := (List.mem_filter.1 hm).2
      rw [has_touch hz m] at this; cases this
    refine (chkL_iff _).2 ⟨?_, fun y hy => ?_, inc_put (k3.filter _) hn⟩
    · dsimp only
      unfold putL
      rw [putAt_len _ _ _ (List.length_filter_le _ _)]; omega
    · rcases mem_put.1 hy with rfl | hy
      · exact has_may hz m
      · exact k2 y (List.mem_filter.1 hy).1
theorem add_again {l : List Lk} {x : Lk} (h : (addL l x).2 = 0) : addL (addL l x).1 x = ((addL l x).1, 0) := by
  have hc := add_chk h
  obtain ⟨c, m, ⟨a, e⟩ | ⟨a, f, e⟩⟩ := add_ok h
  · rw [e]; exact e
  · rw [e] at hc ⊢
    dsimp only at hc ⊢
    have hz := add_fold (l := l) (x := x)
    have ha : (putL (l.filter (fun y => !touches x y)) ((l.filter (touches x)).foldl joinL x)).any (within x) = true := List.any_eq_true.2 ⟨_, mem_put.2 (.inl rfl), has_within hz⟩
    unfold addL
    rw [if_neg (by simp [hc]), if_neg (by simp [m]), if_pos ha]
end Go.Proofs.Ytdiclnkkddnncaa
