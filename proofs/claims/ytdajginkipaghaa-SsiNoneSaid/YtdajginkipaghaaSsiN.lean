/- No committed one stands in the middle: what each call keeps, in plain Lean. -/
import Derived.Test.YtdajginkipaghaaSsiP
import Derived.Test.YtdajginkipaghaaSlc
namespace Go.Proofs.Ytdajginkipaghaa
open Go.RowKit
set_option linter.unusedVariables false
set_option linter.unusedSimpArgs false
/-- A state that may be, in which no committed one has been read anew and has itself read so. -/
def Calm (s : St) : Prop := s.chk = 0 ∧ ∀ t ∈ s.l, ¬ (0 < t.en ∧ t.inn = true ∧ t.out = true)
/-- .. and who is to be given up can be. -/
def Good (s : St) (g : List Int) : Prop := Calm s ∧ g.Pairwise (· ≠ ·) ∧ ∀ id ∈ g, ∃ i x, at? id s.l = some (i, x) ∧ x.en = 0
theorem calm_new : Calm ⟨[], 0, 1⟩ := ⟨by rfl, fun t h => by cases h⟩
theorem calm_good {s : St} (h : Calm s) : Good s [] := ⟨h, List.Pairwise.nil, fun id h => by cases h⟩
theorem calm_begin {s : St} (h : Calm s) (e : (beginR s).2.2 = 0) : Calm (beginR s).1 := by
  refine ⟨begin_chk e, ?_⟩
  obtain ⟨c, h1, h2, e'⟩ := begin_ok e
  rw [e']
  intro t ht
  rcases List.mem_append.1 ht with ht | ht
  · exact h.2 t ht
  · obtain rfl := List.mem_singleton.1 ht; simp
theorem calm_set {s : St} {i : Nat} {y : Tx} {c : Int} (h : Calm s) (hil : i < s.l.length) (hy : ¬ (0 < y.en ∧ y.inn = true ∧ y.out = true)) : ∀ t ∈ s.l.set i y, ¬ (0 < t.en ∧ t.inn = true ∧ t.out = true) := by
  intro t ht
  obtain ⟨k, hk⟩ := mem_get ht
  rcases set_get hil hk with ⟨_, rfl⟩ | ⟨_, hk⟩
  · exact hy
  · exact h.2 t (List.mem_of_getElem? hk)
theorem calm_commit {s : St} {id : Int} (h : Calm s) (e : (commitR s id).2.2 = 0) : Calm (commitR s id).1 := by
  refine ⟨commit_chk e, ?_⟩
  obtain ⟨c, hc, i, x, ha, he, hq, e'⟩ := commit_ok e
  rw [e']
  exact calm_set (c := 0) h (lt_of_get (at_some ha).1) (by rintro ⟨_, h2⟩; exact hq h2)
theorem calm_abort {s : St} {id : Int} (h : Calm s) (e : (abortR s id).2 = 0) : Calm (abortR s id).1 := by
  refine ⟨abort_chk e, ?_⟩
  obtain ⟨c, i, x, ha, he, e'⟩ := abort_ok e
  rw [e']
  exact calm_set (c := 0) h (lt_of_get (at_some ha).1) (by simp [Tx.ends])
theorem calm_rdr {x : Tx} (h : ¬ (0 < x.en ∧ x.inn = true ∧ x.out = true)) : ¬ (0 < (rdr x).en ∧ (rdr x).inn = true ∧ (rdr x).out = true) := by
  rw [rdr_en]
  unfold rdr
  split
  · exact h
  · rename_i q
    rintro ⟨h1, h2, _⟩
    exact q ⟨h2, by omega⟩
theorem calm_wtr {x : Tx} (h : ¬ (0 < x.en ∧ x.inn = true ∧ x.out = true)) : ¬ (0 < (wtr x).en ∧ (wtr x).inn = true ∧ (wtr x).out = true) := by
  rw [wtr_en]
  unfold wtr
  split
  · exact h
  · rename_i q
    rintro ⟨h1, _, h2⟩
    exact q ⟨h2, by omega⟩
theorem good_edge {s : St} {r v : Int} (h : Calm s) (e : (edgeR s r v).2.2 = 0) : Good (edgeR s r v).1 (edgeR s r v).2.1 := by
  have hk := edge_chk e
  obtain ⟨c, i, x, j, y, ha, hb, e' | ⟨hij, hap, e'⟩⟩ := edge_ok e
  · rw [e']; exact calm_good h
  · rw [e'] at hk ⊢
    dsimp only at hk ⊢
    have hx := at_some ha
    have hy := at_some hb
    have hil := lt_of_get hx.1
    have hjl := lt_of_get hy.1
    have hxy : r ≠ v := fun q => hij (same_place (chk_sorted c) hx.1 hy.1 (by rw [hx.2, hy.2, q])).1
    have hj2 : j < (s.l.set i (rdr x)).length := by simpa using hjl
    have hcalm : Calm ⟨(s.l.set i (rdr x)).set j (wtr y), s.clk, s.nxt⟩ := by
      refine ⟨hk, fun t ht => ?_⟩
      obtain ⟨k, hk'⟩ := mem_get ht
      rcases set_get hj2 hk' with ⟨_, rfl⟩ | ⟨_, hk'⟩
      · exact calm_wtr (h.2 y (List.mem_of_getElem? hy.1))
      · rcases set_get hil hk' with ⟨_, rfl⟩ | ⟨_, hk'⟩
        · exact calm_rdr (h.2 x (List.mem_of_getElem? hx.1))
        · exact h.2 t (List.mem_of_getElem? hk')
    have gx : ((s.l.set i (rdr x)).set j (wtr y))[i]? = some (rdr x) := by rw [List.getElem?_set_ne (fun h => hij h.symm), List.getElem?_set_self hil]
    have gy : ((s.l.set i (rdr x)).set j (wtr y))[j]? = some (wtr y) := List.getElem?_set_self hj2
    have ax : giveR x y = true → ∃ i' x', at? r ((s.l.set i (rdr x)).set j (wtr y)) = some (i', x') ∧ x'.en = 0 := fun hg => by
      refine ⟨i, rdr x, ?_, ?_⟩
      · have := at_of (chk_sorted hcalm.1) gx
        rwa [rdr_id, hx.2] at this
      · rw [rdr_en]; simp [giveR] at hg; omega
    have ay : giveW x y = true → ∃ i' x', at? v ((s.l.set i (rdr x)).set j (wtr y)) = some (i', x') ∧ x'.en = 0 := fun hg => by
      refine ⟨j, wtr y, ?_, ?_⟩
      · have := at_of (chk_sorted hcalm.1) gy
        rwa [wtr_id, hy.2] at this
      · rw [wtr_en]; simp [giveW] at hg; omega
    refine ⟨hcalm, ?_, ?_⟩
    · cases giveR x y <;> cases giveW x y <;> simp [hxy]
    · intro id hid
      rcases List.mem_append.1 hid with hid | hid
      · by_cases q : giveR x y = true
        · rw [if_pos q] at hid; obtain rfl := List.mem_singleton.1 hid; exact ax q
        · rw [if_neg q] at hid; cases hid
      · by_cases q : giveW x y = true
        · rw [if_pos q] at hid; obtain rfl := List.mem_singleton.1 hid; exact ay q
        · rw [if_neg q] at hid; cases hid
theorem good_step {s : St} {id : Int} {g : List Int} (h : Good s (id :: g)) : (abortR s id).2 = 0 ∧ Good (abortR s id).1 g := by
  obtain ⟨hc, hp, ha⟩ := h
  obtain ⟨i, x, hat, he⟩ := ha id (by simp)
  have e := abort_of hc.1 hat he
  have e0 : (abortR s id).2 = 0 := by rw [e]
  refine ⟨e0, calm_abort hc e0, (List.pairwise_cons.1 hp).2, fun id' hid' => ?_⟩
  obtain ⟨i', x', hat', he'⟩ := ha id' (by simp [hid'])
  have hne : id ≠ id' := (List.pairwise_cons.1 hp).1 id' hid'
  have hk := (calm_abort hc e0).1
  rw [e] at hk ⊢
  have h1 := at_some hat
  have h2 := at_some hat'
  have hii : i ≠ i' := fun q => by subst q; rw [h1.1] at h2; have := Option.some.inj h2.1; subst this; exact hne (h1.2.symm.trans h2.2)
  refine ⟨i', x', ?_, he'⟩
  have hg : (s.l.set i (x.ends (-1)))[i']? = some x' := by rw [List.getElem?_set_ne hii]; exact h2.1
  have := at_of (chk_sorted hk) hg
  rwa [h2.2] at this
end Go.Proofs.Ytdajginkipaghaa
