/- What the states of package ssi keep, in plain Lean. -/
import Derived.Test.YtdajginkipaghaaSsi2
namespace Go.Proofs.Ytdajginkipaghaa
open Go.RowKit
set_option linter.unusedVariables false
set_option linter.unusedSimpArgs false
theorem set_get {l : List Tx} {i k : Nat} {y z : Tx} (hi : i < l.length) (h : (l.set i y)[k]? = some z) : (k = i ∧ z = y) ∨ (k ≠ i ∧ l[k]? = some z) := by
  by_cases e : k = i
  · subst e
    rw [List.getElem?_set_self hi] at h
    exact .inl ⟨rfl, (Option.some.inj h).symm⟩
  · rw [List.getElem?_set_ne (fun h => e h.symm)] at h
    exact .inr ⟨e, h⟩
theorem pair_get {l : List Tx} : l.Pairwise two ↔ ∀ (i j : Nat) (x y : Tx), l[i]? = some x → l[j]? = some y → i < j → two x y := by
  constructor
  · intro h i j x y hi hj hij; exact sorted_get h hi hj hij
  · intro h
    rw [List.pairwise_iff_getElem]
    intro i j hi hj hij
    exact h i j _ _ (List.getElem?_eq_getElem hi) (List.getElem?_eq_getElem hj) hij
theorem mem_get {l : List Tx} {t : Tx} (h : t ∈ l) : ∃ i : Nat, l[i]? = some t := List.mem_iff_getElem?.1 h
theorem chk_of {s : St} (h1 : s.l.length ≤ 64) (h2 : 0 ≤ s.clk) (h3 : s.clk ≤ 1099511627776) (h4 : 1 ≤ s.nxt) (h5 : s.nxt ≤ 1099511627776) (h6 : ∀ t ∈ s.l, fit s.clk s.nxt t) (h7 : s.l.Pairwise two) : s.chk = 0 := (chk_iff _ _ _).2 ⟨h1, h2, h3, h4, h5, h6, h7⟩
theorem chk_or' (s : St) : s.chk = 0 ∨ s.chk = 9 := chk_or _ _ _
theorem begin_ok {s : St} (h : (beginR s).2.2 = 0) : s.chk = 0 ∧ s.l.length < 64 ∧ s.nxt < 1099511627776 ∧ beginR s = (⟨s.l ++ [⟨s.nxt, s.clk, 0, false, false⟩], s.clk, s.nxt + 1⟩, s.nxt, 0) := by
  unfold beginR at h ⊢
  by_cases c : s.chk = 0
  · rw [if_neg (by simpa using c)] at h ⊢
    by_cases d : s.l.length = 64 ∨ s.nxt = 1099511627776
    · rw [if_pos d] at h; simp at h
    · rw [if_neg d]
      have k := (chk_iff _ _ _).1 c
      exact ⟨c, by omega, by omega, rfl⟩
  · rw [if_pos c] at h
    exact absurd h c
theorem begin_bad {s : St} (h : (beginR s).2.2 ≠ 0) : (beginR s).1 = St.zero ∧ (beginR s).2.1 = 0 := by
  unfold beginR at h ⊢
  by_cases c : s.chk = 0
  · rw [if_neg (by simpa using c)] at h ⊢
    by_cases d : s.l.length = 64 ∨ s.nxt = 1099511627776
    · rw [if_pos d]; exact ⟨rfl, rfl⟩
    · rw [if_neg d] at h; exact absurd rfl h
  · rw [if_pos c]; exact ⟨rfl, rfl⟩
theorem begin_chk {s : St} (h : (beginR s).2.2 = 0) : (beginR s).1.chk = 0 := by
  obtain ⟨c, h1, h2, e⟩ := begin_ok h
  rw [e]
  obtain ⟨k1, k2, k3, k4, k5, k6, k7⟩ := (chk_iff _ _ _).1 c
  refine chk_of (by simp; omega) k2 k3 (by simp; omega) (by simp; omega) ?_ ?_
  · intro t ht
    rcases List.mem_append.1 ht with ht | ht
    · obtain ⟨f1, f2, f3, f4, f5, f6, f7⟩ := k6 t ht
      exact ⟨f1, by dsimp only; omega, f3, f4, f5, f6, f7⟩
    · obtain rfl := List.mem_singleton.1 ht
      exact ⟨by dsimp only; omega, by dsimp only; omega, by dsimp only; omega, by dsimp only; omega, by dsimp only; omega, by dsimp only; omega, fun h => by simp at h⟩
  · refine List.pairwise_append.2 ⟨k7, List.pairwise_singleton _ _, fun a ha b hb => ?_⟩
    obtain rfl := List.mem_singleton.1 hb
    exact ⟨(k6 a ha).2.1, fun h => by simp at h⟩
theorem commit_ok {s : St} {id : Int} (h : (commitR s id).2.2 = 0) : s.chk = 0 ∧ s.clk < 1099511627776 ∧ ∃ i x, at? id s.l = some (i, x) ∧ x.en = 0 ∧ ¬ (x.inn = true ∧ x.out = true) ∧ commitR s id = (⟨s.l.set i (x.ends (s.clk + 1)), s.clk + 1, s.nxt⟩, s.clk + 1, 0) := by
  unfold commitR at h ⊢
  by_cases c : s.chk = 0
  · rw [if_neg (by simpa using c)] at h ⊢
    cases ha : at? id s.l with
    | none => rw [ha] at h; simp at h
    | some p =>
      obtain ⟨i, x⟩ := p
      rw [ha] at h
      dsimp only at h ⊢
      by_cases e : x.en = 0
      · rw [if_neg (by simpa using e)] at h ⊢
        by_cases q : x.inn = true ∧ x.out = true
        · rw [if_pos q] at h; simp at h
        · rw [if_neg q] at h ⊢
          by_cases m : s.clk = 1099511627776
          · rw [if_pos m] at h; simp at h
          · rw [if_neg m]
            have k := (chk_iff _ _ _).1 c
            exact ⟨c, by omega, i, x, rfl, e, q, rfl⟩
      · rw [if_pos e] at h; simp at h
  · rw [if_pos c] at h
    exact absurd h c
theorem abort_ok {s : St} {id : Int} (h : (abortR s id).2 = 0) : s.chk = 0 ∧ ∃ i x, at? id s.l = some (i, x) ∧ x.en = 0 ∧ abortR s id = (⟨s.l.set i (x.ends (-1)), s.clk, s.nxt⟩, 0) := by
  unfold abortR at h ⊢
  by_cases c : s.chk = 0
  · rw [if_neg (by simpa using c)] at h ⊢
    cases ha : at? id s.l with
    | none => rw [ha] at h; simp at h
    | some p =>
      obtain ⟨i, x⟩ := p
      rw [ha] at h
      dsimp only at h ⊢
      by_cases e : x.en = 0
      · rw [if_neg (by simpa using e)]
        exact ⟨c, i, x, rfl, e, rfl⟩
      · rw [if_pos e] at h; simp at h
  · rw [if_pos c] at h
    exact absurd h c
theorem abort_of {s : St} {id : Int} {i : Nat} {x : Tx} (c : s.chk = 0) (ha : at? id s.l = some (i, x)) (e : x.en = 0) : abortR s id = (⟨s.l.set i (x.ends (-1)), s.clk, s.nxt⟩, 0) := by
  unfold abortR
  rw [if_neg (by simpa using c), ha]
  dsimp only
  rw [if_neg (by simpa using e)]
theorem set_chk {s : St} {i : Nat} {x y : Tx} {c : Int} (h : s.chk = 0) (hx : s.l[i]? = some x) (hid : y.id = x.id) (hc0 : s.clk ≤ c) (hc1 : c ≤ 1099511627776) (hf : fit c s.nxt y) (hy : 0 < y.en → (y.en = x.en ∨ s.clk < y.en)) (hz : y.en = x.en ∨ y.en < 0 ∨ s.clk < y.en) : (St.mk (s.l.set i y) c s.nxt).chk = 0 := by
  obtain ⟨k1, k2, k3, k4, k5, k6, k7⟩ := (chk_iff _ _ _).1 h
  have hil : i < s.l.length := (List.getElem?_eq_some_iff.1 hx).1
  refine chk_of (by simpa using k1) (by dsimp only; omega) hc1 k4 k5 ?_ ?_
  · intro t ht
    obtain ⟨k, hk⟩ := mem_get ht
    rcases set_get hil hk with ⟨_, rfl⟩ | ⟨_, hk⟩
    · exact hf
    · obtain ⟨f1, f2, f3, f4, f5, f6, f7⟩ := k6 t (List.mem_of_getElem? hk)
      exact ⟨f1, f2, f3, by dsimp only; omega, f5, by dsimp only; omega, f7⟩
  · rw [pair_get]
    intro a b u v hu0 hv0 hab
    rcases set_get hil hu0 with ⟨rfl, rfl⟩ | ⟨_, hu⟩
    · rcases set_get hil hv0 with ⟨rfl, rfl⟩ | ⟨_, hv⟩
      · omega
      · have g := sorted_get k7 hx hv hab
        refine ⟨by rw [hid]; exact g.1, fun h0 => ?_⟩
        have g2 := g.2 h0
        have g3 := (k6 v (List.mem_of_getElem? hv)).2.2.2.2.2.1
        omega
    · rcases set_get hil hv0 with ⟨rfl, rfl⟩ | ⟨_, hv⟩
      · have g := sorted_get k7 hu hx hab
        refine ⟨by rw [hid]; exact g.1, fun h0 => ?_⟩
        have g3 := (k6 u (List.mem_of_getElem? hu)).2.2.2.2.2.1
        rcases hy h0 with e | e
        · have g2 := g.2 (by omega); omega
        · omega
      · exact sorted_get k7 hu hv hab
theorem commit_chk {s : St} {id : Int} (h : (commitR s id).2.2 = 0) : (commitR s id).1.chk = 0 := by
  obtain ⟨c, hc, i, x, ha, he, hq, e⟩ := commit_ok h
  rw [e]
  have hx := at_some ha
  obtain ⟨f1, f2, f3, f4, f5, f6, f7⟩ := chk_fit c x (List.mem_of_getElem? hx.1)
  have k := (chk_iff _ _ _).1 c
  exact set_chk c hx.1 rfl (by omega) (by omega) ⟨f1, f2, f3, by simp [Tx.ends]; omega, by simp [Tx.ends]; omega, by simp [Tx.ends], fun _ => by simp [Tx.ends]; omega⟩ (fun _ => .inr (by simp [Tx.ends]; omega)) (.inr (.inr (by simp [Tx.ends]; omega)))
theorem abort_chk {s : St} {id : Int} (h : (abortR s id).2 = 0) : (abortR s id).1.chk = 0 := by
  obtain ⟨c, i, x, ha, he, e⟩ := abort_ok h
  rw [e]
  have hx := at_some ha
  obtain ⟨f1, f2, f3, f4, f5, f6, f7⟩ := chk_fit c x (List.mem_of_getElem? hx.1)
  have k := (chk_iff _ _ _).1 c
  exact set_chk c hx.1 rfl (by omega) (by omega) ⟨f1, f2, f3, f4, by simp [Tx.ends], by simp [Tx.ends]; omega, fun h => by simp [Tx.ends] at h⟩ (fun h => by simp [Tx.ends] at h) (.inr (.inl (by simp [Tx.ends])))
theorem rdr_id (x : Tx) : (rdr x).id = x.id := by unfold rdr; split <;> rfl
theorem rdr_en (x : Tx) : (rdr x).en = x.en := by unfold rdr; split <;> rfl
theorem rdr_st (x : Tx) : (rdr x).st = x.st := by unfold rdr; split <;> rfl
theorem wtr_id (x : Tx) : (wtr x).id = x.id := by unfold wtr; split <;> rfl
theorem wtr_en (x : Tx) : (wtr x).en = x.en := by unfold wtr; split <;> rfl
theorem wtr_st (x : Tx) : (wtr x).st = x.st := by unfold wtr; split <;> rfl
theorem rdr_fit {c n : Int} {x : Tx} (h : fit c n x) : fit c n (rdr x) := by unfold fit at *; rw [rdr_id, rdr_en, rdr_st]; exact h
theorem wtr_fit {c n : Int} {x : Tx} (h : fit c n x) : fit c n (wtr x) := by unfold fit at *; rw [wtr_id, wtr_en, wtr_st]; exact h
theorem edge_ok {s : St} {r v : Int} (h : (edgeR s r v).2.2 = 0) : s.chk = 0 ∧ ∃ i x j y, at? r s.l = some (i, x) ∧ at? v s.l = some (j, y) ∧ ((edgeR s r v = (s, [], 0)) ∨ (i ≠ j ∧ apart x y = false ∧ edgeR s r v = (⟨(s.l.set i (rdr x)).set j (wtr y), s.clk, s.nxt⟩, (if giveR x y then [r] else []) ++ (if giveW x y then [v] else []), 0))) := by
  unfold edgeR at h ⊢
  by_cases c : s.chk = 0
  · rw [if_neg (by simpa using c)] at h ⊢
    cases ha : at? r s.l with
    | none => rw [ha] at h; simp at h
    | some p =>
      cases hb : at? v s.l with
      | none => rw [ha, hb] at h; simp at h
      | some q =>
        obtain ⟨i, x⟩ := p
        obtain ⟨j, y⟩ := q
        refine ⟨c, i, x, j, y, rfl, rfl, ?_⟩
        dsimp only
        by_cases e : i = j ∨ apart x y = true
        · rw [if_pos e]; exact .inl rfl
        · rw [if_neg e]
          refine .inr ⟨fun h => e (.inl h), by simpa using fun h => e (.inr h), rfl⟩
  · rw [if_pos c] at h
    exact absurd h c
theorem edge_chk {s : St} {r v : Int} (h : (edgeR s r v).2.2 = 0) : (edgeR s r v).1.chk = 0 := by
  obtain ⟨c, i, x, j, y, ha, hb, e | ⟨hij, hap, e⟩⟩ := edge_ok h
  · rw [e]; exact c
  · rw [e]
    have hx := at_some ha
    have hy := at_some hb
    have k := (chk_iff _ _ _).1 c
    have c1 : (St.mk (s.l.set i (rdr x)) s.clk s.nxt).chk = 0 := set_chk c hx.1 (rdr_id x) (Int.le_refl _) k.2.2.1 (rdr_fit (chk_fit c x (List.mem_of_getElem? hx.1))) (fun _ => .inl (rdr_en x)) (.inl (rdr_en x))
    have hy1 : (s.l.set i (rdr x))[j]? = some y := by rw [List.getElem?_set_ne hij]; exact hy.1
    exact set_chk (s := ⟨s.l.set i (rdr x), s.clk, s.nxt⟩) c1 hy1 (wtr_id y) (Int.le_refl _) k.2.2.1 (wtr_fit (chk_fit c y (List.mem_of_getElem? hy.1))) (fun _ => .inl (wtr_en y)) (.inl (wtr_en y))
theorem retire_ok {s : St} (c : s.chk = 0) : retireR s = (⟨s.l.filter (fun t => !gone (hor s.clk s.l) t), s.clk, s.nxt⟩, (s.l.filter (gone (hor s.clk s.l))).map (·.id), 0) := by
  unfold retireR; rw [if_neg (by simpa using c)]
theorem retire_chk {s : St} (c : s.chk = 0) : (retireR s).1.chk = 0 := by
  rw [retire_ok c]
  obtain ⟨k1, k2, k3, k4, k5, k6, k7⟩ := (chk_iff _ _ _).1 c
  exact chk_of (Nat.le_trans (List.length_filter_le _ _) k1) k2 k3 k4 k5 (fun t ht => k6 t (List.mem_filter.1 ht).1) (k7.filter _)
theorem retire_bad {s : St} (c : s.chk ≠ 0) : retireR s = (St.zero, [], s.chk) := by
  unfold retireR; rw [if_pos c]
/-- The horizon is not behind an active one's start. -/
theorem hor_le : ∀ (l : List Tx) (n : Int), hor n l ≤ n ∧ ∀ t ∈ l, t.en = 0 → hor n l ≤ t.st
  | [], n => ⟨by unfold hor; omega, fun t h => by cases h⟩
  | u :: l, n => by
    have e : hor n (u :: l) = hor (if u.en = 0 then min n u.st else n) l := by conv => lhs; unfold hor
    rw [e]
    have ih := hor_le l (if u.en = 0 then min n u.st else n)
    refine ⟨?_, fun t ht h0 => ?_⟩
    · have := ih.1; split at this <;> omega
    · rcases List.mem_cons.1 ht with rfl | ht
      · have := ih.1; rw [if_pos h0] at this ⊢; omega
      · exact ih.2 t ht h0
theorem filter_two (p : Tx → Bool) : ∀ l : List Tx, (l.filter (fun t => !p t)).length + (l.filter p).length = l.length
  | [] => rfl
  | a :: l => by
    have := filter_two p l
    by_cases h : p a = true <;> simp [h] <;> omega
end Go.Proofs.Ytdajginkipaghaa
