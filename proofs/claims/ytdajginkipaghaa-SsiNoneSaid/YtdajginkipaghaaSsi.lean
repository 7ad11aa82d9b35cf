/- The transactions of layer 17, in plain Lean. -/
import Derived.WalkKit

namespace Go.Proofs.Ytdajginkipaghaa
open Go.RowKit
set_option linter.unusedVariables false
set_option linter.unusedSimpArgs false
structure Tx where
  id : Int
  st : Int
  en : Int
  inn : Bool
  out : Bool
def encT (t : Tx) : List Value := [.int .i64 t.id, .int .i64 t.st, .int .i64 t.en, .bool t.inn, .bool t.out]
theorem encT_len (x : Tx) : (encT x).length = 5 := rfl
theorem encT_one : ∀ (l : List Tx), ∀ u ∈ l.flatMap encT, u.oneCell' = true := fun l u hu => by
  obtain ⟨x, _, hx⟩ := List.mem_flatMap.1 hu
  simp [encT] at hx
  rcases hx with rfl | rfl | rfl | rfl | rfl <;> rfl
def okT (clk nxt last : Int) (es : List Int) (t : Tx) : Bool := decide (last < t.id) && decide (t.id < nxt) && decide (0 ≤ t.st) && decide (t.st ≤ clk) && decide (-1 ≤ t.en) && decide (t.en ≤ clk) && !(decide (0 < t.en) && (decide (t.en ≤ t.st) || decide (t.en ∈ es)))
def chkFrom (clk nxt : Int) : Int → List Int → List Tx → Bool
  | _, _, [] => true
  | last, es, t :: l => okT clk nxt last es t && chkFrom clk nxt t.id (t.en :: es) l
theorem chkFrom_cons (clk nxt last : Int) (es : List Int) (t : Tx) (l : List Tx) : chkFrom clk nxt last es (t :: l) = (okT clk nxt last es t && chkFrom clk nxt t.id (t.en :: es) l) := by conv => lhs; unfold chkFrom
def chk (l : List Tx) (clk nxt : Int) : Int := if 64 < l.length ∨ clk < 0 ∨ 1099511627776 < clk ∨ nxt < 1 ∨ 1099511627776 < nxt then 9 else if chkFrom clk nxt 0 [] l then 0 else 9
theorem chk_or (l : List Tx) (clk nxt : Int) : chk l clk nxt = 0 ∨ chk l clk nxt = 9 := by unfold chk; (repeat' split) <;> simp
/-- One may be, by itself. -/
def fit (clk nxt : Int) (t : Tx) : Prop := 0 < t.id ∧ t.id < nxt ∧ 0 ≤ t.st ∧ t.st ≤ clk ∧ -1 ≤ t.en ∧ t.en ≤ clk ∧ (0 < t.en → t.st < t.en)
/-- .. and two, the one ahead of the other. -/
def two (a b : Tx) : Prop := a.id < b.id ∧ (0 < b.en → a.en ≠ b.en)
theorem okT_iff (clk nxt last : Int) (es : List Int) (t : Tx) (hl : 0 ≤ last) : okT clk nxt last es t = true ↔ (last < t.id ∧ fit clk nxt t ∧ (0 < t.en → t.en ∉ es)) := by
  unfold okT fit
  simp only [Bool.and_eq_true, Bool.not_eq_true', Bool.and_eq_false_iff, Bool.or_eq_false_iff, decide_eq_true_eq, decide_eq_false_iff_not]
  constructor
  · rintro ⟨⟨⟨⟨⟨⟨h1, h2⟩, h3⟩, h4⟩, h5⟩, h6⟩, h7⟩
    refine ⟨h1, ⟨by omega, h2, h3, h4, h5, h6, fun h => ?_⟩, fun h => ?_⟩
    · rcases h7 with h7 | ⟨h7, _⟩ <;> omega
    · rcases h7 with h7 | ⟨_, h7⟩
      · omega
      · exact h7
  · rintro ⟨h1, ⟨h0, h2, h3, h4, h5, h6, h7⟩, h8⟩
    refine ⟨⟨⟨⟨⟨⟨h1, h2⟩, h3⟩, h4⟩, h5⟩, h6⟩, ?_⟩
    by_cases h : 0 < t.en
    · right; exact ⟨by have := h7 h; omega, h8 h⟩
    · left; exact h
theorem chkFrom_iff (clk nxt : Int) : ∀ (l : List Tx) (last : Int) (es : List Int), 0 ≤ last → (chkFrom clk nxt last es l = true ↔ ((∀ t ∈ l, last < t.id ∧ fit clk nxt t ∧ (0 < t.en → t.en ∉ es)) ∧ l.Pairwise two))
  | [], last, es, hl => by simp [chkFrom]
  | t :: l, last, es, hl => by
    rw [chkFrom_cons, Bool.and_eq_true, okT_iff clk nxt last es t hl]
    constructor
    · rintro ⟨⟨h1, h2, h3⟩, h4⟩
      obtain ⟨g1, g2⟩ := (chkFrom_iff clk nxt l t.id (t.en :: es) (by omega)).1 h4
      refine ⟨?_, List.pairwise_cons.2 ⟨fun u hu => ?_, g2⟩⟩
      · intro u hu
        rcases List.mem_cons.1 hu with rfl | hu
        · exact ⟨h1, h2, h3⟩
        · obtain ⟨k1, k2, k3⟩ := g1 u hu
          exact ⟨by omega, k2, fun h => fun m => k3 h (List.mem_cons_of_mem _ m)⟩
      · obtain ⟨k1, k2, k3⟩ := g1 u hu
        exact ⟨k1, fun h e => k3 h (by rw [← e]; simp)⟩
    · rintro ⟨h1, h2⟩
      obtain ⟨p1, p2⟩ := List.pairwise_cons.1 h2
      have h0 := h1 t (by simp)
      refine ⟨h0, (chkFrom_iff clk nxt l t.id (t.en :: es) (by omega)).2 ⟨fun u hu => ?_, p2⟩⟩
      obtain ⟨k1, k2, k3⟩ := h1 u (by simp [hu])
      obtain ⟨q1, q2⟩ := p1 u hu
      refine ⟨q1, k2, fun h m => ?_⟩
      rcases List.mem_cons.1 m with m | m
      · exact q2 h m.symm
      · exact k3 h m
theorem chk_iff (l : List Tx) (clk nxt : Int) : chk l clk nxt = 0 ↔ (l.length ≤ 64 ∧ 0 ≤ clk ∧ clk ≤ 1099511627776 ∧ 1 ≤ nxt ∧ nxt ≤ 1099511627776 ∧ (∀ t ∈ l, fit clk nxt t) ∧ l.Pairwise two) := by
  unfold chk
  constructor
  · intro h
    split at h
    · cases h
    · rename_i q
      split at h
      · rename_i r
        obtain ⟨g1, g2⟩ := (chkFrom_iff clk nxt l 0 [] (Int.le_refl _)).1 r
        exact ⟨by omega, by omega, by omega, by omega, by omega, fun t ht => (g1 t ht).2.1, g2⟩
      · cases h
  · rintro ⟨h1, h2, h3, h4, h5, h6, h7⟩
    rw [if_neg (by omega), if_pos ((chkFrom_iff clk nxt l 0 [] (Int.le_refl _)).2 ⟨fun t ht => ⟨(h6 t ht).1, h6 t ht, fun _ => by simp⟩, h7⟩)]
/-- Where an id stands. -/
def at? (id : Int) : List Tx → Option (Nat × Tx)
  | [] => none
  | t :: l => if t.id = id then some (0, t) else (at? id l).map (fun p => (p.1 + 1, p.2))
theorem at_cons (id : Int) (t : Tx) (l : List Tx) : at? id (t :: l) = if t.id = id then some (0, t) else (at? id l).map (fun p => (p.1 + 1, p.2)) := by conv => lhs; unfold at?
theorem at_none {id : Int} : ∀ {l : List Tx}, at? id l = none → ∀ t ∈ l, t.id ≠ id
  | [], _, t, h => by cases h
  | u :: l, h, t, ht => by
    rw [at_cons] at h
    split at h
    · cases h
    · rename_i q
      rcases List.mem_cons.1 ht with rfl | ht
      · exact q
      · exact at_none (by simpa using h) t ht
theorem at_some {id : Int} : ∀ {l : List Tx} {i : Nat} {x : Tx}, at? id l = some (i, x) → l[i]? = some x ∧ x.id = id
  | [], i, x, h => by cases h
  | u :: l, i, x, h => by
    rw [at_cons] at h
    split at h
    · rename_i q
      obtain ⟨rfl, rfl⟩ : 0 = i ∧ u = x := by simpa using h
      exact ⟨rfl, q⟩
    · obtain ⟨p, hp, he⟩ := Option.map_eq_some_iff.1 h
      obtain ⟨rfl, rfl⟩ : p.1 + 1 = i ∧ p.2 = x := by simpa using he
      have := at_some (l := l) (i := p.1) (x := p.2) hp
      exact ⟨by simpa using this.1, this.2⟩
theorem sorted_get {l : List Tx} (h : l.Pairwise two) {i j : Nat} {x y : Tx} (hi : l[i]? = some x) (hj : l[j]? = some y) (hij : i < j) : two x y := by
  obtain ⟨hi1, rfl⟩ := List.getElem?_eq_some_iff.1 hi
  obtain ⟨hj1, rfl⟩ := List.getElem?_eq_some_iff.1 hj
  exact List.pairwise_iff_getElem.1 h i j hi1 hj1 hij
end Go.Proofs.Ytdajginkipaghaa
