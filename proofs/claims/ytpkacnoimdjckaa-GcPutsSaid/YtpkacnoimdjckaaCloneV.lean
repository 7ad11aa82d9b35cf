/- slices.Clone of texts, of slices of versions. -/
import Derived.Test.YtpkacnoimdjckaaInsR
import Derived.Test.YtpkacnoimdjckaaSwW
namespace Go.Proofs.Ytpkacnoimdjckaa
open Go.RowKit
open Go.Shelf
set_option linter.unusedVariables false
set_option linter.unusedSimpArgs false
def encV (v : Value) : List Value := [v]
theorem encV_len (v : Value) : (encV v).length = 1 := rfl
theorem flat_encV : ∀ l : List Value, l.flatMap encV = l
  | [] => rfl
  | a :: l => by rw [List.flatMap_cons, flat_encV l]; rfl
theorem flat_encS : ∀ l : List ByteArray, l.flatMap encS = l.map .string
  | [] => rfl
  | a :: l => by rw [List.flatMap_cons, flat_encS l]; rfl
theorem row_keys {w : World} {A : Option Addr} {ks : List ByteArray} (h : RowE encS 1 w A ks) : RowE encV 1 w A (ks.map .string) := fun i x hi => by
  rw [List.getElem?_map] at hi
  obtain ⟨k, hk, rfl⟩ := Option.map_eq_some_iff.1 hi
  obtain ⟨b, off, rfl, hlt, hc⟩ := h i k hk
  refine ⟨b, off, rfl, hlt, fun i x hi j v hv => ?_⟩
  rw [List.getElem?_map] at hi
  obtain ⟨k, hk, rfl⟩ := Option.map_eq_some_iff.1 hi
  exact hc i k hk j v hv
/-- The slices themselves, out of a row of them. -/
theorem row_vals {w : World} {A : Option Addr} : ∀ {ls : List (List Ver)}, RowL w A ls → ∃ vs : List Value, vs.length = ls.length ∧ RowE encV 1 w A vs ∧ ∀ (i : Nat) (l : List Ver), ls[i]? = some l → ∃ v, vs[i]? = some v ∧ SlE encVer 4 w v l := fun {ls} h => by
  cases ls with
  | nil => exact ⟨[], rfl, RowE.nil, fun i l h => by simp at h⟩
  | cons l0 ls =>
    obtain ⟨b, off, v0, rfl, hlt, _, _⟩ := h 0 l0 rfl
    have key : ∀ (i : Nat) (l : List Ver), (l0 :: ls)[i]? = some l → ∃ v, w.cell? ⟨b, off + i, none⟩ = some v ∧ SlE encVer 4 w v l := fun i l hi => by
      obtain ⟨b', off', v, e, _, hc, hs⟩ := h i l hi
      obtain ⟨rfl, rfl⟩ : b = b' ∧ off = off' := by simpa using e
      exact ⟨v, hc, hs⟩
    refine ⟨(List.range (l0 :: ls).length).map (fun i => (w.cell? ⟨b, off + i, none⟩).getD undef), by simp, fun i x hi => ⟨b, off, rfl, hlt, fun i x hi j v hv => ?_⟩, fun i l hi => ?_⟩
    · rw [List.getElem?_map] at hi
      obtain ⟨k, hk, rfl⟩ := Option.map_eq_some_iff.1 hi
      have hk2 := lt_of_get hk
      rw [List.length_range] at hk2
      rw [List.getElem?_range hk2] at hk
      obtain rfl := Option.some.inj hk
      obtain ⟨u, hu, _⟩ := key i _ (List.getElem?_eq_getElem hk2)
      rw [hu] at hv
      match j, hv with
      | 0, hv =>
        have e : u = v := by simpa [encV] using hv
        rw [Nat.mul_one, Nat.add_zero, hu, e]
      | j + 1, hv => simp [encV] at hv
    · obtain ⟨u, hu, hs⟩ := key i l hi
      refine ⟨u, ?_, hs⟩
      rw [List.getElem?_map, List.getElem?_range (lt_of_get hi)]
      simp [hu]
set_option maxHeartbeats 2000000 in
set_option maxRecDepth 100000 in
/-- Clone, as a row of the call's own. -/
theorem cloneS_own (A : Option Addr) (c : Nat) (l : List Value) (w : World) (h1 : ∀ u ∈ l, u.oneCell' = true) (HA : RowE encV 1 w A l) (hn : A = none → c = 0) (hl : l.length ≤ 2048) :
    Calls Try.prog 46 #[.slice A l.length c] w fun e w' => ∃ v, e = .returned v ∧ w'.ownsRow w.heap.size 9 1 v l.length l ∧ Below w.heap.size w w' := by
  obtain ⟨i0, hi, hz0, hz1, hz2⟩ := infoS
  have q22 : ∀ (w : World) (a : Option Addr) (n c n' c' : Nat), (binOp .eql 22 (.slice a n c) (.slice none n' c')).run Try.prog w = .ok (.bool a.isNone) w := fun w a n c n' c' => Lib.run_eql_slice_nil w _ _ a n c n' c' Try.underlying22
  cases A with
  | none =>
    have h0 : l = [] := by
      cases l with
      | nil => rfl
      | cons a l => obtain ⟨b, off, h, _⟩ := HA 0 a rfl; cases h
    subst h0
    obtain rfl := hn rfl
    go_enter Try.func46, Try.ntmps46
    go_wp2
    go_ret
    exact ⟨_, rfl, World.ownsRow_nil _ _ _ _, Below.refl _ _⟩
  | some ad =>
    have HC : Hid (∀ j u, (l)[j]? = some u → w.cell? (ad.add j) = some u) := Lib.hid (fun j u hu => by
      by_cases h0 : l = []
      · subst h0; simp at hu
      · obtain ⟨b, off, hA, hlt, hc⟩ := HA.cells encV_len (by decide) h0
        rw [flat_encV] at hc
        obtain rfl : ad = ⟨b, off, none⟩ := Option.some.inj hA
        rw [Addr.add_lit]; exact hc j u hu)
    clear HA
    go_enter Try.func46, Try.ntmps46
    go_wp2_with (at_builtin; refine wpList_append_own _ rfl _ _ 22 rfl w.heap.size 9 i0 (.string ⟨#[]⟩) 1 16 Try.underlying22 hi hz0 hz1 hz2 rfl (by decide) _ _ _ rfl (World.ownsRow_made w #[] 0 (Nat.le_refl _) (Nat.zero_le _) (by simp)) ad l.length c (l) rfl ?c1 ?c2 ?c3 ?c4 ?c5 ?c6 ?_)
    case c1 => rw [Nat.mul_one]
    case c2 =>
      intro j u hj
      have := HC.out j u hj
      exact (((Below.refl w.heap.size w).alloc (Nat.le_refl _) _).cell (World.block_lt_of_cell? _ _ this)).trans this
    case c3 => exact h1
    case c4 => unfold maxLen; omega
    case c5 => omega
    case c6 => simp
    intro v' w1 hown hgrow hnil
    go_wp2
    go_ret
    refine ⟨v', rfl, by simpa using hown, ?_⟩
    exact ((Below.refl _ w).alloc (Nat.le_refl _) _).grown hgrow (by simp) (by intro k hk; simp [Value.ownBlock] at hk; omega)
set_option maxHeartbeats 2000000 in
set_option maxRecDepth 100000 in
/-- Clone, as a row of the call's own. -/
theorem cloneR_own (A : Option Addr) (c : Nat) (l : List Value) (w : World) (h1 : ∀ u ∈ l, u.oneCell' = true) (HA : RowE encV 1 w A l) (hn : A = none → c = 0) (hl : l.length ≤ 2048) :
    Calls Try.prog 47 #[.slice A l.length c] w fun e w' => ∃ v, e = .returned v ∧ w'.ownsRow w.heap.size 44 1 v l.length l ∧ Below w.heap.size w w' := by
  obtain ⟨i0, hi, hz0, hz1, hz2⟩ := infoR
  have q22 : ∀ (w : World) (a : Option Addr) (n c n' c' : Nat), (binOp .eql 26 (.slice a n c) (.slice none n' c')).run Try.prog w = .ok (.bool a.isNone) w := fun w a n c n' c' => Lib.run_eql_slice_nil w _ _ a n c n' c' Try.underlying26
  cases A with
  | none =>
    have h0 : l = [] := by
      cases l with
      | nil => rfl
      | cons a l => obtain ⟨b, off, h, _⟩ := HA 0 a rfl; cases h
    subst h0
    obtain rfl := hn rfl
    go_enter Try.func47, Try.ntmps47
    go_wp2
    go_ret
    exact ⟨_, rfl, World.ownsRow_nil _ _ _ _, Below.refl _ _⟩
  | some ad =>
    have HC : Hid (∀ j u, (l)[j]? = some u → w.cell? (ad.add j) = some u) := Lib.hid (fun j u hu => by
      by_cases h0 : l = []
      · subst h0; simp at hu
      · obtain ⟨b, off, hA, hlt, hc⟩ := HA.cells encV_len (by decide) h0
        rw [flat_encV] at hc
        obtain rfl : ad = ⟨b, off, none⟩ := Option.some.inj hA
        rw [Addr.add_lit]; exact hc j u hu)
    clear HA
    go_enter Try.func47, Try.ntmps47
    go_wp2_with (at_builtin; refine wpList_append_own _ rfl _ _ 26 rfl w.heap.size 44 i0 (.slice none 0 0) 1 24 Try.underlying26 hi hz0 hz1 hz2 rfl (by decide) _ _ _ rfl (World.ownsRow_made w #[] 0 (Nat.le_refl _) (Nat.zero_le _) (by simp)) ad l.length c (l) rfl ?c1 ?c2 ?c3 ?c4 ?c5 ?c6 ?_)
    case c1 => rw [Nat.mul_one]
    case c2 =>
      intro j u hj
      have := HC.out j u hj
      exact (((Below.refl w.heap.size w).alloc (Nat.le_refl _) _).cell (World.block_lt_of_cell? _ _ this)).trans this
    case c3 => exact h1
    case c4 => unfold maxLen; omega
    case c5 => omega
    case c6 => simp
    intro v' w1 hown hgrow hnil
    go_wp2
    go_ret
    refine ⟨v', rfl, by simpa using hown, ?_⟩
    exact ((Below.refl _ w).alloc (Nat.le_refl _) _).grown hgrow (by simp) (by intro k hk; simp [Value.ownBlock] at hk; omega)
end Go.Proofs.Ytpkacnoimdjckaa
