/- slices.Clone of nodes. -/
import Derived.Test.YtkecbghnapjecaaInsN
namespace Go.Proofs.Ytkecbghnapjecaa
open Go.RowKit
set_option linter.unusedVariables false
set_option linter.unusedSimpArgs false
theorem encN_one (l : List Nat) : ∀ u ∈ l.flatMap encN, u.oneCell' = true := fun u hu => by
  obtain ⟨x, _, hx⟩ := List.mem_flatMap.1 hu
  simp [encN] at hx
  subst hx; rfl
set_option maxHeartbeats 2000000 in
set_option maxRecDepth 100000 in
/-- Clone, as a row of the call's own. -/
theorem cloneN_own (A : Option Addr) (c : Nat) (l : List Nat) (w : World) (HA : RowE encN 1 w A l) (hn : A = none → c = 0) (hl : l.length * 8 ≤ 140737488355328) :
    Calls Try.prog 50 #[.slice A l.length c] w fun e w' => ∃ v, e = .returned v ∧ w'.ownsRow w.heap.size 67 1 v l.length (l.flatMap encN) ∧ Below w.heap.size w w' := by
  obtain ⟨i0, hi, hz0, hz1, hz2⟩ := infoN
  have q22 : ∀ (w : World) (a : Option Addr) (n c n' c' : Nat), (binOp .eql 71 (.slice a n c) (.slice none n' c')).run Try.prog w = .ok (.bool a.isNone) w := fun w a n c n' c' => Lib.run_eql_slice_nil w _ _ a n c n' c' Try.underlying71
  cases A with
  | none =>
    have h0 : l = [] := by
      cases l with
      | nil => rfl
      | cons a l => obtain ⟨b, off, h, _⟩ := HA 0 a rfl; cases h
    subst h0
    obtain rfl := hn rfl
    go_enter Try.func50, Try.ntmps50
    go_wp2
    go_ret
    exact ⟨_, rfl, World.ownsRow_nil _ _ _ _, Below.refl _ _⟩
  | some ad =>
    have HC : Hid (∀ j u, (l.flatMap encN)[j]? = some u → w.cell? (ad.add j) = some u) := Lib.hid (fun j u hu => by
      by_cases h0 : l = []
      · subst h0; simp at hu
      · obtain ⟨b, off, hA, hlt, hc⟩ := HA.cells encN_len (by decide) h0
        obtain rfl : ad = ⟨b, off, none⟩ := Option.some.inj hA
        rw [Addr.add_lit]; exact hc j u hu)
    clear HA
    go_enter Try.func50, Try.ntmps50
    go_wp2_with (at_builtin; refine wpList_append_own _ rfl _ _ 71 rfl w.heap.size 67 i0 (.pointer none) 1 8 Try.underlying71 hi hz0 hz1 hz2 rfl (by decide) _ _ _ rfl (World.ownsRow_made w #[] 0 (Nat.le_refl _) (Nat.zero_le _) (by simp)) ad l.length c (l.flatMap encN) rfl ?c1 ?c2 ?c3 ?c4 ?c5 ?c6 ?_)
    case c1 => exact flat_len encN_len l
    case c2 =>
      intro j u hj
      have := HC.out j u hj
      exact (((Below.refl w.heap.size w).alloc (Nat.le_refl _) _).cell (World.block_lt_of_cell? _ _ this)).trans this
    case c3 => exact encN_one l
    case c4 => unfold maxLen; omega
    case c5 => omega
    case c6 => simp
    intro v' w1 hown hgrow hnil
    go_wp2
    go_ret
    refine ⟨v', rfl, by simpa using hown, ?_⟩
    exact ((Below.refl _ w).alloc (Nat.le_refl _) _).grown hgrow (by simp) (by intro k hk; simp [Value.ownBlock] at hk; omega)
end Go.Proofs.Ytkecbghnapjecaa
