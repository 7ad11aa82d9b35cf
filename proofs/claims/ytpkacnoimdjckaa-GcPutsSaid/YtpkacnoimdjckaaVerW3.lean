/- Package version: Prune; the laws' own copy of a chain. -/
import Derived.Test.YtpkacnoimdjckaaVerW2
namespace Go.Proofs.Ytpkacnoimdjckaa
open Go.RowKit
open Go.Shelf
set_option linter.unusedVariables false
set_option linter.unusedSimpArgs false
def pruneR (h : Int) (l : List Ver) : List Ver := if chk l = 0 then prune h l else []
set_option maxHeartbeats 4000000 in
set_option maxRecDepth 100000 in
theorem prune_any (A : Option Addr) (c : Nat) (l : List Ver) (h : Int) (w : World) (HR : RowE encVer 4 w A l) (hn : A = none → c = 0) (hcap : l.length ≤ c) :
    Calls Try.prog 38 #[.slice A l.length c, .int .i64 h] w fun e w' => ∃ v, e = .returned (.tuple #[v, .int .i64 (chk l)]) ∧ SlV w.heap.size w' v (pruneR h l) ∧ Below w.heap.size w w' := by
  by_cases h0 : chk l = 0
  · have hlen := chk_len h0
    have e : pruneR h l = prune h l := by unfold pruneR; rw [if_pos h0]
    rw [e, h0]
    clear e
    have ba : Below w.heap.size w (w.alloc (.cells #[.int .i64 h] 3)) := (Below.refl _ w).alloc (Nat.le_refl _) _
    have hc := check_any A c l _ (HR.below ba)
    rw [h0] at hc
    go_enter Try.func38, Try.ntmps38
    go_wp2_with fail
    refine hc.mono ?_; rintro e w1 ⟨rfl, h1⟩
    have p0 : w1.cell? ⟨w.heap.size, 0, none⟩ = some (.int .i64 h) := (h1.cell (by simp)).trans (by go_simp)
    have hB1 : Below w.heap.size w w1 := ba.trans (h1.mono (by simp))
    clear h1 ba hc
    go_wp2_with fail
    refine (indexOld_any A c l h w.heap.size w1 (HR.below hB1) p0 (by omega)).mono ?_; rintro e w2 ⟨rfl, h2⟩
    have hB2 : Below w.heap.size w w2 := hB1.trans (h2.mono hB1.size)
    clear h2 hB1 p0
    have i1 := idx_ge (old h) l
    have i2 := idx_lt (old h) l
    have PN := Lib.hid (prune_none h l)
    have PS := Lib.hid (prune_some h l)
    generalize idx (old h) l = k at *
    by_cases hk : k < 0
    · have e1 := Lib.hid (PN.out hk)
      go_wp2_with (go_at_call 48; refine (clone_any A c l _ (HR.below hB2) hn (by omega)).mono ?_; rintro e w3 ⟨v, rfl, hs, h3⟩)
      go_ret2
      exact ⟨v, rfl, by rw [e1.out]; exact hs.mono hB2.size, hB2.trans (h3.mono hB2.size)⟩
    · obtain ⟨i, rfl⟩ : ∃ i : Nat, k = i := ⟨k.toNat, by omega⟩
      obtain ⟨x, hx⟩ : ∃ x, l[i]? = some x := ⟨_, List.getElem?_eq_getElem (by omega)⟩
      obtain ⟨b0, off, rfl, hb0, g0, g1, g2, g3⟩ := HR.four (B := 0) hx hB2
      have e1 := Lib.hid (PS.out i x rfl hx)
      have HR2 := HR.below hB2
      obtain ⟨st, tx', g, val⟩ := x
      dsimp only at g0 g1 g2 g3
      clear PN PS hx g0 g1 g3
      have j1 : (i : Int) < (l.length : Int) := by omega
      cases g with
      | true =>
        have hcl := fun W => clone_any (some ⟨b0, off, none⟩) c (l.take i) W
        have hln : (l.take i).length = i := by rw [List.length_take]; omega
        rw [hln] at hcl
        have HT := HR2.take i
        have e2 : Hid (prune h l = l.take i) := Lib.hid (by have := e1.out; simpa using this)
        generalize l.take i = m at *
        go_wp2_with (go_at_call 48; refine (hcl _ HT (fun h => by cases h) (by omega)).mono ?_; rintro e w3 ⟨v, rfl, hs, h3⟩)
        go_ret2
        exact ⟨v, rfl, by rw [e2.out]; exact hs.mono hB2.size, hB2.trans (h3.mono hB2.size)⟩
      | false =>
        have hcl := fun W => clone_any (some ⟨b0, off, none⟩) c (l.take (i + 1)) W
        have hln : (l.take (i + 1)).length = i + 1 := by rw [List.length_take]; omega
        rw [hln] at hcl
        have HT := HR2.take (i + 1)
        have e2 : Hid (prune h l = l.take (i + 1)) := Lib.hid (by have := e1.out; simpa using this)
        generalize l.take (i + 1) = m at *
        go_wp2_with (go_at_call 48; refine (hcl _ HT (fun h => by cases h) (by omega)).mono ?_; rintro e w3 ⟨v, rfl, hs, h3⟩)
        go_ret2
        exact ⟨v, rfl, by rw [e2.out]; exact hs.mono hB2.size, hB2.trans (h3.mono hB2.size)⟩
  · have e : pruneR h l = [] := by unfold pruneR; rw [if_neg h0]
    rw [e]
    clear e
    have ba : Below w.heap.size w (w.alloc (.cells #[.int .i64 h] 3)) := (Below.refl _ w).alloc (Nat.le_refl _) _
    have hc := check_any A c l _ (HR.below ba)
    generalize chk l = k at *
    go_enter Try.func38, Try.ntmps38
    go_wp2_with (go_at_call 41; refine hc.mono ?_; rintro e w1 ⟨rfl, h1⟩)
    go_ret2
    exact ⟨.slice none 0 0, rfl, SlB.nil _, ba.trans (h1.mono (by simp))⟩
set_option maxHeartbeats 4000000 in
set_option maxRecDepth 100000 in
theorem of_any (A : Option Addr) (c : Nat) (l : List Ver) (w : World) (HR : RowE encVer 4 w A l) (hl : l.length * 40 ≤ 140737488351232) :
    Calls Try.prog 24 #[.slice A l.length c] w fun e w' => ∃ v, e = .returned v ∧ SlV w.heap.size w' v l ∧ Below w.heap.size w w' := by
  obtain ⟨i0, hi, hz0, hz1, hz2⟩ := infoVer
  have HR' := Lib.hid HR
  clear HR
  go_enter Try.func24, Try.ntmps24
  go_wp2
  go_loopw [3, 4] (fun v i wr => ∃ j : Nat, j ≤ l.length ∧ i = .int .i64 j ∧ wr.ownsRow w.heap.size 45 4 v j ((l.take j).flatMap encVer) ∧ Below w.heap.size w wr) (fun _ i _ => l.length - (Lib.intOf i).toNat)
  case atStart => exact ⟨0, Nat.zero_le _, rfl, World.ownsRow_nil _ _ _ _, Below.refl _ _⟩
  case round =>
    obtain ⟨j, hj, rfl, hown, hbel⟩ := hrel
    by_cases hlt : j < l.length
    · obtain ⟨x, hx⟩ : ∃ x, l[j]? = some x := ⟨_, List.getElem?_eq_getElem hlt⟩
      obtain ⟨b0, off, rfl, hb0, g0, g1, g2, g3⟩ := HR'.out.four (B := 0) hx hbel
      have FS := Lib.hid (flat_snoc (enc := encVer) hx)
      obtain ⟨st, tx', g, val⟩ := x
      dsimp only at g0 g1 g2 g3
      have i1 : (j : Int) < (l.length : Int) := by omega
      clear hx
      go_wp2_with (at_builtin; refine wpList_append_own _ rfl _ _ 44 rfl w.heap.size 45 i0 (.agg #[.int .i64 0, .int .i64 0, .bool false, .string ⟨#[]⟩]) 4 40 Try.underlying44 hi hz0 hz1 hz2 rfl (by decide) _ _ _ rfl (hown.alloc _) ⟨wr.heap.size, 0, none⟩ 1 1 [.int .i64 st, .int .i64 tx', .bool g, .string val] rfl rfl ?c1 ?c2 ?c3 ?c4 ?c5 ?_)
      case c1 =>
        intro i u hu
        rw [Addr.add_lit]
        match i, hu with
        | 0, hu => simp at hu; subst hu; go_simp
        | 1, hu => simp at hu; subst hu; go_simp
        | 2, hu => simp at hu; subst hu; go_simp
        | 3, hu => simp at hu; subst hu; go_simp
      case c2 => intro u hu; simp at hu; rcases hu with rfl | rfl | rfl | rfl <;> rfl
      case c3 => unfold maxLen; omega
      case c4 => omega
      case c5 => have := hbel.size; simp; omega
      intro v' w1 hown' hgrow hnil
      have hb1 : Below w.heap.size w w1 := (hbel.alloc hbel.size _).grown hgrow (by have := hbel.size; simp; omega) (fun k hk => (hown.lt k hk).1)
      have hown2 : w1.ownsRow w.heap.size 45 4 v' (j + 1) ((l.take (j + 1)).flatMap encVer) := by rw [FS.out]; exact hown'
      clear hown hown' hgrow hnil g0 g1 g2 g3 FS
      go_wp2
      go_roundw
      case rel => exact ⟨j + 1, by omega, by go_num, hown2, hb1⟩
      case measure => simp [Lib.intOf]; omega
    · obtain rfl : j = l.length := by omega
      rw [List.take_length] at hown
      go_wp2
      go_ret
      exact ⟨_, rfl, SlV.of_own hown, hbel⟩
end Go.Proofs.Ytpkacnoimdjckaa
