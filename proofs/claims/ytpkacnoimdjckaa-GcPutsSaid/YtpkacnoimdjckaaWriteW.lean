/- Package version: open, Write, Undo, Commit; the laws' Alike. -/
import Derived.Test.YtpkacnoimdjckaaIns
import Derived.Laws.OwnMore
import Derived.BigQuiet
namespace Go.Proofs.Ytpkacnoimdjckaa
open Go.RowKit
open Go.Shelf
set_option linter.unusedVariables false
set_option linter.unusedSimpArgs false
def openB (tx : Int) : List Ver → Bool
  | [] => false
  | v :: _ => v.st == 0 && v.tx == tx
def clash (snap : Int) : List Ver → Bool
  | [] => false
  | v :: _ => v.st == 0 || decide (snap < v.st)
def write (snap tx : Int) (gone : Bool) (val : ByteArray) (l : List Ver) : List Ver × Int :=
  if chk l ≠ 0 then ([], chk l)
  else if tx < 1 ∨ 1099511627776 < tx then ([], 4)
  else if (4096 : Int) < val.size ∨ (gone = true ∧ val.toList.isEmpty = false) then ([], 5)
  else if openB tx l = true then (⟨0, tx, gone, val⟩ :: l.tail, 0)
  else if clash snap l = true then ([], 95)
  else if l.length = 64 then ([], 51) else (⟨0, tx, gone, val⟩ :: l, 0)
set_option maxHeartbeats 2000000 in
set_option maxRecDepth 100000 in
theorem open_any (A : Option Addr) (c : Nat) (l : List Ver) (tx : Int) (w : World) (HR : RowE encVer 4 w A l) :
    Calls Try.prog 51 #[.slice A l.length c, .int .i64 tx] w fun e w' => e = .returned (.bool (openB tx l)) ∧ w = w' := by
  cases l with
  | nil =>
    go_enter Try.func51, Try.ntmps51
    go_wp2
    go_ret
    exact ⟨rfl, rfl⟩
  | cons x m =>
    obtain ⟨b0, off, rfl, hb0, g0, g1, g2, g3⟩ := HR.four (j := 0) (x := x) (B := 0) rfl (Below.refl _ _)
    obtain ⟨st, tx', g, val⟩ := x
    simp only [Nat.zero_mul, Nat.add_zero] at g0 g1 g2 g3
    have hp : (0 : Int) < ((m.length + 1 : Nat) : Int) := by omega
    have hp2 : (0 : Int) < (m.length : Int) + 1 := by omega
    simp only [List.length_cons]
    go_enter Try.func51, Try.ntmps51
    go_wp2
    all_goals (go_ret; exact ⟨ret_bool (by simp_all [openB]), rfl⟩)
set_option maxHeartbeats 2000000 in
set_option maxRecDepth 100000 in
/-- Clone, as a row of the call's own. -/
theorem clone_own (A : Option Addr) (c : Nat) (l : List Ver) (w : World) (HA : RowE encVer 4 w A l) (hn : A = none → c = 0) (hl : l.length ≤ 1000) :
    Calls Try.prog 48 #[.slice A l.length c] w fun e w' => ∃ v, e = .returned v ∧ w'.ownsRow w.heap.size 45 4 v l.length (l.flatMap encVer) ∧ Below w.heap.size w w' := by
  obtain ⟨i0, hi, hz0, hz1, hz2⟩ := infoVer
  have q22 : ∀ (w : World) (a : Option Addr) (n c n' c' : Nat), (binOp .eql 44 (.slice a n c) (.slice none n' c')).run Try.prog w = .ok (.bool a.isNone) w := fun w a n c n' c' => Lib.run_eql_slice_nil w _ _ a n c n' c' Try.underlying44
  cases A with
  | none =>
    have h0 : l = [] := by
      cases l with
      | nil => rfl
      | cons a l => obtain ⟨b, off, h, _⟩ := HA 0 a rfl; cases h
    subst h0
    obtain rfl := hn rfl
    go_enter Try.func48, Try.ntmps48
    go_wp2
    go_ret
    exact ⟨_, rfl, World.ownsRow_nil _ _ _ _, Below.refl _ _⟩
  | some ad =>
    have HC : Hid (∀ j u, (l.flatMap encVer)[j]? = some u → w.cell? (ad.add j) = some u) := Lib.hid (fun j u hu => by
      by_cases h0 : l = []
      · subst h0; simp at hu
      · obtain ⟨b, off, hA, hlt, hc⟩ := HA.cells encVer_len (by decide) h0
        obtain rfl : ad = ⟨b, off, none⟩ := Option.some.inj hA
        rw [Addr.add_lit]; exact hc j u hu)
    clear HA
    go_enter Try.func48, Try.ntmps48
    go_wp2_with (at_builtin; refine wpList_append_own _ rfl _ _ 44 rfl w.heap.size 45 i0 (.agg #[.int .i64 0, .int .i64 0, .bool false, .string ⟨#[]⟩]) 4 40 Try.underlying44 hi hz0 hz1 hz2 rfl (by decide) _ _ _ rfl (World.ownsRow_made w #[] 0 (Nat.le_refl _) (Nat.zero_le _) (by simp)) ad l.length c (l.flatMap encVer) rfl ?c1 ?c2 ?c3 ?c4 ?c5 ?c6 ?_)
    case c1 => exact flat_len encVer_len l
    case c2 =>
      intro j u hj
      have := HC.out j u hj
      exact (((Below.refl w.heap.size w).alloc (Nat.le_refl _) _).cell (World.block_lt_of_cell? _ _ this)).trans this
    case c3 => exact encVer_one l
    case c4 => unfold maxLen; omega
    case c5 => omega
    case c6 => simp
    intro v' w1 hown hgrow hnil
    go_wp2
    go_ret
    refine ⟨v', rfl, by simpa using hown, ?_⟩
    exact ((Below.refl _ w).alloc (Nat.le_refl _) _).grown hgrow (by simp) (by intro k hk; simp [Value.ownBlock] at hk; omega)
end Go.Proofs.Ytpkacnoimdjckaa
