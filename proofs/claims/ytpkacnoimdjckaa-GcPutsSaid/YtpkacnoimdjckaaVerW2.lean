/- Package version: See, Prune and what they call; the laws' own copy of a chain. -/
import Derived.Test.YtpkacnoimdjckaaVerW
import Derived.Laws.AppendOwnNone
import Derived.Lib.SliceRun
namespace Go.Proofs.Ytpkacnoimdjckaa
open Go.RowKit
open Go.Shelf
set_option linter.unusedVariables false
set_option linter.unusedSimpArgs false
def seeR (snap tx : Int) (l : List Ver) : ByteArray × Bool × Int × Int :=
  if chk l = 0 then (match see snap tx l with | some v => (v.val, !v.gone, v.st, 0) | none => (⟨#[]⟩, false, 0, 0)) else (⟨#[]⟩, false, 0, chk l)
theorem see_cons (snap tx : Int) (v : Ver) (l : List Ver) : see snap tx (v :: l) = if sees snap tx v then some v else see snap tx l := by conv => lhs; unfold see
set_option maxHeartbeats 4000000 in
set_option maxRecDepth 100000 in
theorem see_any (A : Option Addr) (c : Nat) (l : List Ver) (snap tx : Int) (w : World) (HR : RowE encVer 4 w A l) (hl : l.length ≤ 140737488355328) :
    Calls Try.prog 40 #[.slice A l.length c, .int .i64 snap, .int .i64 tx] w fun e w' => e = .returned (.tuple #[.string (seeR snap tx l).1, .bool (seeR snap tx l).2.1, .int .i64 (seeR snap tx l).2.2.1, .int .i64 (seeR snap tx l).2.2.2]) ∧ Below w.heap.size w w' := by
  by_cases h0 : chk l = 0
  · have e : seeR snap tx l = (match see snap tx l with | some v => (v.val, !v.gone, v.st, 0) | none => (⟨#[]⟩, false, 0, 0)) := by unfold seeR; rw [if_pos h0]
    have hc := check_any A c l w HR
    rw [h0] at hc
    have E1 := Lib.hid e
    have HR' := Lib.hid HR
    clear HR e h0
    go_enter Try.func40, Try.ntmps40
    go_wp2_with (go_at_call 41; refine hc.mono ?_; rintro e w1 ⟨rfl, h1⟩)
    clear hc
    go_loopw [20] (fun i wr => ∃ j : Nat, j ≤ l.length ∧ i = .int .i64 j ∧ Hid (see snap tx l = see snap tx (l.drop j)) ∧ Below w.heap.size w wr) (fun i _ => l.length - (Lib.intOf i).toNat)
    case atStart => exact ⟨0, Nat.zero_le _, rfl, Lib.hid (by simp), h1⟩
    case round =>
      obtain ⟨j, hj, rfl, HE, hbel⟩ := hrel
      by_cases hlt : j < l.length
      · obtain ⟨x, hx⟩ : ∃ x, l[j]? = some x := ⟨_, List.getElem?_eq_getElem hlt⟩
        obtain ⟨b0, off, rfl, hb0, g0, g1, g2, g3⟩ := HR'.out.four (B := 0) hx hbel
        have DX := drop_cons hx
        have HE2 : Hid (see snap tx l = if sees snap tx x then some x else see snap tx (l.drop (j + 1))) := Lib.hid (by rw [HE.out, DX, see_cons])
        clear HE DX hx
        obtain ⟨st, tx', g, val⟩ := x
        dsimp only at g0 g1 g2 g3
        have hB5 := hbel.alloc hbel.size (.cells #[.int .i64 st, .int .i64 tx', .bool g, .string val] 45)
        by_cases k0 : st = 0
        · subst k0
          by_cases k1 : tx' = tx
          · subst k1
            go_wp2_with fail
            go_quiet (fail)
            go_wp2
            refine bodyPost_ret (v := .tuple #[.string val, .bool !g, .int .i64 0, .int .i64 0]) (by simp [results, Try.results40, go_sem]) rfl ⟨?_, below_drewN hB5 _⟩
            rw [E1.out, HE2.out]; simp [sees]
          · have k1b : (tx' == tx) = false := by simpa using k1
            go_wp2
            go_roundw
            case rel => exact ⟨j + 1, by omega, by go_num, Lib.hid (by rw [HE2.out]; simp [sees, k1b]), hB5⟩
            case measure => simp [Lib.intOf]; omega
        · have k0b : (st == 0) = false := by simpa using k0
          by_cases k2 : 0 < st
          · by_cases k3 : st ≤ snap
            · go_wp2_with fail
              go_quiet (fail)
              go_wp2
              refine bodyPost_ret (v := .tuple #[.string val, .bool !g, .int .i64 st, .int .i64 0]) (by simp [results, Try.results40, go_sem]) rfl ⟨?_, below_drewN hB5 _⟩
              rw [E1.out, HE2.out]; simp [sees, k0, k2, k3]
            · go_wp2
              go_roundw
              case rel => exact ⟨j + 1, by omega, by go_num, Lib.hid (by rw [HE2.out]; simp [sees, k0, show ¬ st ≤ snap by omega]), hB5⟩
              case measure => simp [Lib.intOf]; omega
          · go_wp2
            go_roundw
            case rel => exact ⟨j + 1, by omega, by go_num, Lib.hid (by rw [HE2.out]; simp [sees, k0, show ¬ 0 < st by omega]), hB5⟩
            case measure => simp [Lib.intOf]; omega
      · obtain rfl : j = l.length := by omega
        go_wp2
        refine bodyPost_ret (v := .tuple #[.string ⟨#[]⟩, .bool false, .int .i64 0, .int .i64 0]) (by simp [results, Try.results40, go_sem]) rfl ⟨?_, hbel⟩
        rw [E1.out, HE.out, List.drop_length]; rfl
  · have e : seeR snap tx l = (⟨#[]⟩, false, 0, chk l) := by unfold seeR; rw [if_neg h0]
    have hc := check_any A c l w HR
    rw [e]
    dsimp only
    clear e
    generalize chk l = k at *
    go_enter Try.func40, Try.ntmps40
    go_wp2_with (go_at_call 41; refine hc.mono ?_; rintro e w1 ⟨rfl, h1⟩)
    exact bodyPost_ret (v := .tuple #[.string ⟨#[]⟩, .bool false, .int .i64 0, .int .i64 k]) (by simp [results, Try.results40, go_sem]) rfl ⟨rfl, h1⟩
/-- A slice value that holds l, in a block from N on. -/
abbrev SlV (N : Nat) (w : World) (v : Value) (l : List Ver) : Prop := SlB encVer 4 N w v l
theorem encVer_one : ∀ (l : List Ver), ∀ u ∈ l.flatMap encVer, u.oneCell' = true := fun l u hu => by
  obtain ⟨x, _, hx⟩ := List.mem_flatMap.1 hu
  simp [encVer] at hx
  rcases hx with rfl | rfl | rfl | rfl <;> rfl
theorem SlV.of_own {w : World} {base n : Nat} {e : TypeId} {v : Value} {l : List Ver} (h : w.ownsRow base e 4 v n (l.flatMap encVer)) : SlV base w v l := SlB.of_own encVer_len (by decide) (Nat.le_refl _) h
theorem infoVer : ∃ i0, Try.prog.info? 45 = some i0 ∧ i0.zero = some (.agg #[.int .i64 0, .int .i64 0, .bool false, .string ⟨#[]⟩]) ∧ i0.size = 4 ∧ i0.bytes = 40 :=
  info_parts (show (Try.prog.info? 45).map (fun i => (i.zero, i.size, i.bytes)) = some (some (.agg #[.int .i64 0, .int .i64 0, .bool false, .string ⟨#[]⟩]), 4, 40) by kernel_rfl)
set_option maxHeartbeats 2000000 in
set_option maxRecDepth 100000 in
theorem clone_any (A : Option Addr) (c : Nat) (l : List Ver) (w : World) (HA : RowE encVer 4 w A l) (hn : A = none → c = 0) (hl : l.length ≤ 1000) :
    Calls Try.prog 48 #[.slice A l.length c] w fun e w' => ∃ v, e = .returned v ∧ SlV w.heap.size w' v l ∧ Below w.heap.size w w' := by
  obtain ⟨i0, hi, hz0, hz1, hz2⟩ := infoVer
  have q22 : ∀ (w : World) (a : Option Addr) (n c n' c' : Nat), (binOp .eql 44 (.slice a n c) (.slice none n' c')).run Try.prog w = .ok (.bool a.isNone) w := fun w a n c n' c' => Lib.run_eql_slice_nil w _ _ a n c n' c' Try.underlying44
  cases A with
  | none =>
    have h0 : l = [] := by
      cases l with
      | nil => rfl
      | cons a l => obtain ⟨b, off, h, _⟩ := HA 0 a rfl; cases h
    subst h0
    obtain rfl := hn rfl
    go_enter Try.func48, Try.ntmps48
    go_wp2
    go_ret
    exact ⟨_, rfl, SlB.nil _, Below.refl _ _⟩
  | some ad =>
    have HC : Hid (∀ j u, (l.flatMap encVer)[j]? = some u → w.cell? (ad.add j) = some u) := Lib.hid (fun j u hu => by
      by_cases h0 : l = []
      · subst h0; simp at hu
      · obtain ⟨b, off, hA, hlt, hc⟩ := HA.cells encVer_len (by decide) h0
        obtain rfl : ad = ⟨b, off, none⟩ := Option.some.inj hA
        rw [Addr.add_lit]; exact hc j u hu)
    clear HA
    go_enter Try.func48, Try.ntmps48
    go_wp2_with (at_builtin; refine wpList_append_own _ rfl _ _ 44 rfl w.heap.size 45 i0 (.agg #[.int .i64 0, .int .i64 0, .bool false, .string ⟨#[]⟩]) 4 40 Try.underlying44 hi hz0 hz1 hz2 rfl (by decide) _ _ _ rfl (World.ownsRow_made w #[] 0 (Nat.le_refl _) (Nat.zero_le _) (by simp)) ad l.length c (l.flatMap encVer) rfl ?c1 ?c2 ?c3 ?c4 ?c5 ?c6 ?_)
    case c1 => exact flat_len encVer_len l
    case c2 =>
      intro j u hj
      have := HC.out j u hj
      exact (((Below.refl w.heap.size w).alloc (Nat.le_refl _) _).cell (World.block_lt_of_cell? _ _ this)).trans this
    case c3 => exact encVer_one l
    case c4 => unfold maxLen; omega
    case c5 => omega
    case c6 => simp
    intro v' w1 hown hgrow hnil
    go_wp2
    go_ret
    refine ⟨v', rfl, SlV.of_own (by simpa using hown), ?_⟩
    exact ((Below.refl _ w).alloc (Nat.le_refl _) _).grown hgrow (by simp) (by intro k hk; simp [Value.ownBlock] at hk; omega)
set_option maxHeartbeats 2000000 in
set_option maxRecDepth 100000 in
theorem old_any (h : Int) (B : Nat) (st tx : Int) (g : Bool) (val : ByteArray) (w : World) (hcell : w.cell? ⟨B, 0, none⟩ = some (.int .i64 h)) :
    Calls Try.prog 61 #[.agg #[.int .i64 st, .int .i64 tx, .bool g, .string val], .pointer (some ⟨B, 0, none⟩)] w fun e w' => e = .returned (.bool (old h ⟨st, tx, g, val⟩)) ∧ Below w.heap.size w w' := by
  have hB := World.block_lt_of_cell? _ _ hcell
  have hne : B ≠ w.heap.size := by intro e; subst e; simp at hB
  go_enter Try.func61, Try.ntmps61
  go_wp2
  all_goals
    go_ret
    exact ⟨ret_bool (by first | (simp_all [old]; done) | (simp_all [old]; omega)), (Below.refl _ w).alloc (Nat.le_refl _) _⟩
set_option maxHeartbeats 2000000 in
set_option maxRecDepth 100000 in
theorem indexOld_any (A : Option Addr) (c : Nat) (l : List Ver) (h : Int) (B : Nat) (w : World) (HR : RowE encVer 4 w A l) (hcell : w.cell? ⟨B, 0, none⟩ = some (.int .i64 h)) (hl : l.length ≤ 140737488355328) :
    Calls Try.prog 62 #[.slice A l.length c, .func (.func 61) #[] #[.pointer (some ⟨B, 0, none⟩)]] w fun e w' => e = .returned (.int .i64 (idx (old h) l)) ∧ Below w.heap.size w w' := by
  have eg : ∀ args w, (callFunc 61 args).run Try.prog w = .ok (.enter 61 args) w := enters_of Try.func61 (by kernel_rfl) rfl
  have HR' := Lib.hid HR
  have hB := World.block_lt_of_cell? _ _ hcell
  have HC := Lib.hid hcell
  clear HR hcell
  go_enter Try.func62, Try.ntmps62
  go_wp2
  go_loopw [8] (fun i wr => ∃ j : Nat, j ≤ l.length ∧ i = .int .i64 j ∧ Hid (∀ i y, i < j → l[i]? = some y → old h y = false) ∧ Below w.heap.size w wr) (fun i _ => l.length - (Lib.intOf i).toNat)
  case atStart => exact ⟨0, Nat.zero_le _, rfl, Lib.hid (fun i y hi => absurd hi (Nat.not_lt_zero _)), Below.refl _ _⟩
  case round =>
    obtain ⟨j, hj, rfl, HE, hbel⟩ := hrel
    by_cases hlt : j < l.length
    · obtain ⟨x, hx⟩ : ∃ x, l[j]? = some x := ⟨_, List.getElem?_eq_getElem hlt⟩
      obtain ⟨b0, off, rfl, hb0, g0, g1, g2, g3⟩ := HR'.out.four (B := 0) hx hbel
      have hcw : wr.cell? ⟨B, 0, none⟩ = some (.int .i64 h) := (hbel.cell (p := ⟨B, 0, none⟩) hB).trans HC.out
      have hc := old_any h B x.st x.tx x.gone x.val wr hcw
      have HX := Lib.hid hx
      clear hx hcw
      obtain ⟨st, tx', g, val⟩ := x
      dsimp only at g0 g1 g2 g3 hc
      cases ho : old h ⟨st, tx', g, val⟩ with
      | true =>
        rw [ho] at hc
        go_wp2_with (go_at_fn 61; refine hc.mono ?_; rintro e w2 ⟨rfl, h2⟩)
        go_ret
        refine ⟨ret_int ?_, hbel.trans (h2.mono hbel.size)⟩
        rw [idx_hit (old h) l j _ HX.out ho HE.out]
      | false =>
        rw [ho] at hc
        go_wp2_with (go_at_fn 61; refine hc.mono ?_; rintro e w2 ⟨rfl, h2⟩)
        go_roundw
        case rel =>
          refine ⟨j + 1, by omega, by go_num, Lib.hid (fun i y hi hy => ?_), hbel.trans (h2.mono hbel.size)⟩
          by_cases e : i = j
          · subst e
            obtain rfl : y = ⟨st, tx', g, val⟩ := by rw [HX.out] at hy; exact (Option.some.inj hy).symm
            exact ho
          · exact HE.out i y (by omega) hy
        case measure => simp [Lib.intOf]; omega
    · obtain rfl : j = l.length := by omega
      go_wp2
      go_ret
      refine ⟨ret_int ?_, hbel⟩
      rw [idx_none (old h) l (fun x hx => by
        obtain ⟨i, hi⟩ := List.mem_iff_getElem?.1 hx
        have : i < l.length := by
          rcases Nat.lt_or_ge i l.length with h' | h'
          · exact h'
          · rw [List.getElem?_eq_none h'] at hi; cases hi
        exact HE.out i x this hi)]
end Go.Proofs.Ytpkacnoimdjckaa
