/- Package btree: need, within. -/
import Derived.Test.YtkecbghnapjecaaBtP
import Derived.Test.YtkecbghnapjecaaProg
import Derived.Test.YtkecbghnapjecaaSlB
import Derived.Test.YtkecbghnapjecaaStep
import Derived.Test.YtkecbghnapjecaaLater
import Derived.Lib.Walk
import Derived.Defers
import Derived.Recover
namespace Go.Proofs.Ytkecbghnapjecaa
open Go.RowKit
set_option linter.unusedVariables false
set_option linter.unusedSimpArgs false
/-- A panic with an error. -/
abbrev pan (e : Int) : List PanicEntry := [{ v := Value.iface 29 (Value.int IntKind.i64 e), recovered := false }]
set_option maxRecDepth 100000 in
theorem need_true (e : Int) (w : World) : Calls Try.prog 42 #[.bool true, .int .i64 e] w fun r w' => r = .returned (.tuple #[]) ∧ w = w' := by
  go_enter Try.func42, Try.ntmps42
  go_wp2
  go_end0
  exact ⟨rfl, rfl⟩
set_option maxRecDepth 100000 in
theorem need_false (e : Int) (w : World) : Calls Try.prog 42 #[.bool false, .int .i64 e] w fun r w' => r = .panicked (pan e) ∧ w = w' := by
  go_enter Try.func42, Try.ntmps42
  go_wp2
  exact ⟨rfl, rfl, rfl⟩
/-- A bound, or none. -/
def PS (w : World) (p : Value) : Option ByteArray → Prop
  | none => p = .pointer none
  | some s => ∃ a, p = .pointer (some a) ∧ a.block < w.heap.size ∧ w.cell? a = some (.string s)
theorem PS.below {w w' : World} {p : Value} {o : Option ByteArray} (h : PS w p o) (hb : Below w.heap.size w w') : PS w' p o := by
  cases o with
  | none => exact h
  | some s =>
    obtain ⟨a, e, hlt, hc⟩ := h
    exact ⟨a, e, Nat.lt_of_lt_of_le hlt hb.size, (hb.cell hlt).trans hc⟩
theorem string_geq (t : TypeId) (a b : ByteArray) : binOp .geq t (.string a) (.string b) = pure (.bool !(Op.bytesLess a.toList b.toList)) := by
  simp only [binOp, Op.stringOp]
attribute [local go_sem] string_geq
def prevS (ks : List ByteArray) (j : Nat) : Option ByteArray := if j = 0 then none else ks[j - 1]?
theorem within_step (lo hi : Option ByteArray) {ks : List ByteArray} {j : Nat} {k : ByteArray} (h : ks[j]? = some k) : withinB lo hi (prevS ks j) (ks.drop j) = (okKey lo hi (prevS ks j) k && withinB lo hi (prevS ks (j + 1)) (ks.drop (j + 1))) := by
  have hlt := (List.getElem?_eq_some_iff.1 h).1
  have e : ks.drop j = k :: ks.drop (j + 1) := by
    rw [List.drop_eq_getElem_cons hlt]
    rw [List.getElem?_eq_getElem hlt] at h
    rw [Option.some.inj h]
  have e2 : prevS ks (j + 1) = some k := by unfold prevS; rw [if_neg (by omega), Nat.add_sub_cancel, h]
  rw [e, e2]
  rfl
set_option maxHeartbeats 4000000 in
set_option maxRecDepth 100000 in
theorem within_any (A : Option Addr) (c : Nat) (ks : List ByteArray) (p q : Value) (lo hi : Option ByteArray) (w : World) (HR : RowE encS 1 w A ks) (hp : PS w p lo) (hq : PS w q hi) (hl : ks.length ≤ 140737488355328) :
    Calls Try.prog 57 #[.slice A ks.length c, p, q] w fun e w' => e = .returned (.bool (withinB lo hi none ks)) ∧ w = w' := by
  have HR' := Lib.hid HR
  have HP := Lib.hid hp
  have HQ := Lib.hid hq
  obtain ⟨RB, hRB⟩ : ∃ RB, withinB lo hi none ks = RB := ⟨_, rfl⟩
  rw [hRB]
  have HRB : Hid (RB = withinB lo hi (prevS ks 0) (ks.drop 0)) := Lib.hid hRB.symm
  clear HR hp hq hRB
  go_enter Try.func57, Try.ntmps57
  go_wp2_with fail
  go_loopw [11] (fun i wr => ∃ j : Nat, j ≤ ks.length ∧ i = .int .i64 j ∧ w = wr ∧ Hid (RB = withinB lo hi (prevS ks j) (ks.drop j))) (fun i _ => ks.length - (Lib.intOf i).toNat)
  case atStart => exact ⟨0, Nat.zero_le _, rfl, rfl, HRB⟩
  case round =>
  clear HRB
  obtain ⟨j, hj, rfl, rfl, HRB⟩ := hrel
  by_cases hlt : j < ks.length
  · obtain ⟨k, hk⟩ : ∃ k, ks[j]? = some k := ⟨_, List.getElem?_eq_getElem hlt⟩
    obtain ⟨b, off, rfl, hb, hce⟩ := HR'.out j k hk
    have x0 : w.cell? ⟨b, off + j, none⟩ = some (.string k) := by have := hce j k hk 0 _ rfl; simpa using this
    have HCE : Hid (∀ i x, ks[i]? = some x → w.cell? ⟨b, off + i, none⟩ = some (.string x)) := Lib.hid (fun i x hi => by have := hce i x hi 0 _ rfl; simpa using this)
    have HST := Lib.hid (within_step lo hi hk)
    clear hk hce
    go_upto_region 4 with (fail)
    go_cut [48] (fun q wx => q = .bool (!(okKey lo hi (prevS ks j) k)) ∧ wx = w)
    case first =>
      clear HRB HST
      obtain ⟨i, rfl⟩ | rfl : (∃ i, j = i + 1) ∨ j = 0 := by
        rcases j with _ | i
        · exact .inr rfl
        · exact .inl ⟨i, rfl⟩
      · obtain ⟨pk, hpk⟩ : ∃ pk, ks[i]? = some pk := ⟨_, List.getElem?_eq_getElem (by omega)⟩
        have x1 := HCE.out i pk hpk
        have hprev : prevS ks (i + 1) = some pk := by unfold prevS; rw [if_neg (by omega), Nat.add_sub_cancel, hpk]
        have HPV := Lib.hid hprev
        clear hpk hprev HCE
        cases lo with
        | none =>
          obtain rfl : p = .pointer none := HP.out
          cases hi with
          | none =>
            obtain rfl : q = .pointer none := HQ.out
            clear HP HQ HR'
            go_wp2_with fail
            all_goals (go_meet; refine ⟨congrArg Value.bool ?_, rfl⟩; rw [HPV.out]; simp_all [okKey, sless])
          | some h =>
            obtain ⟨ah, rfl, _, hch⟩ := HQ.out
            clear HP HQ HR'
            go_wp2_with fail
            all_goals (go_meet; refine ⟨congrArg Value.bool ?_, rfl⟩; rw [HPV.out]; simp_all [okKey, sless])
        | some l =>
          obtain ⟨al, rfl, _, hcl⟩ := HP.out
          cases hi with
          | none =>
            obtain rfl : q = .pointer none := HQ.out
            clear HP HQ HR'
            go_wp2_with fail
            all_goals (go_meet; refine ⟨congrArg Value.bool ?_, rfl⟩; rw [HPV.out]; simp_all [okKey, sless])
          | some h =>
            obtain ⟨ah, rfl, _, hch⟩ := HQ.out
            clear HP HQ HR'
            go_wp2_with fail
            all_goals (go_meet; refine ⟨congrArg Value.bool ?_, rfl⟩; rw [HPV.out]; simp_all [okKey, sless])
      · have hprev : prevS ks 0 = none := rfl
        have HPV := Lib.hid hprev
        clear hprev HCE
        cases lo with
        | none =>
          obtain rfl : p = .pointer none := HP.out
          cases hi with
          | none =>
            obtain rfl : q = .pointer none := HQ.out
            clear HP HQ HR'
            go_wp2_with fail
            all_goals (go_meet; refine ⟨congrArg Value.bool ?_, rfl⟩; rw [HPV.out]; simp_all [okKey, sless])
          | some h =>
            obtain ⟨ah, rfl, _, hch⟩ := HQ.out
            clear HP HQ HR'
            go_wp2_with fail
            all_goals (go_meet; refine ⟨congrArg Value.bool ?_, rfl⟩; rw [HPV.out]; simp_all [okKey, sless])
        | some l =>
          obtain ⟨al, rfl, _, hcl⟩ := HP.out
          cases hi with
          | none =>
            obtain rfl : q = .pointer none := HQ.out
            clear HP HQ HR'
            go_wp2_with fail
            all_goals (go_meet; refine ⟨congrArg Value.bool ?_, rfl⟩; rw [HPV.out]; simp_all [okKey, sless])
          | some h =>
            obtain ⟨ah, rfl, _, hch⟩ := HQ.out
            clear HP HQ HR'
            go_wp2_with fail
            all_goals (go_meet; refine ⟨congrArg Value.bool ?_, rfl⟩; rw [HPV.out]; simp_all [okKey, sless])
    obtain ⟨rfl, hw⟩ := hcut
    subst hw
    have hst := HST.out
    rw [← HRB.out] at hst
    generalize okKey lo hi (prevS ks j) k = ok at *
    clear HST
    cases ok
    · obtain rfl : RB = false := hst
      go_wp2
      go_ret
      exact ⟨rfl, rfl⟩
    · have HRB2 : Hid (RB = withinB lo hi (prevS ks (j + 1)) (ks.drop (j + 1))) := Lib.hid (by rw [hst]; simp)
      clear hst HRB
      go_wp2_with fail
      go_roundw
      case rel => exact ⟨j + 1, by omega, by go_num, (by first | trivial | rfl), HRB2⟩
      case measure => simp [Lib.intOf]; omega
  · obtain rfl : j = ks.length := by omega
    have hRB : RB = true := by rw [HRB.out, List.drop_length]; rfl
    subst hRB
    go_wp2
    go_ret
    exact ⟨rfl, rfl⟩
end Go.Proofs.Ytkecbghnapjecaa
