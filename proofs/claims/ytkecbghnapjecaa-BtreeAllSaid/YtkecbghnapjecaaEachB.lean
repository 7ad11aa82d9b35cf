/- Package btree: each, inside a range over a function. -/
import Derived.RangeFuncNested
import Derived.RangeFuncBound
import Derived.RangeFuncCalls
import Derived.RangeFuncLeaves
import Derived.Shelf.Abstract
import Derived.Shelf.RegionOpen
import Derived.WalkKit
import Derived.OwnWalkIn
import Derived.TacticsInMore
import Derived.LoopNIn
import Derived.LoopIn
import Derived.Test.YtkecbghnapjecaaRdT
import Derived.Test.YtkecbghnapjecaaLayL
namespace Go.Proofs.Ytkecbghnapjecaa
open Go.RowKit Go.Shelf
set_option linter.unusedVariables false
set_option linter.unusedSimpArgs false
attribute [local go_sem] Oper.semAt_some
attribute [local go_sem] string_geq
abbrev Pr := ByteArray × ByteArray
def aggPr (p : Pr) : Value := .agg #[.string p.1, .string p.2]
mutual
/-- The pairs from a key on, as each goes over them. -/
def eachT (fr : ByteArray) : Tr → List Pr
  | .mk ks vs ts => (match ts with | [] => (ks.zip vs).filter (fun p => !sless p.1 fr) | _ :: _ => []) ++ eachTs fr ks ts
def eachTs (fr : ByteArray) (ks : List ByteArray) : List Tr → List Pr
  | [] => []
  | t :: ts => (match ks with | [] => eachT fr t | k :: _ => if sless fr k then eachT fr t else []) ++ eachTs fr ks.tail ts
end
theorem eachT_leaf (fr : ByteArray) (ks vs : List ByteArray) : eachT fr (.mk ks vs []) = (ks.zip vs).filter (fun p => !sless p.1 fr) := by unfold eachT; simp [eachTs]
theorem eachT_node (fr : ByteArray) (ks vs : List ByteArray) {ts : List Tr} (h : ts ≠ []) : eachT fr (.mk ks vs ts) = eachTs fr ks ts := by
  cases ts with
  | nil => exact absurd rfl h
  | cons t ts => conv => lhs; unfold eachT
                 simp
/-- All blocks below M lie as they lay. -/
abbrev KpM (M : Nat) (W W' : World) : Prop := Kept M (fun _ => False) W W'
theorem KpM.kept {M : Nat} {W W' : World} (h : KpM M W W') : Kept W.heap.size (fun k => M ≤ k) W W' := ⟨h.os, h.tape, h.output, h.size, fun k hk hb => h.block k (by omega) id⟩
theorem KpM.of_below {M : Nat} {W W' : World} (h : Below W.heap.size W W') (hM : M ≤ W.heap.size) : KpM M W W' := Kept.of_below h hM
theorem KpM.putObj {M : Nat} (W : World) (l : Nat) (o o' : Obj) (hl : M ≤ l) : KpM M W (W.putObj l o') := ⟨rfl, rfl, rfl, by simp, fun k hk _ => World.putObj_heap_other (by omega)⟩
theorem room_of_none {F : Fence} (hd : F.depth = none) (k : Nat) : F.room k := fun d h => by rw [hd] at h; cases h
theorem RoundIn.anyDepth {F : Fence} (hd : F.depth = none) {m m' : Nat} {P : Program} {l : Nat} {f : FuncId} {tmps : Array Value} {assign body : Code} {w : World} {R : Ending → World → Prop}
    (h : RoundIn F m P l f tmps assign body w R) : RoundIn F m' P l f tmps assign body w R := ⟨h.1, fun c cs _ => h.2 c cs (room_of_none hd _)⟩
theorem YieldAt.anyDepth {F : Fence} (hd : F.depth = none) {m : Nat} (m' : Nat) {P : Program} {l : Nat} {args : Array Value} {W : World} {R : Ending → World → Prop} (h : YieldAt F m P l args W R) : YieldAt F m' P l args W R := by
  obtain ⟨fn, tmps, assign, body, hy, hR⟩ := h
  exact ⟨fn, tmps, assign, body, hy, RoundIn.anyDepth hd hR⟩
/-- The contract of each at a tree. -/
def EachGo (F : Fence) (l M N : Nat) (J Jx : List Pr → World → Prop) (fr : ByteArray) (t : Tr) : Prop :=
  ∀ (n : Nat) (pre : List Pr) (P : Nat → Prop) (g : Nat) (W : World), RdT W P g t → OkT t → (∀ b, P b → b < M) → M ≤ W.heap.size → J pre W → pre.length + (eachT fr t).length ≤ N →
    CallsIn F n Try.prog 37 #[.pointer (some ⟨g, 0, none⟩), .string fr, .func (.yield l) #[] #[]] W fun e W' =>
      (e = .returned (.bool true) ∧ J (pre ++ eachT fr t) W' ∧ KpM M W W') ∨ (e = .returned (.bool false) ∧ ∃ q, q <+: eachT fr t ∧ Jx (pre ++ q) W')
def YieldsOk (F : Fence) (l M N : Nat) (J Jx : List Pr → World → Prop) : Prop :=
  ∀ m pre x W, J pre W → pre.length < N → YieldAt F m Try.prog l #[aggPr x] W fun e W' => (e = .returned (.bool true) ∧ J (pre ++ [x]) W' ∧ KpM M W W') ∨ (e = .returned (.bool false) ∧ Jx (pre ++ [x]) W')
theorem filter_take {α : Type} {p : α → Bool} {l : List α} {j : Nat} {x : α} (h : l[j]? = some x) : (l.take (j + 1)).filter p = (l.take j).filter p ++ if p x then [x] else [] := by
  rw [List.take_add_one, h, List.filter_append]
  cases hp : p x <;> simp [hp]
theorem prefix_filter_take {α : Type} (p : α → Bool) (l : List α) (j : Nat) : (l.take j).filter p <+: l.filter p := by
  conv => rhs; rw [← List.take_append_drop j l]
  rw [List.filter_append]
  exact List.prefix_append _ _
set_option maxRecDepth 100000 in
set_option maxHeartbeats 4000000 in
theorem each_leaf (F : Fence) (hd : F.depth = none) (hf : F.fn 37) (hro : F.round = none) (l M N : Nat) (J Jx : List Pr → World → Prop) (hY : YieldsOk F l M N J Jx) (fr : ByteArray) (ks vs : List ByteArray) : EachGo F l M N J Jx fr (.mk ks vs []) := by
  intro n pre P g W hT hO hPM hMW hJ hN
  have hdd : ∀ k : Nat, (F.depth.isSome = true → 1 ≤ k) := fun k h => by rw [hd] at h; cases h
  obtain ⟨hR, h1, h4, hvl0, _, _⟩ := hO.parts
  have hvl := hvl0 rfl
  have HVL := Lib.hid hvl
  rw [eachT_leaf] at hN ⊢
  unfold RdT at hT
  obtain ⟨kv, vv, iv, ps, hB, hk, hv, hi, hPg, hps⟩ := hT
  unfold RdsT at hps
  subst hps
  obtain ⟨KA, kc, rfl, _, hkr, _, hka⟩ := id hk
  obtain ⟨VA, vc, rfl, _, hvr, _, hva⟩ := id hv
  obtain ⟨IA, ic, rfl, _, _, _, _⟩ := id hi
  have HB := Lib.hid hB
  have HK := Lib.hid hk
  have HV := Lib.hid hv
  have HJ := Lib.hid hJ
  have HN := Lib.hid hN
  have HKP := Lib.hid (Kept.refl M (fun _ => False) W)
  have HY := Lib.hid hY
  have HPG := Lib.hid hPg
  have hdisj : ∀ k, M ≤ k → ¬ P k := fun k hk h => by have := hPM k h; omega
  have HDJ := Lib.hid hdisj
  clear hO hR hvl hvl0 hB hk hv hi hkr hka hvr hva hJ hN hY hPg hdisj hPM
  refine callsIn_of_wp Try.func37 rfl hf ?_ hro
  simp only [Try.ntmps37, List.size_toArray, List.length_cons, List.length_nil, Nat.reduceAdd, Nat.reduceSub, Array.replicate_succ, Array.replicate_zero, List.push_toArray, List.append_toArray, List.nil_append, List.cons_append]
  have cHB0 := HB.out.c 0 _ rfl; have fHB0 := HB.out.f 0 (by simp); have cHB1 := HB.out.c 1 _ rfl; have fHB1 := HB.out.f 1 (by simp); have cHB2 := HB.out.c 2 _ rfl; have fHB2 := HB.out.f 2 (by simp); have lHB := HB.out.lt
  gi_wp2_with fail
  clear cHB0 fHB0 cHB1 fHB1 cHB2 fHB2 lHB
  gi_loopw [16] (fun i wr => ∃ j : Nat, j ≤ ks.length ∧ i = .int .i64 j ∧ Hid (J (pre ++ ((ks.zip vs).take j).filter (fun p => !sless p.1 fr)) wr) ∧ Hid (KpM M W wr)) (fun i _ => ks.length - (Lib.intOf i).toNat)
  case atStart => exact ⟨0, Nat.zero_le _, rfl, Lib.hid (by simpa using HJ.out), HKP⟩
  case round =>
  clear HJ HKP
  obtain ⟨j, hj, rfl, HJ, HKP⟩ := hrel
  have hkr := HKP.out.kept
  have HBr := Lib.hid (HB.out.kept hkr HB.out.lt (fun h => HDJ.out g h HPG.out))
  by_cases hlt : j < ks.length
  · obtain ⟨key, hkey⟩ : ∃ key, ks[j]? = some key := ⟨_, List.getElem?_eq_getElem hlt⟩
    obtain ⟨val, hval⟩ : ∃ val, vs[j]? = some val := ⟨_, List.getElem?_eq_getElem (by have := HVL.out; omega)⟩
    have hz : (ks.zip vs)[j]? = some (key, val) := by rw [List.getElem?_zip_eq_some]; exact ⟨hkey, hval⟩
    obtain ⟨bK, oK, c1, hkv, hbK, hcK⟩ := (HK.out.kept hkr HDJ.out).cell hkey rfl (Below.refl _ _)
    obtain ⟨bV, oV, c2, hvv, hbV, hcV⟩ := (HV.out.kept hkr HDJ.out).cell hval rfl (Below.refl _ _)
    injection hkv with e1 e2 e3
    subst e1 e3
    injection hvv with e4 e5 e6
    subst e4 e6
    have hft := filter_take (p := fun p => !sless p.1 fr) hz
    have HFT := Lib.hid hft
    have HPF := Lib.hid (prefix_filter_take (fun p : Pr => !sless p.1 fr) (ks.zip vs) (j + 1))
    have hjv : (j : Int) < (vs.length : Int) := by have := HVL.out; omega
    clear e2 e5 hft hz hkey hval hkr
    cases hge : sless key fr with
    | true =>
      have hless : Op.bytesLess key.toList fr.toList = true := hge
      have hnx : J (pre ++ ((ks.zip vs).take (j + 1)).filter (fun p => !sless p.1 fr)) wr := by rw [HFT.out]; simp only [hge, Bool.not_true]; simpa using HJ.out
      have HNX := Lib.hid hnx
      clear hnx HFT HPF hge
      have cHBr0 := HBr.out.c 0 _ rfl; have fHBr0 := HBr.out.f 0 (by simp); have cHBr1 := HBr.out.c 1 _ rfl; have fHBr1 := HBr.out.f 1 (by simp); have cHBr2 := HBr.out.c 2 _ rfl; have fHBr2 := HBr.out.f 2 (by simp); have lHBr := HBr.out.lt
      gi_wp2_with fail
      refine And.intro (fun f h => by cases h) ?_
      gi_wp2_with fail
      clear cHBr0 fHBr0 cHBr1 fHBr1 cHBr2 fHBr2 lHBr
      go_roundw
      case rel => exact ⟨j + 1, by omega, by go_num, HNX, HKP⟩
      case measure => simp [Lib.intOf]; omega
    | false =>
      have hless : Op.bytesLess key.toList fr.toList = false := hge
      have hpl : (pre ++ ((ks.zip vs).take j).filter (fun p => !sless p.1 fr)).length < N := by
        have h1 : (((ks.zip vs).take j).filter (fun p : Pr => !sless p.1 fr)).length + 1 ≤ ((ks.zip vs).filter (fun p : Pr => !sless p.1 fr)).length := by
          have h3 := HPF.out.length_le
          rw [HFT.out, List.length_append] at h3
          simpa [hge] using h3
        have h2 : pre.length + ((ks.zip vs).filter (fun p : Pr => !sless p.1 fr)).length ≤ N := HN.out
        rw [List.length_append]
        exact Nat.lt_of_lt_of_le (Nat.add_lt_add_left (Nat.lt_of_lt_of_le (Nat.lt_succ_self _) h1) pre.length) h2
      have hy := HY.out (n - 1) _ (key, val) wr HJ.out hpl
      have hnx : pre ++ ((ks.zip vs).take (j + 1)).filter (fun p => !sless p.1 fr) = pre ++ ((ks.zip vs).take j).filter (fun p => !sless p.1 fr) ++ [(key, val)] := by rw [HFT.out]; simp [hge]
      have HNX := Lib.hid hnx
      clear hnx HFT hpl hge
      obtain ⟨fn, tmps, assign, body, hy, hR⟩ := hy
      unfold aggPr at hy
      dsimp only at hy
      have HRD := Lib.hid hR
      clear hR
      have cHBr0 := HBr.out.c 0 _ rfl; have fHBr0 := HBr.out.f 0 (by simp); have cHBr1 := HBr.out.c 1 _ rfl; have fHBr1 := HBr.out.f 1 (by simp); have cHBr2 := HBr.out.c 2 _ rfl; have fHBr2 := HBr.out.f 2 (by simp); have lHBr := HBr.out.lt
      gi_wp2_with fail
      clear cHBr0 fHBr0 cHBr1 fHBr1 cHBr2 fHBr2 lHBr
      refine HRD.out.mono ?_
      rintro e W2 (⟨rfl, hJ2, hk2⟩ | ⟨rfl, hx2⟩)
      · have hj2 := hJ2
        rw [← HNX.out] at hj2
        have HJ2 := Lib.hid hj2
        have HKP2 := Lib.hid (HKP.out.trans hk2)
        clear hj2 hJ2 hk2 HRD hy
        gi_wp2_with fail
        go_roundw
        case rel => exact ⟨j + 1, by omega, by go_num, HJ2, HKP2⟩
        case measure => simp [Lib.intOf]; omega
      · rw [← HNX.out] at hx2
        have HX2 := Lib.hid hx2
        clear hx2 HRD hy
        gi_wp2_with fail
        go_ret
        exact .inr ⟨rfl, _, HPF.out, HX2.out⟩
  · obtain rfl : j = ks.length := by omega
    have hzl : (ks.zip vs).length = ks.length := by rw [List.length_zip, HVL.out, Nat.min_self]
    have hJe := HJ.out
    rw [List.take_of_length_le (by omega)] at hJe
    have HJE := Lib.hid hJe
    clear hzl hJe HJ
    have cHBr0 := HBr.out.c 0 _ rfl; have fHBr0 := HBr.out.f 0 (by simp); have cHBr1 := HBr.out.c 1 _ rfl; have fHBr1 := HBr.out.f 1 (by simp); have cHBr2 := HBr.out.c 2 _ rfl; have fHBr2 := HBr.out.f 2 (by simp); have lHBr := HBr.out.lt
    gi_wp2_with fail
    clear cHBr0 fHBr0 cHBr1 fHBr1 cHBr2 fHBr2 lHBr
    obtain ⟨wq, hwq⟩ : ∃ wq, wr = wq := ⟨_, rfl⟩
    subst hwq
    gi_loop [52] (fun i => i = .int .i64 0) (fun i => 0)
    case atStart => rfl
    case round =>
    subst hrel
    gi_wp2_with fail
    go_ret
    exact .inl ⟨rfl, HJE.out, HKP.out⟩
theorem eachTs_cons (fr : ByteArray) (ks : List ByteArray) (t : Tr) (ts : List Tr) : eachTs fr ks (t :: ts) = (match ks with | [] => eachT fr t | k :: _ => if sless fr k then eachT fr t else []) ++ eachTs fr ks.tail ts := by conv => lhs; unfold eachTs
/-- What each gives of a kid. -/
def kidE (fr : ByteArray) (ks : List ByteArray) (i : Nat) (t : Tr) : List Pr := match ks[i]? with | none => eachT fr t | some k => if sless fr k then eachT fr t else []
theorem eachTs_snoc (fr : ByteArray) : ∀ (ts : List Tr) (ks : List ByteArray) (i : Nat) (t : Tr), ts[i]? = some t → eachTs fr ks (ts.take (i + 1)) = eachTs fr ks (ts.take i) ++ kidE fr ks i t
  | [], ks, i, t, h => by simp at h
  | x :: ts, ks, 0, t, h => by
    obtain rfl : x = t := by simpa using h
    have e : eachTs fr ks.tail [] = [] := by unfold eachTs; rfl
    have e2 : eachTs fr ks [] = [] := by unfold eachTs; rfl
    simp only [List.take_succ_cons, List.take_zero, e2, List.nil_append]
    rw [eachTs_cons, e, List.append_nil]
    unfold kidE
    cases ks <;> rfl
  | x :: ts, ks, i + 1, t, h => by
    have ih := eachTs_snoc fr ts ks.tail i t (by simpa using h)
    rw [List.take_succ_cons, List.take_succ_cons, eachTs_cons, eachTs_cons, ih, List.append_assoc]
    congr 1
    congr 1
    unfold kidE
    cases ks <;> simp
theorem eachTs_take (fr : ByteArray) : ∀ (ts : List Tr) (ks : List ByteArray) (i : Nat), eachTs fr ks (ts.take i) <+: eachTs fr ks ts
  | [], ks, i => by simp
  | x :: ts, ks, 0 => by
    have e : eachTs fr ks (List.take 0 (x :: ts)) = [] := by simp [eachTs]
    rw [e]; exact List.nil_prefix
  | x :: ts, ks, i + 1 => by
    rw [List.take_succ_cons, eachTs_cons, eachTs_cons]
    exact (List.prefix_append_right_inj _).2 (eachTs_take fr ts ks.tail i)
set_option maxRecDepth 100000 in
set_option maxHeartbeats 4000000 in
theorem each_node (F : Fence) (hd : F.depth = none) (hf : F.fn 37) (hro : F.round = none) (l M N : Nat) (J Jx : List Pr → World → Prop) (fr : ByteArray) (ks vs : List ByteArray) (ts : List Tr) (h0 : ts ≠ []) (IH : ∀ t ∈ ts, EachGo F l M N J Jx fr t) : EachGo F l M N J Jx fr (.mk ks vs ts) := by
  intro n pre P g W hT hO hPM hMW hJ hN
  have hdd : ∀ k : Nat, (F.depth.isSome = true → 1 ≤ k) := fun k h => by rw [hd] at h; cases h
  obtain ⟨hR, h1, h4, _, hin, hos⟩ := hO.parts
  obtain ⟨htl, hvn⟩ := hin h0
  have HTL := Lib.hid htl
  rw [eachT_node fr ks vs h0] at hN ⊢
  unfold RdT at hT
  obtain ⟨kv, vv, iv, ps, hB, hk, hv, hi, hPg, hps⟩ := hT
  have hpl := hps.len
  obtain ⟨KA, kc, rfl, _, hkr, _, hka⟩ := id hk
  obtain ⟨IA, ic, rfl, _, _, _, _⟩ := id hi
  have HB := Lib.hid hB
  have HK := Lib.hid hk
  have HI := Lib.hid hi
  have HPS := Lib.hid hps
  have HPL := Lib.hid hpl
  have HJ := Lib.hid hJ
  have HN := Lib.hid hN
  have HIH := Lib.hid IH
  have HOS := Lib.hid hos
  have HPG := Lib.hid hPg
  have HPM := Lib.hid hPM
  have hdisj : ∀ k, M ≤ k → ¬ P k := fun k hk h => by have := hPM k h; omega
  have HDJ := Lib.hid hdisj
  have hpn : ¬ (ps.length : Int) = 0 := by have := List.length_pos_iff.2 h0; omega
  have hpb : ((ps.length : Int) == 0) = false := by rw [beq_eq_false_iff_ne]; exact hpn
  clear hO hR htl hvn hin hos hB hk hv hi hps hkr hka hJ hN hPg hdisj hPM IH hpl h0
  refine callsIn_of_wp Try.func37 rfl hf ?_ hro
  simp only [Try.ntmps37, List.size_toArray, List.length_cons, List.length_nil, Nat.reduceAdd, Nat.reduceSub, Array.replicate_succ, Array.replicate_zero, List.push_toArray, List.append_toArray, List.nil_append, List.cons_append]
  have cHB0 := HB.out.c 0 _ rfl; have fHB0 := HB.out.f 0 (by simp); have cHB1 := HB.out.c 1 _ rfl; have fHB1 := HB.out.f 1 (by simp); have cHB2 := HB.out.c 2 _ rfl; have fHB2 := HB.out.f 2 (by simp); have lHB := HB.out.lt
  gi_wp2_with fail
  clear cHB0 fHB0 cHB1 fHB1 cHB2 fHB2 lHB
  gi_loop [16] (fun i => ∃ j : Nat, j ≤ ks.length ∧ i = .int .i64 j) (fun i => ks.length - (Lib.intOf i).toNat)
  case atStart => exact ⟨0, Nat.zero_le _, rfl⟩
  case round =>
  obtain ⟨j, hj, rfl⟩ := hrel
  by_cases hlt : j < ks.length
  · obtain ⟨key, hkey⟩ : ∃ key, ks[j]? = some key := ⟨_, List.getElem?_eq_getElem hlt⟩
    obtain ⟨bK, oK, c1, hkv, hbK, hcK⟩ := HK.out.cell hkey rfl (Below.refl _ _)
    injection hkv with e1 e2 e3
    subst e1 e3
    clear e2 hkey
    have cHB0 := HB.out.c 0 _ rfl; have fHB0 := HB.out.f 0 (by simp); have cHB1 := HB.out.c 1 _ rfl; have fHB1 := HB.out.f 1 (by simp); have cHB2 := HB.out.c 2 _ rfl; have fHB2 := HB.out.f 2 (by simp); have lHB := HB.out.lt
    gi_wp2_with fail
    refine And.intro (fun f h => by cases h) ?_
    gi_wp2_with fail
    go_round
    case rel => exact ⟨j + 1, by omega, by go_num⟩
    case measure => simp [Lib.intOf]; omega
  · obtain rfl : j = ks.length := by omega
    have cHB0 := HB.out.c 0 _ rfl; have fHB0 := HB.out.f 0 (by simp); have cHB1 := HB.out.c 1 _ rfl; have fHB1 := HB.out.f 1 (by simp); have cHB2 := HB.out.c 2 _ rfl; have fHB2 := HB.out.f 2 (by simp); have lHB := HB.out.lt
    gi_wp2_with fail
    clear cHB0 fHB0 cHB1 fHB1 cHB2 fHB2 lHB
    clear hpn hpb
    gi_loopw [52] (fun i wr => ∃ j : Nat, j ≤ ts.length ∧ i = .int .i64 j ∧ Hid (J (pre ++ eachTs fr ks (ts.take j)) wr) ∧ Hid (KpM M W wr)) (fun i _ => ts.length - (Lib.intOf i).toNat)
    case atStart => exact ⟨0, Nat.zero_le _, rfl, Lib.hid (by simpa [eachTs] using HJ.out), Lib.hid (Kept.refl M (fun _ => False) W)⟩
    case round =>
    clear HJ
    obtain ⟨i, hi, rfl, HJ, HKP⟩ := hrel
    have hkr := HKP.out.kept
    have HBr := Lib.hid (HB.out.kept hkr HB.out.lt (fun h => HDJ.out g h HPG.out))
    by_cases hlt2 : i < ts.length
    · obtain ⟨t, ht⟩ : ∃ t, ts[i]? = some t := ⟨_, List.getElem?_eq_getElem hlt2⟩
      obtain ⟨p, hp, hrt⟩ := (HPS.out.kept hkr HDJ.out).get ht
      obtain ⟨bI, oI, c2, hiv, hbI, hcI⟩ := (HI.out.kept hkr HDJ.out).cell hp rfl (Below.refl _ _)
      injection hiv with e4 e5 e6
      subst e4 e6
      have HLT := Lib.hid hlt2
      have hib : i ≤ 5 := by have := HTL.out; omega
      have hsn := eachTs_snoc fr ts ks i t ht
      have hot := HOS.out.mem t (List.mem_of_getElem? ht)
      have hpre := eachTs_take fr ts ks (i + 1)
      have hgo := HIH.out t (List.mem_of_getElem? ht)
      have HPRE := Lib.hid hpre
      have HSN := Lib.hid hsn
      have hipl : (i : Int) < (ps.length : Int) := by have := HPL.out; omega
      have hskip : kidE fr ks i t = [] → J (pre ++ eachTs fr ks (ts.take (i + 1))) wr := fun e => by rw [HSN.out, e, List.append_nil]; exact HJ.out
      have HSK := Lib.hid hskip
      have hcall : kidE fr ks i t = eachT fr t → CallsIn F (n - 1) Try.prog 37 #[.pointer (some ⟨p, 0, none⟩), .string fr, .func (.yield l) #[] #[]] wr fun e W' =>
          (e = .returned (.bool true) ∧ J (pre ++ eachTs fr ks (ts.take (i + 1))) W' ∧ KpM M wr W') ∨ (e = .returned (.bool false) ∧ ∃ q, q <+: eachTs fr ks ts ∧ Jx (pre ++ q) W') := fun e => by
        have hlen : (pre ++ eachTs fr ks (ts.take i)).length + (eachT fr t).length ≤ N := by
          have h1 := HPRE.out.length_le
          rw [HSN.out, e, List.length_append] at h1
          have h2 := HN.out
          rw [List.length_append]
          omega
        refine (hgo (n - 1) (pre ++ eachTs fr ks (ts.take i)) P p wr hrt hot HPM.out (Nat.le_trans hMW HKP.out.size) HJ.out hlen).mono ?_
        rintro e2 W2 (⟨rfl, hj2, hk2⟩ | ⟨rfl, q, hq, hx2⟩)
        · refine .inl ⟨rfl, ?_, hk2⟩
          rw [HSN.out, e, ← List.append_assoc]; exact hj2
        · refine .inr ⟨rfl, eachTs fr ks (ts.take i) ++ q, ?_, by rw [← List.append_assoc]; exact hx2⟩
          obtain ⟨r, hr⟩ := hq
          obtain ⟨r2, hr2⟩ := HPRE.out
          refine ⟨r ++ r2, ?_⟩
          rw [← hr2, HSN.out, e, ← hr]
          simp [List.append_assoc]
      have HCL := Lib.hid hcall
      clear hsn hpre hot hgo hskip hcall hrt e5 hp ht
      cases hki : ks[i]? with
      | none =>
        have hkl : ¬ (i : Int) < (ks.length : Int) := by have := List.getElem?_eq_none_iff.1 hki; omega
        have hc := HCL.out (by unfold kidE; rw [hki])
        have HC := Lib.hid hc
        clear hc HCL HSK hkr hki
        have cHBr0 := HBr.out.c 0 _ rfl; have fHBr0 := HBr.out.f 0 (by simp); have cHBr1 := HBr.out.c 1 _ rfl; have fHBr1 := HBr.out.f 1 (by simp); have cHBr2 := HBr.out.c 2 _ rfl; have fHBr2 := HBr.out.f 2 (by simp); have lHBr := HBr.out.lt
        gi_wp2_with fail
        clear cHBr0 fHBr0 cHBr1 fHBr1 cHBr2 fHBr2 lHBr
        refine HC.out.mono ?_
        rintro e W2 (⟨rfl, hj2, hk2⟩ | ⟨rfl, q, hq, hx2⟩)
        · have HJ2 := Lib.hid hj2
          have HKP2 := Lib.hid (HKP.out.trans hk2)
          clear hj2 hk2 HC HJ
          gi_wp2_with fail
          go_roundw
          case rel => exact ⟨i + 1, by have := HLT.out; omega, by go_num, HJ2, HKP2⟩
          case measure => simp [Lib.intOf]; omega
        · have HX2 := Lib.hid (And.intro hq hx2)
          clear hq hx2 HC HJ
          gi_wp2_with fail
          go_ret
          exact .inr ⟨rfl, q, HX2.out⟩
      | some k =>
        have hil := lt_of_get hki
        have hkl : (i : Int) < (ks.length : Int) := by omega
        obtain ⟨bK, oK, c1, hkv, hbK, hcK⟩ := (HK.out.kept hkr HDJ.out).cell hki rfl (Below.refl _ _)
        injection hkv with e1 e2 e3
        subst e1 e3
        cases hlk : sless fr k with
        | true =>
          have hless : Op.bytesLess fr.toList k.toList = true := hlk
          have hc := HCL.out (by unfold kidE; rw [hki]; simp [hlk])
          have HC := Lib.hid hc
          clear hc HCL HSK hkr hki e2 hlk
          have cHBr0 := HBr.out.c 0 _ rfl; have fHBr0 := HBr.out.f 0 (by simp); have cHBr1 := HBr.out.c 1 _ rfl; have fHBr1 := HBr.out.f 1 (by simp); have cHBr2 := HBr.out.c 2 _ rfl; have fHBr2 := HBr.out.f 2 (by simp); have lHBr := HBr.out.lt
          gi_wp2_with fail
          clear cHBr0 fHBr0 cHBr1 fHBr1 cHBr2 fHBr2 lHBr
          refine HC.out.mono ?_
          rintro e W2 (⟨rfl, hj2, hk2⟩ | ⟨rfl, q, hq, hx2⟩)
          · have HJ2 := Lib.hid hj2
            have HKP2 := Lib.hid (HKP.out.trans hk2)
            clear hj2 hk2 HC HJ
            gi_wp2_with fail
            go_roundw
            case rel => exact ⟨i + 1, by have := HLT.out; omega, by go_num, HJ2, HKP2⟩
            case measure => simp [Lib.intOf]; omega
          · have HX2 := Lib.hid (And.intro hq hx2)
            clear hq hx2 HC HJ
            gi_wp2_with fail
            go_ret
            exact .inr ⟨rfl, q, HX2.out⟩
        | false =>
          have hless : Op.bytesLess fr.toList k.toList = false := hlk
          have hj := HSK.out (by unfold kidE; rw [hki]; simp [hlk])
          have HJ2 := Lib.hid hj
          clear hj HCL HSK hkr hki e2 hlk
          have cHBr0 := HBr.out.c 0 _ rfl; have fHBr0 := HBr.out.f 0 (by simp); have cHBr1 := HBr.out.c 1 _ rfl; have fHBr1 := HBr.out.f 1 (by simp); have cHBr2 := HBr.out.c 2 _ rfl; have fHBr2 := HBr.out.f 2 (by simp); have lHBr := HBr.out.lt
          gi_wp2_with fail
          refine ⟨⟨i + 1, by have := HLT.out; omega, by go_num, HJ2, HKP⟩, ?_⟩
          have := HLT.out
          simp [Lib.intOf]; omega
    · obtain rfl : i = ts.length := by omega
      have hJe := HJ.out
      rw [List.take_length] at hJe
      have HJE := Lib.hid hJe
      clear hJe HJ hkr
      have hpi : ¬ (ts.length : Int) < (ps.length : Int) := by have := HPL.out; omega
      have cHBr0 := HBr.out.c 0 _ rfl; have fHBr0 := HBr.out.f 0 (by simp); have cHBr1 := HBr.out.c 1 _ rfl; have fHBr1 := HBr.out.f 1 (by simp); have cHBr2 := HBr.out.c 2 _ rfl; have fHBr2 := HBr.out.f 2 (by simp); have lHBr := HBr.out.lt
      gi_wp2_with fail
      clear cHBr0 fHBr0 cHBr1 fHBr1 cHBr2 fHBr2 lHBr
      go_ret
      exact .inl ⟨rfl, HJE.out, HKP.out⟩
theorem each_in (F : Fence) (hd : F.depth = none) (hf : F.fn 37) (hro : F.round = none) (l M N : Nat) (J Jx : List Pr → World → Prop) (hY : YieldsOk F l M N J Jx) (fr : ByteArray) : ∀ (k : Nat) (t : Tr), szT t ≤ k → EachGo F l M N J Jx fr t
  | 0, t, h => by have := szT_pos t; omega
  | k + 1, .mk ks vs ts, h => by
    by_cases h0 : ts = []
    · subst h0; exact each_leaf F hd hf hro l M N J Jx hY fr ks vs
    · exact each_node F hd hf hro l M N J Jx fr ks vs ts h0 (fun t ht => each_in F hd hf hro l M N J Jx hY fr k t (by have := szT_kid (ks := ks) (vs := vs) ht; omega))
end Go.Proofs.Ytkecbghnapjecaa
