/- Package btree: leafOf; slices.Index, slices.Contains of texts. -/
import Derived.Test.YtkecbghnapjecaaBtT
import Derived.Test.YtkecbghnapjecaaSmallW
import Derived.Deep.LoopGhost
namespace Go.Proofs.Ytkecbghnapjecaa
open Go.RowKit
set_option linter.unusedVariables false
set_option linter.unusedSimpArgs false
/-- A node's cells and rows; its kids. -/
structure NodeAt (w : World) (g : Nat) (ks vs : List ByteArray) (ts : List Tr) (kv vv iv : Value) (ps : List Nat) (P : Nat → Prop) : Prop where
  box : Box w g [kv, vv, iv]
  rk : RowP encS P w kv ks
  rv : RowP encS P w vv vs
  ri : RowP encN P w iv ps
  len : ps.length = ts.length
theorem TrAt.node {w : World} {P : Nat → Prop} {g : Nat} {ks vs : List ByteArray} {ts : List Tr} (h : TrAt w P g (.mk ks vs ts)) : ∃ kv vv iv ps, NodeAt w g ks vs ts kv vv iv ps P ∧ Apart g kv vv iv ∧ P g ∧ OwnP P w 9 kv ks.length (ks.flatMap encS) ∧ OwnP P w 9 vv vs.length (vs.flatMap encS) ∧ OwnP P w 67 iv ts.length (ps.flatMap encN) ∧ TrsAt w (Rest P g kv vv iv) ps ts := by
  unfold TrAt at h
  obtain ⟨kv, vv, iv, ps, h0, h1, h2, h3, h4, h5, h6⟩ := h
  have hl : ps.length = ts.length := by
    have := h3.1.1
    rw [flat_len encN_len] at this
    omega
  exact ⟨kv, vv, iv, ps, ⟨h0, h1.row encS_len, h2.row encS_len, h3.row encN_len, hl⟩, h5, h4, h1, h2, h3, h6⟩
theorem TrsAt.get {w : World} : ∀ {ts : List Tr} {P : Nat → Prop} {ps : List Nat} {i : Nat} {t : Tr}, TrsAt w P ps ts → ts[i]? = some t → ∃ p P1, ps[i]? = some p ∧ (∀ b, P1 b → P b) ∧ TrAt w P1 p t
  | [], P, ps, i, t, _, h => by simp at h
  | x :: ts, P, ps, i, t, hT, h => by
    unfold TrsAt at hT
    obtain ⟨p, q, P1, rfl, h0, h1, h2⟩ := hT
    cases i with
    | zero =>
      obtain rfl : x = t := by simpa using h
      exact ⟨p, P1, rfl, h0, h1⟩
    | succ i =>
      obtain ⟨p', P2, g1, g2, g3⟩ := TrsAt.get h2 (by simpa using h)
      exact ⟨p', P2, by simpa using g1, fun b hb => (g2 b hb).1, g3⟩
/-- A row's cell. -/
theorem RowP.cell {α : Type} {enc : α → List Value} {P : Nat → Prop} {w w' : World} {v : Value} {l : List α} {i : Nat} {x : α} {u : Value} (h : RowP enc P w v l) (hx : l[i]? = some x) (hu : enc x = [u]) (hb : Below w.heap.size w w') : ∃ b off c, v = .slice (some ⟨b, off, none⟩) l.length c ∧ b < w.heap.size ∧ w'.cell? ⟨b, off + i, none⟩ = some u := by
  obtain ⟨A, c, rfl, _, hr, _, _⟩ := h
  obtain ⟨b, off, rfl, hlt, hc⟩ := hr.atE hx hb
  refine ⟨b, off, c, rfl, hlt, ?_⟩
  have := hc 0 u (by rw [hu]; rfl)
  simpa using this
set_option maxHeartbeats 1000000 in
set_option maxRecDepth 100000 in
theorem index_any (A : Option Addr) (c : Nat) (ks : List ByteArray) (t : ByteArray) (w : World) (HR : RowE encS 1 w A ks) (hl : ks.length ≤ 140737488355328) :
    Calls Try.prog 45 #[.slice A ks.length c, .string t] w fun e w' => ∃ i : Int, e = .returned (.int .i64 i) ∧ (bsF ks t = decide (0 ≤ i)) ∧ w = w' := by
  have HX := Lib.hid HR
  have HD : Hid (bsF ks t = (ks.drop 0).any (fun k => k.toList == t.toList)) := Lib.hid rfl
  clear HR
  generalize bsF ks t = f at *
  go_enter Try.func45, Try.ntmps45
  go_wp2_with fail
  go_loopw [8] (fun i wr => ∃ j : Nat, j ≤ ks.length ∧ i = .int .i64 j ∧ w = wr ∧ Hid (f = (ks.drop j).any (fun k => k.toList == t.toList))) (fun i _ => ks.length - (Lib.intOf i).toNat)
  case atStart => exact ⟨0, Nat.zero_le _, rfl, rfl, HD⟩
  case round =>
  clear HD
  obtain ⟨j, hj, rfl, rfl, HD⟩ := hrel
  by_cases hlt : j < ks.length
  · obtain ⟨k, hk⟩ : ∃ k, ks[j]? = some k := ⟨_, List.getElem?_eq_getElem hlt⟩
    obtain ⟨b, off, rfl, hb, hce⟩ := HX.out.atE hk (Below.refl _ _)
    have x0 : w.cell? ⟨b, off + j, none⟩ = some (.string k) := by have := hce 0 _ rfl; simpa using this
    have e : ks.drop j = k :: ks.drop (j + 1) := by
      rw [List.drop_eq_getElem_cons hlt]
      rw [List.getElem?_eq_getElem hlt] at hk
      rw [Option.some.inj hk]
    have hd := HD.out
    rw [e, List.any_cons] at hd
    clear hk hce e
    cases q : (t.toList == k.toList) with
    | true =>
      have q2 : (k.toList == t.toList) = true := by rw [beq_iff_eq] at q ⊢; exact q.symm
      rw [q2, Bool.true_or] at hd
      subst hd
      clear HD q2
      go_wp2_with fail
      go_ret
      exact ⟨(j : Int), rfl, by simp, rfl⟩
    | false =>
      have q2 : (k.toList == t.toList) = false := by rw [beq_eq_false_iff_ne] at q ⊢; exact fun e => q e.symm
      rw [q2, Bool.false_or] at hd
      have HD2 := Lib.hid hd
      clear hd HD q2
      go_wp2_with fail
      go_roundw
      case rel => exact ⟨j + 1, by omega, by go_num, (by first | trivial | rfl), HD2⟩
      case measure => simp [Lib.intOf]; omega
  · obtain rfl : j = ks.length := by omega
    have hf : f = false := by rw [HD.out, List.drop_length]; rfl
    subst hf
    go_wp2
    go_ret
    exact ⟨-1, rfl, rfl, rfl⟩
set_option maxRecDepth 100000 in
theorem contains_any (A : Option Addr) (c : Nat) (ks : List ByteArray) (t : ByteArray) (w : World) (HR : RowE encS 1 w A ks) (hl : ks.length ≤ 140737488355328) :
    Calls Try.prog 28 #[.slice A ks.length c, .string t] w fun e w' => e = .returned (.bool (bsF ks t)) ∧ w = w' := by
  have hi := index_any A c ks t w HR hl
  generalize bsF ks t = f at *
  go_enter Try.func28, Try.ntmps28
  go_wp2_with fail
  refine hi.mono ?_
  rintro e w' ⟨i, rfl, hf, rfl⟩
  subst hf
  clear hi
  go_wp2
  go_ret
  exact ⟨rfl, rfl⟩
theorem trAt_drewN {w : World} {P : Nat → Prop} {g : Nat} {t : Tr} (h : TrAt w P g t) (n : Nat) : TrAt (w.drewN n) P g t := h.below (below_drewN (Below.refl _ _) n)
set_option maxHeartbeats 1000000 in
set_option maxRecDepth 100000 in
theorem leafOf_any (key : ByteArray) (t : Tr) (P : Nat → Prop) (g : Nat) (w : World) (hT : TrAt w P g t) (hO : OkT t) :
    Calls Try.prog 29 #[.pointer (some ⟨g, 0, none⟩), .string key] w fun e w' => ∃ g' P', e = .returned (.pointer (some ⟨g', 0, none⟩)) ∧ TrAt w' P' g' (leafT key t) ∧ OkT (leafT key t) ∧ (leafT key t).kids = [] ∧ Below w.heap.size w w' := by
  have HT := Lib.hid hT
  have HO := Lib.hid hO
  clear hT hO
  obtain ⟨L, hL⟩ : ∃ L, leafT key t = L := ⟨_, rfl⟩
  have HL := Lib.hid hL
  rw [hL]
  clear hL
  go_enter Try.func29, Try.ntmps29
  go_wp2_with fail
  go_loopg [0] (szT t) (fun k p wr => ∃ (g : Nat) (t : Tr) (P : Nat → Prop), Hid (k = szT t) ∧ p = .pointer (some ⟨g, 0, none⟩) ∧ Hid (TrAt wr P g t) ∧ Hid (OkT t) ∧ Hid (leafT key t = L) ∧ Hid (Below w.heap.size w wr))
  case atStart => exact ⟨g, t, P, Lib.hid rfl, rfl, HT, HO, HL, Lib.hid (Below.refl _ _)⟩
  case round =>
  clear HT HO HL
  obtain ⟨g, t, P, HK, rfl, HT, HO, HL, HF⟩ := hrel
  obtain ⟨ks, vs, ts⟩ := t
  obtain ⟨kv, vv, iv, ps, hN, hA, hPg, hk, hv, hi, hTs⟩ := HT.out.node
  obtain ⟨hR, h1, h4, hleaf, hinner, hOs⟩ := HO.out.parts
  obtain ⟨KA, kc, rfl, hkc, hkr, hkn, hka⟩ := hN.rk
  by_cases h0 : ts = []
  · subst h0
    have hLf : leafT key (.mk ks vs []) = .mk ks vs [] := by unfold leafT; rfl
    have HLf := Lib.hid (hLf.symm.trans HL.out)
    obtain ⟨IA, ic, rfl, hic, hir, hin, hia⟩ := hN.ri
    have hpl : ps.length = 0 := by have := hN.len; simpa using this
    have HN := Lib.hid hN.box
    have c2 := hN.box.c 2 _ rfl
    rw [hpl] at c2
    have lB := hN.box.lt
    clear hN hA hPg hk hv hi hTs hR hOs hkr hka hir hia hLf hleaf hinner
    go_wp2_with fail
    go_ret
    refine ⟨g, P, rfl, ?_, ?_, ?_, HF.out⟩
    · rw [← HLf.out]; exact HT.out
    · rw [← HLf.out]; exact HO.out
    · rw [← HLf.out]; rfl
  · obtain ⟨htl, hvn⟩ := hinner h0
    have hwl := wayS_le (ks := ks) (t := key) hR
    obtain ⟨t1, ht1⟩ : ∃ t1, ts[wayS ks key]? = some t1 := ⟨_, List.getElem?_eq_getElem (by omega)⟩
    obtain ⟨p1, P1, hp1, hPP, hT1⟩ := hTs.get ht1
    obtain ⟨bI, oI, ic, rfl, hbI, hce⟩ := hN.ri.cell hp1 rfl (Below.refl _ _)
    have hnode := leafT_node key (ks := ks) (vs := vs) ht1
    have hsz : szT t1 < szT (Tr.mk ks vs ts) := szT_kid (List.mem_of_getElem? ht1)
    have HSZ := Lib.hid hsz
    have HL1 := Lib.hid (hnode.symm.trans HL.out)
    have HT1 := Lib.hid hT1
    have HO1 := Lib.hid (OkTs.mem hOs t1 (List.mem_of_getElem? ht1))
    have hpl := hN.len
    have hlen0 : 0 < ps.length := by omega
    have hw1 : wayS ks key < ps.length := by omega
    have A1 := fun n => (way_any g KA kc vv (.slice (some ⟨bI, oI, none⟩) ps.length ic) ks key (wr.drewN n) (hN.box.drewN n) hkr hR (by omega)).mono (fun e w' h => (⟨h.1, h.2.symm⟩ : e = _ ∧ w' = _))
    have HA1 := Lib.hid A1
    have c2 := hN.box.c 2 _ rfl
    have lB := hN.box.lt
    clear A1 hN hA hPg hk hv hi hTs hR hOs hkr hka hleaf hinner hT1 hnode hsz ht1 hp1 h0 hPP
    generalize wayS ks key = wi at *
    go_upto_region 2 with (fail)
    go_quiet ((go_at_call 46; (with_reducible exact Calls.quiet_of_same (HA1.out _))))
    go_wp2_with fail
    go_roundg (szT t1)
    case measure => rw [HK.out]; exact HSZ.out
    case rel => exact ⟨p1, t1, P1, Lib.hid rfl, rfl, Lib.hid (trAt_drewN HT1.out _), HO1, HL1, Lib.hid (below_drewN HF.out _)⟩
end Go.Proofs.Ytkecbghnapjecaa
