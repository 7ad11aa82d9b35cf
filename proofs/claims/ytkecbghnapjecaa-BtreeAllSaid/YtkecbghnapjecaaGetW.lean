/- Package btree: Get. -/
import Derived.Test.YtkecbghnapjecaaTopW
namespace Go.Proofs.Ytkecbghnapjecaa
open Go.RowKit
set_option linter.unusedVariables false
set_option linter.unusedSimpArgs false
/-- A leaf's value of a key. -/
def valT (t : Tr) (key : ByteArray) : ByteArray := if bsF t.keys key then (t.vals[bsI t.keys key]?).getD ⟨#[]⟩ else ⟨#[]⟩
def getS (s : List Nd) (root : Int) (key : ByteArray) : ByteArray × Bool × Int :=
  match readS s root with
  | none => (⟨#[]⟩, false, 9)
  | some (none, _, _) => (⟨#[]⟩, false, 0)
  | some (some t, _, _) => (valT (leafT key t) key, bsF (leafT key t).keys key, 0)
theorem bsF_lt {ks : List ByteArray} {t : ByteArray} (hs : Rise ks) (h : bsF ks t = true) : bsI ks t < ks.length := by
  have := wayS_le (t := t) hs
  unfold wayS at this
  rw [if_pos h] at this
  omega
/-- The leaf with a key; where in it the key is; its value. -/
theorem leaf_val (key : ByteArray) (t : Tr) (P : Nat → Prop) (g : Nat) (w : World) (hT : TrAt w P g t) (hO : OkT t) :
    Calls Try.prog 29 #[.pointer (some ⟨g, 0, none⟩), .string key] w fun e w' => ∃ g' kv vv, e = .returned (.pointer (some ⟨g', 0, none⟩)) ∧ ((w'.cell? ⟨g', 0, none⟩ = some kv ∧ w'.cell? ⟨g', 1, none⟩ = some vv) ∧ g' < w'.heap.size) ∧ (Calls Try.prog 39 #[kv, .string key] w' fun e w'' => e = .returned (.tuple #[.int .i64 (bsI (leafT key t).keys key), .bool (bsF (leafT key t).keys key)]) ∧ w' = w'') ∧
      (bsF (leafT key t).keys key = true → ∃ b off n c, vv = .slice (some ⟨b, off, none⟩) n c ∧ bsI (leafT key t).keys key < n ∧ b < w'.heap.size ∧ w'.cell? ⟨b, off + bsI (leafT key t).keys key, none⟩ = some (.string (valT (leafT key t) key))) ∧ Below w.heap.size w w' := by
  refine (leafOf_any key t P g w hT hO).mono ?_
  rintro e w4 ⟨g', P', rfl, hT4, hO4, hk4, hb⟩
  generalize leafT key t = LT at *
  obtain ⟨ksL, vsL, tsL⟩ := LT
  obtain ⟨kvL, vvL, ivL, psL, hNL, _⟩ := hT4.node
  obtain ⟨hR4, _, h4L, hlf, _, _⟩ := hO4.parts
  have hvl := hlf hk4
  obtain ⟨KL, kcL, rfl, _, hkrL, _, _⟩ := hNL.rk
  refine ⟨g', _, vvL, rfl, ⟨⟨hNL.box.c 0 _ rfl, hNL.box.c 1 _ rfl⟩, hNL.box.lt⟩, bin_fun KL kcL ksL key w4 hkrL hR4 (by omega), fun hf => ?_, hb⟩
  have hlt := bsF_lt hR4 hf
  obtain ⟨v, hv⟩ : ∃ v, vsL[bsI ksL key]? = some v := ⟨_, List.getElem?_eq_getElem (by omega)⟩
  obtain ⟨b, off, c, hvv, hbl, hc⟩ := hNL.rv.cell hv rfl (Below.refl _ _)
  have hval : valT (.mk ksL vsL tsL) key = v := by
    unfold valT
    rw [if_pos (show bsF (Tr.mk ksL vsL tsL).keys key = true from hf)]
    show (vsL[bsI ksL key]?).getD _ = v
    rw [hv]; rfl
  rw [hval]
  exact ⟨b, off, vsL.length, c, hvv, by show bsI ksL key < vsL.length; omega, hbl, hc⟩
set_option maxHeartbeats 4000000 in
set_option maxRecDepth 100000 in
theorem get_top (NA : Option Addr) (nc : Nat) (root : Int) (s : List Nd) (key : ByteArray) (w : World) (hN : NodesOk w NA nc s) (hroot : InR root) :
    Calls Try.prog 22 #[.agg #[.slice NA s.length nc, .int .i64 root], .string key] w fun e w' => e = .returned (.tuple #[.string (getS s root key).1, .bool (getS s root key).2.1, .int .i64 (getS s root key).2.2]) ∧ Below w.heap.size w w' := by
  have hF0 : Below w.heap.size w (w.alloc (.cells #[.slice NA s.length nc, .int .i64 root] 27)) := (by (repeat (first | (with_reducible exact Below.refl _ _) | apply below_alloc _ (Nat.le_refl _) | refine below_set ?_ (by first | exact Nat.le_refl _ | omega) | apply below_drewN | refine below_step ?_ HB)))
  have hr := read_gen NA nc root s _ (hN.below hF0) hroot
  have HRD := Lib.hid hr
  have HF := Lib.hid hF0
  obtain ⟨RR, hRR⟩ : ∃ RR, getS s root key = RR := ⟨_, rfl⟩
  rw [hRR]
  unfold getS at hRR
  have HOK : Hid (∀ t d p, readS s root = some (some t, d, p) → OkT t) := Lib.hid (fun t d p h => (readS_ok h).1)
  generalize readS s root = R at *
  have HRR := Lib.hid hRR
  clear hr hF0 hN hRR
  go_enter Try.func22, Try.ntmps22
  go_wp2_with fail
  refine HRD.out.mono ?_
  rintro e w3 ⟨p0, rfl, hT, hb⟩
  replace HF := Lib.hid (below_step' HF.out hb)
  clear hb HRD
  rcases R with _ | ⟨o, d, p⟩
  · have hRR : RR = (⟨#[]⟩, false, 9) := HRR.out.symm
    subst hRR
    obtain rfl : p0 = .pointer none := hT
    simp only [rdD, rdP, rdE]
    clear HRR HOK
    go_wp2
    go_ret3
    exact ⟨rfl, HF.out⟩
  · simp only [rdD, rdP, rdE]
    cases o with
    | none =>
      have hRR : RR = (⟨#[]⟩, false, 0) := HRR.out.symm
      subst hRR
      obtain rfl : p0 = .pointer none := hT
      clear HRR HOK
      go_wp2
      go_ret3
      exact ⟨rfl, HF.out⟩
    | some t =>
      obtain ⟨g, rfl, hT⟩ := hT
      have hlf := leaf_val key t _ g w3 hT (HOK.out t d p rfl)
      have HLF := Lib.hid hlf
      have hRR : RR = (valT (leafT key t) key, bsF (leafT key t).keys key, 0) := HRR.out.symm
      have HR2 := Lib.hid hRR
      clear HRR HOK hlf hT hRR
      have hvz : bsF (leafT key t).keys key = false → valT (leafT key t) key = ⟨#[]⟩ := fun h => by unfold valT; rw [h]; rfl
      generalize valT (leafT key t) key = vl at *
      generalize bsI (leafT key t).keys key = ix at *
      generalize hfk : bsF (leafT key t).keys key = fk at *
      clear hfk
      have HVZ := Lib.hid hvz
      clear hvz
      go_wp2_with fail
      refine HLF.out.mono ?_
      rintro e w4 ⟨g', kv, vv, rfl, ⟨⟨c0, c1⟩, hl'⟩, hbin, hval, hb⟩
      have HBN := Lib.hid hbin
      have HVL := Lib.hid hval
      have HB4 := Lib.hid hb
      clear HLF hbin hval hb
      cases fk with
      | true =>
        obtain ⟨b, off, n, c, rfl, hixn, hbl, hcv⟩ := HVL.out rfl
        have hRR : RR = (vl, true, 0) := HR2.out
        subst hRR
        clear HR2 HVL
        go_wp2_with (go_at_call 39; (with_reducible refine HBN.out.mono ?_); rintro e w' ⟨rfl, rfl⟩)
        go_ret3
        exact ⟨rfl, HF.out.trans (HB4.out.mono HF.out.size)⟩
      | false =>
        have hRR : RR = (⟨#[]⟩, false, 0) := by rw [HR2.out, HVZ.out rfl]
        subst hRR
        clear HR2 HVL
        go_wp2_with (go_at_call 39; (with_reducible refine HBN.out.mono ?_); rintro e w' ⟨rfl, rfl⟩)
        go_ret3
        exact ⟨rfl, HF.out.trans (HB4.out.mono HF.out.size)⟩
end Go.Proofs.Ytkecbghnapjecaa
