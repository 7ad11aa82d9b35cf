/- Package btree: put. -/
import Derived.Test.YtkecbghnapjecaaPutL
import Derived.Test.YtkecbghnapjecaaStage
namespace Go.Proofs.Ytkecbghnapjecaa
open Go.RowKit
set_option linter.unusedVariables false
set_option linter.unusedSimpArgs false
/-- Blocks of rows that have grown, or are new. -/
theorem apn {N0 s : Nat} {a a' b : Value} (n : a'.ownBlock = a.ownBlock ∨ (a'.ownBlock = some s ∧ N0 ≤ s)) (h : ∀ k, a.ownBlock = some k → b.ownBlock ≠ some k) (lb : ∀ k, b.ownBlock = some k → k < N0) : ∀ k, a'.ownBlock = some k → b.ownBlock ≠ some k := fun k hk => by
  rcases n with n | ⟨n, hs⟩
  · exact h k (n ▸ hk)
  · intro hb
    have h1 := Option.some.inj (n.symm.trans hk)
    have := lb k hb
    omega
theorem apg {N0 s g : Nat} {a a' : Value} (n : a'.ownBlock = a.ownBlock ∨ (a'.ownBlock = some s ∧ N0 ≤ s)) (h : a.ownBlock ≠ some g) (lg : g < N0) : a'.ownBlock ≠ some g := by
  rcases n with n | ⟨n, hs⟩
  · rw [n]; exact h
  · intro hb
    have h1 := Option.some.inj (n.symm.trans hb)
    omega
theorem apm {N0 s : Nat} {a b b' : Value} (n : b'.ownBlock = b.ownBlock ∨ (b'.ownBlock = some s ∧ N0 ≤ s)) (h : ∀ k, a.ownBlock = some k → b.ownBlock ≠ some k) (la : ∀ k, a.ownBlock = some k → k < s) : ∀ k, a.ownBlock = some k → b'.ownBlock ≠ some k := fun k hk => by
  rcases n with n | ⟨n, hs⟩
  · rw [n]; exact h k hk
  · intro hb
    have h1 := Option.some.inj (n.symm.trans hb)
    have := la k hk
    omega
theorem ownP_kept {P B : Nat → Prop} {w w' : World} {e : TypeId} {v : Value} {n : Nat} {xs : List Value} (hk : Kept w.heap.size B w w') (h : OwnP P w e v n xs) (hB : ∀ k, B k → ¬ v.ownBlock = some k) : OwnP P w' e v n xs := ⟨hk.own h.1 (fun b hb => ⟨(h.1.lt b hb).2, fun q => hB b q hb⟩), h.2⟩
theorem own_kept {B : Nat → Prop} {base : Nat} {w w' : World} {e : TypeId} {v : Value} {n : Nat} {xs : List Value} (hk : Kept w.heap.size B w w') (h : w.ownsRow base e 1 v n xs) (hB : ∀ k, B k → ¬ v.ownBlock = some k) : w'.ownsRow base e 1 v n xs := hk.own h (fun b hb => ⟨(h.lt b hb).2, fun q => hB b q hb⟩)
def PutGo (key value : ByteArray) (t : Tr) : Prop := ∀ (P : Nat → Prop) (g : Nat) (w : World), TrAt w P g t → OkT t →
  Calls Try.prog 30 #[.pointer (some ⟨g, 0, none⟩), .string key, .string value] w fun e w' => e = .returned (.tuple #[]) ∧ TopAt w' (AndNew P w) g (putK key value t) ∧ Kept w.heap.size P w w'
/-- The node behind two Inserts. -/
theorem top_of {P KP : Nat → Prop} {w : World} {g N0 s1 s2 : Nat} {kv xv yv v1 v2 : Value} (hgl : g < N0) (hwN : w.heap.size ≤ N0) (hn1 : v1.ownBlock = kv.ownBlock ∨ (v1.ownBlock = some s1 ∧ N0 ≤ s1)) (hn2 : v2.ownBlock = xv.ownBlock ∨ (v2.ownBlock = some s2 ∧ N0 ≤ s2))
    (HPK : ∀ b, kv.ownBlock = some b → P b) (HPX : ∀ b, xv.ownBlock = some b → P b) (HKR : ∀ b, KP b → b ≠ g ∧ kv.ownBlock ≠ some b ∧ xv.ownBlock ≠ some b ∧ yv.ownBlock ≠ some b ∧ AndNew P w b) :
    (∀ b, v1.ownBlock = some b → AndNew P w b) ∧ (∀ b, v2.ownBlock = some b → AndNew P w b) ∧ ∀ b, KP b ∧ b < N0 → AndNew P w b ∧ b ≠ g ∧ v1.ownBlock ≠ some b ∧ v2.ownBlock ≠ some b ∧ yv.ownBlock ≠ some b := by
  refine ⟨fun b hb => ?_, fun b hb => ?_, fun b ⟨h, hl⟩ => ?_⟩
  · rcases hn1 with h | ⟨h, h'⟩
    · exact .inl (HPK b (h ▸ hb))
    · have := Option.some.inj (h.symm.trans hb)
      exact .inr (by omega)
  · rcases hn2 with h | ⟨h, h'⟩
    · exact .inl (HPX b (h ▸ hb))
    · have := Option.some.inj (h.symm.trans hb)
      exact .inr (by omega)
  · obtain ⟨h1, h2, h3, h4, h5⟩ := HKR b h
    refine ⟨h5, h1, ?_, ?_, h4⟩
    · rcases hn1 with q | ⟨q, q'⟩
      · rw [q]; exact h2
      · intro e; have := Option.some.inj (q.symm.trans e); omega
    · rcases hn2 with q | ⟨q, q'⟩
      · rw [q]; exact h3
      · intro e; have := Option.some.inj (q.symm.trans e); omega
set_option maxHeartbeats 4000000 in
set_option maxRecDepth 100000 in
theorem put_leaf (key value : ByteArray) (ks vs : List ByteArray) : PutGo key value (.mk ks vs []) := by
  intro P g w hT hO
  obtain ⟨kv, xv, yv, ps, hN, hA, hPg, hk, hv, hy, hTs⟩ := hT.node
  obtain ⟨hR, h1, h4, hleaf, _, _⟩ := hO.parts
  have hvl := hleaf rfl
  have HVL := Lib.hid hvl
  have hp0 : ps = [] := by have := hN.len; simpa using this
  subst hp0
  rw [putK_leaf]
  have hile := bsI_le ks key
  have hkr0 := hN.rk
  obtain ⟨KA, kc, hkv, _, hkr, _, _⟩ := hN.rk
  have hbin := fun W (hW : Below w.heap.size w W) => bin_fun KA kc ks key W (hkr.below hW) hR (by omega)
  rw [← hkv] at hbin
  have HBIN := Lib.hid hbin
  have HB := Lib.hid hN.box
  have HPK := Lib.hid hk.2
  have HPX := Lib.hid hv.2
  have HPG := Lib.hid hPg
  have AKX := Lib.hid hA.2.2.1
  have AKG := Lib.hid hA.1
  have AXG := Lib.hid hA.2.1
  have AYG := Lib.hid hA.2.2.2.1
  have AKY : Hid (∀ k, kv.ownBlock = some k → yv.ownBlock ≠ some k) := Lib.hid (fun k h h' => (hA.2.2.2.2 k h').1 h)
  have AXY : Hid (∀ k, xv.ownBlock = some k → yv.ownBlock ≠ some k) := Lib.hid (fun k h h' => (hA.2.2.2.2 k h').2 h)
  have HY := Lib.hid hy
  have HK1 := Lib.hid hk.1
  have HX1 := Lib.hid hv.1
  obtain ⟨KP, hKP1⟩ : ∃ KP, Rest (AndNew P w) g kv xv yv = KP := ⟨_, rfl⟩
  have HKR : Hid (∀ b, KP b → b ≠ g ∧ kv.ownBlock ≠ some b ∧ xv.ownBlock ≠ some b ∧ yv.ownBlock ≠ some b ∧ AndNew P w b) := Lib.hid (fun b hb => by
    subst hKP1
    exact ⟨hb.2.1, hb.2.2.1, hb.2.2.2.1, hb.2.2.2.2, hb.1⟩)
  have HR : Hid (RdsT w KP [] []) := Lib.hid (by unfold RdsT; rfl)
  clear hKP1
  have hKP0 := Kept.refl w.heap.size P w
  have HKP := Lib.hid hKP0
  have hll : (bsF ks key = true → bsI ks key < ks.length) := fun h => by
    have := wayS_le (t := key) hR
    unfold wayS at this
    rw [if_pos h] at this
    omega
  clear hN hA hTs hkr hkr0 hR hO hT hbin hvl hleaf hKP0 hk hv hy
  generalize bsI ks key = i at *
  generalize bsF ks key = f at *
  go_enter Try.func30, Try.ntmps30
  have c2 := HB.out.c 2 _ rfl
  obtain ⟨YA, yc, rfl, _, _⟩ := own_slice HY.out.1
  clear hkv
  go_upto_region 1 with (fail)
  clear c2
  generalize hyv : Value.slice YA [].length yc = yv at *
  clear hyv
  have cHB0 := HB.out.c 0 _ rfl; have fHB0 := HB.out.f 0 (by simp); have cHB1 := HB.out.c 1 _ rfl; have fHB1 := HB.out.f 1 (by simp); have cHB2 := HB.out.c 2 _ rfl; have fHB2 := HB.out.f 2 (by simp); have lHB := HB.out.lt
  go_wp2_with fail
  refine (HBIN.out w (Below.refl _ _)).mono ?_
  rintro e w1 ⟨rfl, rfl⟩
  cases f with
  | true =>
    have hil := hll rfl
    have HIL := Lib.hid hil
    clear hll
    obtain ⟨gx, xc, rfl, hxc⟩ := own_pos HX1.out (by have := HVL.out; omega)
    have x1 := HX1.out.cellAt i (by have := HVL.out; omega)
    have x2 := HX1.out.frozenAt i
    have hxs : (vs.flatMap encS)[i]? = some (.string (vs[i]'(by have := HVL.out; omega))) := by rw [flat_encS]; simp
    rw [hxs] at x1
    have hil2 : i < vs.length := by have := HVL.out; omega
    clear hxs
    go_wp2_with fail
    clear cHB0 fHB0 cHB1 fHB1 cHB2 fHB2 lHB
    refine bodyPost_ret (results_none rfl _ _ _) rfl ?_
    have hgx : ¬ gx = g := fun e => AXG.out (by rw [e]; rfl)
    have hX := own_store (.string value) HX1.out (by omega : i < vs.length)
    have hset : Kept w.heap.size (fun k => k = gx) w (w.setCell ⟨gx, i, none⟩ (.string value)) := (Kept.refl _ _ _).set _ _ (.inr rfl)
    have hxe : (vs.flatMap encS).set i (.string value) = (vs.set i value).flatMap encS := by rw [flat_encS, flat_encS, List.map_set]
    rw [hxe] at hX
    refine ⟨rfl, ⟨kv, _, yv, [], HB.out.other ⟨gx, i, none⟩ (.string value) hgx, ⟨own_kept hset HK1.out (fun k hk h => AKX.out k h (by rw [hk]; rfl)), fun b hb => .inl (HPK.out b hb)⟩, ⟨by simpa using hX, fun b hb => .inl (HPX.out b hb)⟩, ⟨(ownP_kept hset HY.out (fun k hk h => AXY.out k (by rw [hk]; rfl) h)).1, fun b hb => .inl (HY.out.2 b hb)⟩, .inl HPG.out, ⟨AKG.out, AXG.out, AKX.out, AYG.out, fun b hb => ⟨fun h => AKY.out b h hb, fun h => AXY.out b h hb⟩⟩, by unfold RdsT; rfl⟩, HKP.out.set _ _ (.inr (HPX.out gx rfl))⟩
  | false =>
    clear hll
    go_upto_region 4 with (fail)
    clear cHB0 fHB0 cHB1 fHB1 cHB2 fHB2 lHB
    refine stage_begin (S := fun (L' : Array Bool) (w' : World) => (L'.getD 20 false = false → w'.cell? ⟨g, 0, none⟩ = some kv) ∧ (L'.getD 23 false = false → w'.cell? ⟨g, 1, none⟩ = some xv)) (by kernel_rfl) ?_
    have hdr : Below w.heap.size w w.drew := below_drewN (Below.refl _ _) 1
    replace HB := Lib.hid HB.out.drew
    replace HK1 := Lib.hid (own_below HK1.out hdr)
    replace HX1 := Lib.hid (own_below HX1.out hdr)
    replace HY := Lib.hid (HY.out.below hdr)
    replace HR := Lib.hid (HR.out.below hdr)
    replace HKP := Lib.hid (HKP.out.trans (Kept.of_below hdr HKP.out.size))
    clear hdr
    generalize w.drew = wd0 at *
    obtain ⟨N0, hN0⟩ : ∃ N0, wd0.heap.size = N0 := ⟨_, rfl⟩
    replace HR := Lib.hid (HR.out.mono (P' := fun b => KP b ∧ b < N0) (fun b hb h => ⟨h, by omega⟩))
    have hgl : g < N0 := by have := HB.out.lt; omega
    have hwN : w.heap.size ≤ N0 := by have := HKP.out.size; omega
    have hkl : ∀ b, kv.ownBlock = some b → b < N0 := fun b hb => by have := (HK1.out.lt b hb).2; omega
    have hxl : ∀ b, xv.ownBlock = some b → b < N0 := fun b hb => by have := (HX1.out.lt b hb).2; omega
    have hyl : ∀ b, yv.ownBlock = some b → b < N0 := fun b hb => by have := (HY.out.1.lt b hb).2; omega
    have hsz : N0 ≤ wd0.heap.size := by omega
    clear hN0
    have hS0 : wd0.cell? ⟨g, 0, none⟩ = some kv := HB.out.c 0 _ rfl
    have hS1 : wd0.cell? ⟨g, 1, none⟩ = some xv := HB.out.c 1 _ rfl
    refine stage_take (i := 0) (oi := { dst := some 35, op := Go.Op.move (Go.Operand.tmp 0), type := 67, pos := "btree.go:175", after := #[], guard := none }) (v := ?_) (T := fun _ => True) rfl (by kernel_rfl) (by kernel_rfl) (by kernel_rfl) (by kernel_rfl) (fun _ _ _ h => h) (fun L' w' hW hS => trivial) (fun L' w' hS => ⟨fun h => hS.1 (by rw [getD_set_ne false (by decide)]; exact h), fun h => hS.2 (by rw [getD_set_ne false (by decide)]; exact h)⟩) (Or.inl ⟨by rfl, ?_⟩) trivial (⟨fun _ => hS0, fun _ => hS1⟩) ?_
    rotate_left 1
    · intro w9 _; go_simp; (try with_reducible rfl)
    try simp only [Act.put, List.setIfInBounds_toArray, List.set_cons_zero, List.set_cons_succ]
    refine stage_take (i := 1) (oi := { dst := some 36, op := Go.Op.move (Go.Operand.tmp 0), type := 67, pos := "btree.go:175", after := #[{ on := 20, ground := Go.Ground.gcOnly Go.Departure.lateStores }], guard := none }) (v := ?_) (T := fun _ => True) rfl (by kernel_rfl) (by kernel_rfl) (by kernel_rfl) (by kernel_rfl) (fun _ _ _ h => h) (fun L' w' hW hS => trivial) (fun L' w' hS => ⟨fun h => hS.1 (by rw [getD_set_ne false (by decide)]; exact h), fun h => hS.2 (by rw [getD_set_ne false (by decide)]; exact h)⟩) (Or.inl ⟨by rfl, ?_⟩) trivial (⟨fun _ => hS0, fun _ => hS1⟩) ?_
    rotate_left 1
    · intro w9 _; go_simp; (try with_reducible rfl)
    try simp only [Act.put, List.setIfInBounds_toArray, List.set_cons_zero, List.set_cons_succ]
    refine stage_take (i := 2) (oi := { dst := some 37, op := Go.Op.move (Go.Operand.tmp 0), type := 67, pos := "btree.go:175", after := #[], guard := none }) (v := ?_) (T := fun _ => True) rfl (by kernel_rfl) (by kernel_rfl) (by kernel_rfl) (by kernel_rfl) (fun _ _ _ h => h) (fun L' w' hW hS => trivial) (fun L' w' hS => ⟨fun h => hS.1 (by rw [getD_set_ne false (by decide)]; exact h), fun h => hS.2 (by rw [getD_set_ne false (by decide)]; exact h)⟩) (Or.inl ⟨by rfl, ?_⟩) trivial (⟨fun _ => hS0, fun _ => hS1⟩) ?_
    rotate_left 1
    · intro w9 _; go_simp; (try with_reducible rfl)
    try simp only [Act.put, List.setIfInBounds_toArray, List.set_cons_zero, List.set_cons_succ]
    refine stage_take (i := 3) (oi := { dst := some 38, op := Go.Op.nilCheck (Go.Operand.tmp 37), type := 0, pos := "btree.go:175", after := #[{ on := 2, ground := Go.Ground.data }], guard := none }) (v := ?_) (T := fun _ => True) rfl (by kernel_rfl) (by kernel_rfl) (by kernel_rfl) (by kernel_rfl) (fun _ _ _ h => h) (fun L' w' hW hS => trivial) (fun L' w' hS => ⟨fun h => hS.1 (by rw [getD_set_ne false (by decide)]; exact h), fun h => hS.2 (by rw [getD_set_ne false (by decide)]; exact h)⟩) (Or.inl ⟨by rfl, ?_⟩) trivial (⟨fun _ => hS0, fun _ => hS1⟩) ?_
    rotate_left 1
    · intro w9 _; go_simp; (try with_reducible rfl)
    try simp only [Act.put, List.setIfInBounds_toArray, List.set_cons_zero, List.set_cons_succ]
    refine stage_take (i := 4) (oi := { dst := some 39, op := Go.Op.fieldAddr 73 (Go.Operand.tmp 38) 0, type := 0, pos := "btree.go:175", after := #[{ on := 3, ground := Go.Ground.data }], guard := none }) (v := ?_) (T := fun _ => True) rfl (by kernel_rfl) (by kernel_rfl) (by kernel_rfl) (by kernel_rfl) (fun _ _ _ h => h) (fun L' w' hW hS => trivial) (fun L' w' hS => ⟨fun h => hS.1 (by rw [getD_set_ne false (by decide)]; exact h), fun h => hS.2 (by rw [getD_set_ne false (by decide)]; exact h)⟩) (Or.inl ⟨by rfl, ?_⟩) trivial (⟨fun _ => hS0, fun _ => hS1⟩) ?_
    rotate_left 1
    · intro w9 _; go_simp; (try with_reducible rfl)
    try simp only [Act.put, List.setIfInBounds_toArray, List.set_cons_zero, List.set_cons_succ]
    refine stage_take (i := 5) (oi := { dst := some 40, op := Go.Op.load 57 (Go.Operand.tmp 39), type := 57, pos := "btree.go:175", after := #[{ on := 4, ground := Go.Ground.data }], guard := none }) (v := ?_) (T := fun w' : World => w'.cell? ⟨g, 0, none⟩ = some kv) rfl (by kernel_rfl) (by kernel_rfl) (by kernel_rfl) (by kernel_rfl) (fun _ _ _ h => h) (fun L' w' hW hS => hS.1 (not_yet hW (by kernel_rfl))) (fun L' w' hS => ⟨fun h => hS.1 (by rw [getD_set_ne false (by decide)]; exact h), fun h => hS.2 (by rw [getD_set_ne false (by decide)]; exact h)⟩) (Or.inl ⟨by rfl, ?_⟩) (hS0) (⟨fun _ => hS0, fun _ => hS1⟩) ?_
    rotate_left 1
    · intro w9 zA; go_simp; (try with_reducible rfl)
    try simp only [Act.put, List.setIfInBounds_toArray, List.set_cons_zero, List.set_cons_succ]
    refine stage_take (i := 6) (oi := { dst := some 41, op := Go.Op.move (Go.Operand.tmp 6), type := 3, pos := "btree.go:175", after := #[], guard := none }) (v := ?_) (T := fun _ => True) rfl (by kernel_rfl) (by kernel_rfl) (by kernel_rfl) (by kernel_rfl) (fun _ _ _ h => h) (fun L' w' hW hS => trivial) (fun L' w' hS => ⟨fun h => hS.1 (by rw [getD_set_ne false (by decide)]; exact h), fun h => hS.2 (by rw [getD_set_ne false (by decide)]; exact h)⟩) (Or.inl ⟨by rfl, ?_⟩) trivial (⟨fun _ => hS0, fun _ => hS1⟩) ?_
    rotate_left 1
    · intro w9 _; go_simp; (try with_reducible rfl)
    try simp only [Act.put, List.setIfInBounds_toArray, List.set_cons_zero, List.set_cons_succ]
    refine stage_take (i := 7) (oi := { dst := some 42, op := Go.Op.move (Go.Operand.tmp 1), type := 9, pos := "btree.go:175", after := #[], guard := none }) (v := ?_) (T := fun _ => True) rfl (by kernel_rfl) (by kernel_rfl) (by kernel_rfl) (by kernel_rfl) (fun _ _ _ h => h) (fun L' w' hW hS => trivial) (fun L' w' hS => ⟨fun h => hS.1 (by rw [getD_set_ne false (by decide)]; exact h), fun h => hS.2 (by rw [getD_set_ne false (by decide)]; exact h)⟩) (Or.inl ⟨by rfl, ?_⟩) trivial (⟨fun _ => hS0, fun _ => hS1⟩) ?_
    rotate_left 1
    · intro w9 _; go_simp; (try with_reducible rfl)
    try simp only [Act.put, List.setIfInBounds_toArray, List.set_cons_zero, List.set_cons_succ]
    refine stage_take (i := 10) (oi := { dst := some 45, op := Go.Op.move (Go.Operand.tmp 0), type := 67, pos := "btree.go:175", after := #[], guard := none }) (v := ?_) (T := fun _ => True) rfl (by kernel_rfl) (by kernel_rfl) (by kernel_rfl) (by kernel_rfl) (fun _ _ _ h => h) (fun L' w' hW hS => trivial) (fun L' w' hS => ⟨fun h => hS.1 (by rw [getD_set_ne false (by decide)]; exact h), fun h => hS.2 (by rw [getD_set_ne false (by decide)]; exact h)⟩) (Or.inl ⟨by rfl, ?_⟩) trivial (⟨fun _ => hS0, fun _ => hS1⟩) ?_
    rotate_left 1
    · intro w9 _; go_simp; (try with_reducible rfl)
    try simp only [Act.put, List.setIfInBounds_toArray, List.set_cons_zero, List.set_cons_succ]
    refine stage_take (i := 11) (oi := { dst := some 46, op := Go.Op.nilCheck (Go.Operand.tmp 45), type := 0, pos := "btree.go:175", after := #[{ on := 10, ground := Go.Ground.data }], guard := none }) (v := ?_) (T := fun _ => True) rfl (by kernel_rfl) (by kernel_rfl) (by kernel_rfl) (by kernel_rfl) (fun _ _ _ h => h) (fun L' w' hW hS => trivial) (fun L' w' hS => ⟨fun h => hS.1 (by rw [getD_set_ne false (by decide)]; exact h), fun h => hS.2 (by rw [getD_set_ne false (by decide)]; exact h)⟩) (Or.inl ⟨by rfl, ?_⟩) trivial (⟨fun _ => hS0, fun _ => hS1⟩) ?_
    rotate_left 1
    · intro w9 _; go_simp; (try with_reducible rfl)
    try simp only [Act.put, List.setIfInBounds_toArray, List.set_cons_zero, List.set_cons_succ]
    refine stage_take (i := 12) (oi := { dst := some 47, op := Go.Op.fieldAddr 73 (Go.Operand.tmp 46) 1, type := 0, pos := "btree.go:175", after := #[{ on := 11, ground := Go.Ground.data }], guard := none }) (v := ?_) (T := fun _ => True) rfl (by kernel_rfl) (by kernel_rfl) (by kernel_rfl) (by kernel_rfl) (fun _ _ _ h => h) (fun L' w' hW hS => trivial) (fun L' w' hS => ⟨fun h => hS.1 (by rw [getD_set_ne false (by decide)]; exact h), fun h => hS.2 (by rw [getD_set_ne false (by decide)]; exact h)⟩) (Or.inl ⟨by rfl, ?_⟩) trivial (⟨fun _ => hS0, fun _ => hS1⟩) ?_
    rotate_left 1
    · intro w9 _; go_simp; (try with_reducible rfl)
    try simp only [Act.put, List.setIfInBounds_toArray, List.set_cons_zero, List.set_cons_succ]
    refine stage_take (i := 13) (oi := { dst := some 48, op := Go.Op.load 57 (Go.Operand.tmp 47), type := 57, pos := "btree.go:175", after := #[{ on := 12, ground := Go.Ground.data }], guard := none }) (v := ?_) (T := fun w' : World => w'.cell? ⟨g, 1, none⟩ = some xv) rfl (by kernel_rfl) (by kernel_rfl) (by kernel_rfl) (by kernel_rfl) (fun _ _ _ h => h) (fun L' w' hW hS => hS.2 (not_yet hW (by kernel_rfl))) (fun L' w' hS => ⟨fun h => hS.1 (by rw [getD_set_ne false (by decide)]; exact h), fun h => hS.2 (by rw [getD_set_ne false (by decide)]; exact h)⟩) (Or.inl ⟨by rfl, ?_⟩) (hS1) (⟨fun _ => hS0, fun _ => hS1⟩) ?_
    rotate_left 1
    · intro w9 zA; go_simp; (try with_reducible rfl)
    try simp only [Act.put, List.setIfInBounds_toArray, List.set_cons_zero, List.set_cons_succ]
    refine stage_take (i := 14) (oi := { dst := some 49, op := Go.Op.move (Go.Operand.tmp 6), type := 3, pos := "btree.go:175", after := #[], guard := none }) (v := ?_) (T := fun _ => True) rfl (by kernel_rfl) (by kernel_rfl) (by kernel_rfl) (by kernel_rfl) (fun _ _ _ h => h) (fun L' w' hW hS => trivial) (fun L' w' hS => ⟨fun h => hS.1 (by rw [getD_set_ne false (by decide)]; exact h), fun h => hS.2 (by rw [getD_set_ne false (by decide)]; exact h)⟩) (Or.inl ⟨by rfl, ?_⟩) trivial (⟨fun _ => hS0, fun _ => hS1⟩) ?_
    rotate_left 1
    · intro w9 _; go_simp; (try with_reducible rfl)
    try simp only [Act.put, List.setIfInBounds_toArray, List.set_cons_zero, List.set_cons_succ]
    refine stage_take (i := 15) (oi := { dst := some 50, op := Go.Op.move (Go.Operand.tmp 2), type := 9, pos := "btree.go:175", after := #[], guard := none }) (v := ?_) (T := fun _ => True) rfl (by kernel_rfl) (by kernel_rfl) (by kernel_rfl) (by kernel_rfl) (fun _ _ _ h => h) (fun L' w' hW hS => trivial) (fun L' w' hS => ⟨fun h => hS.1 (by rw [getD_set_ne false (by decide)]; exact h), fun h => hS.2 (by rw [getD_set_ne false (by decide)]; exact h)⟩) (Or.inl ⟨by rfl, ?_⟩) trivial (⟨fun _ => hS0, fun _ => hS1⟩) ?_
    rotate_left 1
    · intro w9 _; go_simp; (try with_reducible rfl)
    try simp only [Act.put, List.setIfInBounds_toArray, List.set_cons_zero, List.set_cons_succ]
    refine stage_all (rs := [8, 16]) (by kernel_rfl) (by simp) (fun i0 hi0 => ?_)
    simp only [List.mem_cons, List.not_mem_nil, or_false] at hi0
    rcases hi0 with rfl | rfl
    · refine stage_step (S := fun (L' : Array Bool) (w' : World) => (L'.getD 20 false = false → w'.cell? ⟨g, 0, none⟩ = some kv) ∧ (L'.getD 23 false = false → w'.cell? ⟨g, 1, none⟩ = some xv)) (o := { dst := some 43, op := Go.Op.buildSlice 57 1 #[(0, Go.Operand.tmp 42)], type := 57, pos := "btree.go:175", after := #[{ on := 7, ground := Go.Ground.data }], guard := none }) (by rfl) (fun K2 hK => ?_)
      clear hS0 hS1
      go_simp
      have hal : Below wd0.heap.size wd0 (wd0.alloc (.cells #[.string key] 9)) := (Below.refl _ _).alloc (Nat.le_refl _) _
      replace HB := Lib.hid (HB.out.alloc (.cells #[.string key] 9))
      replace HY := Lib.hid (HY.out.below hal)
      replace HR := Lib.hid (HR.out.below hal)
      replace HX1 := Lib.hid (own_below HX1.out hal)
      replace HK1 := Lib.hid (own_below HK1.out hal)
      replace HKP := Lib.hid (HKP.out.trans (Kept.of_below hal HKP.out.size))
      have HQ1 : Hid ((wd0.alloc (.cells #[.string key] 9)).heap[wd0.heap.size]? = some (.cells #[.string key] 9 (0, 0))) := Lib.hid (heap_alloc_new wd0 _)
      have hq1 : N0 ≤ wd0.heap.size ∧ wd0.heap.size < (wd0.alloc (.cells #[.string key] 9)).heap.size := ⟨hsz, by simp⟩
      replace hsz := Nat.le_trans hsz hal.size
      clear hal
      generalize wd0.alloc (.cells #[.string key] 9) = wd1 at *
      generalize wd0.heap.size = q1 at *
      have hS0 : wd1.cell? ⟨g, 0, none⟩ = some kv := HB.out.c 0 _ rfl
      have hS1 : wd1.cell? ⟨g, 1, none⟩ = some xv := HB.out.c 1 _ rfl
      refine hK.out _ _ (⟨fun _ => hS0, fun _ => hS1⟩) ?_
      clear hK K2
      try simp only [Act.put, List.setIfInBounds_toArray, List.set_cons_zero, List.set_cons_succ]
      refine stage_all (rs := [9, 16]) (by kernel_rfl) (by simp) (fun i0 hi0 => ?_)
      simp only [List.mem_cons, List.not_mem_nil, or_false] at hi0
      rcases hi0 with rfl | rfl
      · refine stage_step (S := fun (L' : Array Bool) (w' : World) => (L'.getD 20 false = false → w'.cell? ⟨g, 0, none⟩ = some kv) ∧ (L'.getD 23 false = false → w'.cell? ⟨g, 1, none⟩ = some xv)) (o := { dst := some 44, op := Go.Op.call { callee := Go.Callee.value (Go.Operand.func 47), args := #[Go.Operand.tmp 40, Go.Operand.tmp 41, Go.Operand.tmp 43], argTypes := #[57, 3, 57] }, type := 57, pos := "btree.go:175", after := #[{ on := 5, ground := Go.Ground.data }, { on := 6, ground := Go.Ground.data }, { on := 8, ground := Go.Ground.data }], guard := none }) (by rfl) (fun K2 hK => ?_)
        clear hS0 hS1
        go_simp
        go_wp2_with fail
        with_reducible refine (insK q1 i kv ks key wd1 (by omega) (by omega) HK1.out HQ1.out (fun e => by have := hkl _ e; omega)).mono ?_
        rintro e wd2 ⟨v1, rfl, hown, hins⟩
        have hkg : Kept wd1.heap.size (fun k => kv.ownBlock = some k) wd1 wd2 := (Kept.refl _ _ _).grown hins.1 (Nat.le_refl _) (fun k hk => .inr hk)
        replace HB := Lib.hid (HB.out.kept hkg HB.out.lt AKG.out)
        replace HY := Lib.hid (ownP_kept hkg HY.out (fun k hk h => AKY.out k hk h))
        replace HR := Lib.hid (HR.out.kept hkg (fun k hk h => (HKR.out k h.1).2.1 hk))
        replace HX1 := Lib.hid (own_kept hkg HX1.out (fun k hk h => AKX.out k hk h))
        replace HKP := Lib.hid (HKP.out.trans (kept_less hkg HKP.out.size (fun k _ hk => HPK.out k hk)))
        have HV1 := Lib.hid hown
        have hn1 : v1.ownBlock = kv.ownBlock ∨ (v1.ownBlock = some wd1.heap.size ∧ N0 ≤ wd1.heap.size) := hins.2.imp id (fun h => ⟨h, hsz⟩)
        have hl1 : ∀ b, v1.ownBlock = some b → b < wd2.heap.size := fun b hb => (hown.lt b hb).2
        have A1X := Lib.hid (apn hn1 AKX.out hxl)
        have A1Y := Lib.hid (apn hn1 AKY.out hyl)
        have A1G := Lib.hid (apg hn1 AKG.out hgl)
        replace hsz := Nat.le_trans hsz hkg.size
        clear hkg hins hown HK1 HQ1 hq1
        have hS0 : wd2.cell? ⟨g, 0, none⟩ = some kv := HB.out.c 0 _ rfl
        have hS1 : wd2.cell? ⟨g, 1, none⟩ = some xv := HB.out.c 1 _ rfl
        refine hK.out _ _ (⟨fun _ => hS0, fun _ => hS1⟩) ?_
        clear hK K2
        try simp only [Act.put, List.setIfInBounds_toArray, List.set_cons_zero, List.set_cons_succ]
        refine stage_all (rs := [16]) (by kernel_rfl) (by simp) (fun i0 hi0 => ?_)
        obtain rfl : i0 = 16 := by simpa using hi0
        refine stage_step (S := fun (L' : Array Bool) (w' : World) => (L'.getD 20 false = false → w'.cell? ⟨g, 0, none⟩ = some kv) ∧ (L'.getD 23 false = false → w'.cell? ⟨g, 1, none⟩ = some xv)) (o := { dst := some 51, op := Go.Op.buildSlice 57 1 #[(0, Go.Operand.tmp 50)], type := 57, pos := "btree.go:175", after := #[{ on := 15, ground := Go.Ground.data }], guard := none }) (by rfl) (fun K2 hK => ?_)
        clear hS0 hS1
        go_simp
        have hal : Below wd2.heap.size wd2 (wd2.alloc (.cells #[.string value] 9)) := (Below.refl _ _).alloc (Nat.le_refl _) _
        replace HB := Lib.hid (HB.out.alloc (.cells #[.string value] 9))
        replace HY := Lib.hid (HY.out.below hal)
        replace HR := Lib.hid (HR.out.below hal)
        replace HX1 := Lib.hid (own_below HX1.out hal)
        replace HV1 := Lib.hid (own_below HV1.out hal)
        replace HKP := Lib.hid (HKP.out.trans (Kept.of_below hal HKP.out.size))
        have HQ2 : Hid ((wd2.alloc (.cells #[.string value] 9)).heap[wd2.heap.size]? = some (.cells #[.string value] 9 (0, 0))) := Lib.hid (heap_alloc_new wd2 _)
        replace hl1 := fun b hb => Nat.lt_of_lt_of_le (hl1 b hb) hal.size
        have hq2 : N0 ≤ wd2.heap.size ∧ wd2.heap.size < (wd2.alloc (.cells #[.string value] 9)).heap.size := ⟨hsz, by simp⟩
        replace hsz := Nat.le_trans hsz hal.size
        clear hal
        generalize wd2.alloc (.cells #[.string value] 9) = wd3 at *
        generalize wd2.heap.size = q2 at *
        have hS0 : wd3.cell? ⟨g, 0, none⟩ = some kv := HB.out.c 0 _ rfl
        have hS1 : wd3.cell? ⟨g, 1, none⟩ = some xv := HB.out.c 1 _ rfl
        refine hK.out _ _ (⟨fun _ => hS0, fun _ => hS1⟩) ?_
        clear hK K2
        try simp only [Act.put, List.setIfInBounds_toArray, List.set_cons_zero, List.set_cons_succ]
        refine stage_all (rs := [17]) (by kernel_rfl) (by simp) (fun i0 hi0 => ?_)
        obtain rfl : i0 = 17 := by simpa using hi0
        refine stage_step (S := fun (L' : Array Bool) (w' : World) => (L'.getD 20 false = false → w'.cell? ⟨g, 0, none⟩ = some kv) ∧ (L'.getD 23 false = false → w'.cell? ⟨g, 1, none⟩ = some xv)) (o := { dst := some 52, op := Go.Op.call { callee := Go.Callee.value (Go.Operand.func 47), args := #[Go.Operand.tmp 48, Go.Operand.tmp 49, Go.Operand.tmp 51], argTypes := #[57, 3, 57] }, type := 57, pos := "btree.go:175", after := #[{ on := 13, ground := Go.Ground.data }, { on := 14, ground := Go.Ground.data }, { on := 16, ground := Go.Ground.data }, { on := 9, ground := Go.Ground.chain }], guard := none }) (by rfl) (fun K2 hK => ?_)
        clear hS0 hS1
        go_simp
        go_wp2_with fail
        with_reducible refine (insK q2 i xv vs value wd3 (by have := HVL.out; omega) (by have := HVL.out; omega) HX1.out HQ2.out (fun e => by have := hxl _ e; omega)).mono ?_
        rintro e wd4 ⟨v2, rfl, hown, hins⟩
        have hkg : Kept wd3.heap.size (fun k => xv.ownBlock = some k) wd3 wd4 := (Kept.refl _ _ _).grown hins.1 (Nat.le_refl _) (fun k hk => .inr hk)
        replace HB := Lib.hid (HB.out.kept hkg HB.out.lt AXG.out)
        replace HY := Lib.hid (ownP_kept hkg HY.out (fun k hk h => AXY.out k hk h))
        replace HR := Lib.hid (HR.out.kept hkg (fun k hk h => (HKR.out k h.1).2.2.1 hk))
        replace HV1 := Lib.hid (own_kept hkg HV1.out (fun k hk h => A1X.out k h hk))
        replace HKP := Lib.hid (HKP.out.trans (kept_less hkg HKP.out.size (fun k _ hk => HPX.out k hk)))
        have HV2 := Lib.hid hown
        have hn2 : v2.ownBlock = xv.ownBlock ∨ (v2.ownBlock = some wd3.heap.size ∧ N0 ≤ wd3.heap.size) := hins.2.imp id (fun h => ⟨h, hsz⟩)
        have A12 := Lib.hid (apm hn2 A1X.out hl1)
        have A2Y := Lib.hid (apn hn2 AXY.out hyl)
        have A2G := Lib.hid (apg hn2 AXG.out hgl)
        replace hsz := Nat.le_trans hsz hkg.size
        clear hkg hins hown HX1 HQ2 hq2 hl1
        have hS0 : wd4.cell? ⟨g, 0, none⟩ = some kv := HB.out.c 0 _ rfl
        have hS1 : wd4.cell? ⟨g, 1, none⟩ = some xv := HB.out.c 1 _ rfl
        refine hK.out _ _ (⟨fun _ => hS0, fun _ => hS1⟩) ?_
        clear hK K2
        try simp only [Act.put, List.setIfInBounds_toArray, List.set_cons_zero, List.set_cons_succ]
        obtain ⟨B1, d1, rfl, _, _⟩ := own_slice HV1.out
        obtain ⟨B2, d2, rfl, _, _⟩ := own_slice HV2.out
        refine stage_all (rs := [18]) (by kernel_rfl) (by simp) (fun i0 hi0 => ?_)
        obtain rfl : i0 = 18 := by simpa using hi0
        refine stage_step (S := fun (L' : Array Bool) (w' : World) => (L'.getD 20 false = false → w'.cell? ⟨g, 0, none⟩ = some kv) ∧ (L'.getD 23 false = false → w'.cell? ⟨g, 1, none⟩ = some xv)) (o := { dst := some 53, op := Go.Op.nilCheck (Go.Operand.tmp 35), type := 0, pos := "btree.go:175", after := #[{ on := 0, ground := Go.Ground.data }, { on := 0, ground := Go.Ground.phase }, { on := 1, ground := Go.Ground.textOnly Go.Departure.lateStores }, { on := 2, ground := Go.Ground.phase }, { on := 3, ground := Go.Ground.phase }, { on := 4, ground := Go.Ground.phase }, { on := 5, ground := Go.Ground.phase }, { on := 6, ground := Go.Ground.phase }, { on := 7, ground := Go.Ground.phase }, { on := 8, ground := Go.Ground.phase }, { on := 9, ground := Go.Ground.phase }, { on := 10, ground := Go.Ground.textOnly Go.Departure.lateStores }, { on := 11, ground := Go.Ground.textOnly Go.Departure.lateStoresUnsure }, { on := 12, ground := Go.Ground.textOnly Go.Departure.lateStoresUnsure }, { on := 13, ground := Go.Ground.phase }, { on := 14, ground := Go.Ground.textOnly Go.Departure.lateStores }, { on := 15, ground := Go.Ground.textOnly Go.Departure.lateStores }, { on := 16, ground := Go.Ground.textOnly Go.Departure.lateStoresUnsure }, { on := 17, ground := Go.Ground.phase }], guard := none }) (by rfl) (fun K2 hK => ?_)
        go_simp
        refine hK.out _ _ (⟨fun _ => hS0, fun _ => hS1⟩) ?_
        clear hK K2
        try simp only [Act.put, List.setIfInBounds_toArray, List.set_cons_zero, List.set_cons_succ]
        refine stage_all (rs := [19]) (by kernel_rfl) (by simp) (fun i0 hi0 => ?_)
        obtain rfl : i0 = 19 := by simpa using hi0
        refine stage_step (S := fun (L' : Array Bool) (w' : World) => (L'.getD 20 false = false → w'.cell? ⟨g, 0, none⟩ = some kv) ∧ (L'.getD 23 false = false → w'.cell? ⟨g, 1, none⟩ = some xv)) (o := { dst := some 54, op := Go.Op.fieldAddr 73 (Go.Operand.tmp 53) 0, type := 0, pos := "btree.go:175", after := #[{ on := 18, ground := Go.Ground.data }, { on := 0, ground := Go.Ground.phase }, { on := 1, ground := Go.Ground.textOnly Go.Departure.lateStores }, { on := 2, ground := Go.Ground.phase }, { on := 3, ground := Go.Ground.phase }, { on := 4, ground := Go.Ground.phase }, { on := 5, ground := Go.Ground.phase }, { on := 6, ground := Go.Ground.phase }, { on := 7, ground := Go.Ground.phase }, { on := 8, ground := Go.Ground.phase }, { on := 9, ground := Go.Ground.phase }, { on := 10, ground := Go.Ground.textOnly Go.Departure.lateStores }, { on := 11, ground := Go.Ground.textOnly Go.Departure.lateStoresUnsure }, { on := 12, ground := Go.Ground.textOnly Go.Departure.lateStoresUnsure }, { on := 13, ground := Go.Ground.phase }, { on := 14, ground := Go.Ground.textOnly Go.Departure.lateStores }, { on := 15, ground := Go.Ground.textOnly Go.Departure.lateStores }, { on := 16, ground := Go.Ground.textOnly Go.Departure.lateStoresUnsure }, { on := 17, ground := Go.Ground.phase }], guard := none }) (by rfl) (fun K2 hK => ?_)
        go_simp
        refine hK.out _ _ (⟨fun _ => hS0, fun _ => hS1⟩) ?_
        clear hK K2
        try simp only [Act.put, List.setIfInBounds_toArray, List.set_cons_zero, List.set_cons_succ]
        have cHB0 := HB.out.c 0 _ rfl; have fHB0 := HB.out.f 0 (by simp); have cHB1 := HB.out.c 1 _ rfl; have fHB1 := HB.out.f 1 (by simp); have cHB2 := HB.out.c 2 _ rfl; have fHB2 := HB.out.f 2 (by simp); have lHB := HB.out.lt
        refine stage_all (rs := [20]) (by kernel_rfl) (by simp) (fun i0 hi0 => ?_)
        obtain rfl : i0 = 20 := by simpa using hi0
        refine stage_step (S := fun (L' : Array Bool) (w' : World) => (L'.getD 20 false = false → w'.cell? ⟨g, 0, none⟩ = some kv) ∧ (L'.getD 23 false = false → w'.cell? ⟨g, 1, none⟩ = some xv)) (o := { dst := none, op := Go.Op.store 57 (Go.Operand.tmp 54) (Go.Operand.tmp 44), type := 0, pos := "btree.go:175", after := #[{ on := 19, ground := Go.Ground.data }, { on := 9, ground := Go.Ground.data }, { on := 17, ground := Go.Ground.chain }, { on := 0, ground := Go.Ground.phase }, { on := 1, ground := Go.Ground.textOnly Go.Departure.lateStores }, { on := 2, ground := Go.Ground.phase }, { on := 3, ground := Go.Ground.phase }, { on := 4, ground := Go.Ground.phase }, { on := 5, ground := Go.Ground.phase }, { on := 6, ground := Go.Ground.phase }, { on := 7, ground := Go.Ground.phase }, { on := 8, ground := Go.Ground.phase }, { on := 9, ground := Go.Ground.phase }, { on := 10, ground := Go.Ground.textOnly Go.Departure.lateStores }, { on := 11, ground := Go.Ground.textOnly Go.Departure.lateStoresUnsure }, { on := 12, ground := Go.Ground.textOnly Go.Departure.lateStoresUnsure }, { on := 13, ground := Go.Ground.phase }, { on := 14, ground := Go.Ground.textOnly Go.Departure.lateStores }, { on := 15, ground := Go.Ground.textOnly Go.Departure.lateStores }, { on := 16, ground := Go.Ground.textOnly Go.Departure.lateStoresUnsure }, { on := 17, ground := Go.Ground.phase }], guard := none }) (by rfl) (fun K2 hK => ?_)
        go_simp
        clear cHB0 fHB0 cHB1 fHB1 cHB2 fHB2 lHB
        have hB9 := HB.out.set 0 (.slice B1 (ks.length + 1) d1) (by simp)
        have HBn : Hid (Box (wd4.setCell ⟨g, 0, none⟩ (.slice B1 (ks.length + 1) d1)) g [.slice B1 (ks.length + 1) d1, xv, yv]) := Lib.hid hB9
        have hset : Kept wd4.heap.size (fun k => k = g) wd4 (wd4.setCell ⟨g, 0, none⟩ (.slice B1 (ks.length + 1) d1)) := (Kept.refl _ _ _).set _ _ (.inr rfl)
        clear HB hB9
        have HB := HBn
        clear HBn
        replace HV1 := Lib.hid (own_kept hset HV1.out (fun k hk h => A1G.out (hk ▸ h)))
        replace HV2 := Lib.hid (own_kept hset HV2.out (fun k hk h => A2G.out (hk ▸ h)))
        replace HY := Lib.hid (ownP_kept hset HY.out (fun k hk h => AYG.out (hk ▸ h)))
        replace HR := Lib.hid (HR.out.kept hset (fun k hk h => (HKR.out k h.1).1 hk))
        replace HKP := Lib.hid (HKP.out.set ⟨g, 0, none⟩ (.slice B1 (ks.length + 1) d1) (.inr HPG.out))
        clear hset hS0 hS1
        generalize (wd4.setCell ⟨g, 0, none⟩ (.slice B1 (ks.length + 1) d1)) = ws0 at *
        have hS1 : ws0.cell? ⟨g, 1, none⟩ = some xv := HB.out.c 1 _ rfl
        refine hK.out _ _ (⟨fun h => by simp at h, fun _ => hS1⟩) ?_
        clear hK K2
        try simp only [Act.put, List.setIfInBounds_toArray, List.set_cons_zero, List.set_cons_succ]
        refine stage_all (rs := [21]) (by kernel_rfl) (by simp) (fun i0 hi0 => ?_)
        obtain rfl : i0 = 21 := by simpa using hi0
        refine stage_step (S := fun (L' : Array Bool) (w' : World) => (L'.getD 20 false = false → w'.cell? ⟨g, 0, none⟩ = some kv) ∧ (L'.getD 23 false = false → w'.cell? ⟨g, 1, none⟩ = some xv)) (o := { dst := some 55, op := Go.Op.nilCheck (Go.Operand.tmp 36), type := 0, pos := "btree.go:175", after := #[{ on := 1, ground := Go.Ground.data }, { on := 0, ground := Go.Ground.phase }, { on := 1, ground := Go.Ground.phase }, { on := 2, ground := Go.Ground.phase }, { on := 3, ground := Go.Ground.phase }, { on := 4, ground := Go.Ground.phase }, { on := 5, ground := Go.Ground.phase }, { on := 6, ground := Go.Ground.phase }, { on := 7, ground := Go.Ground.phase }, { on := 8, ground := Go.Ground.phase }, { on := 9, ground := Go.Ground.phase }, { on := 10, ground := Go.Ground.phase }, { on := 11, ground := Go.Ground.phase }, { on := 12, ground := Go.Ground.phase }, { on := 13, ground := Go.Ground.phase }, { on := 14, ground := Go.Ground.phase }, { on := 15, ground := Go.Ground.phase }, { on := 16, ground := Go.Ground.phase }, { on := 17, ground := Go.Ground.phase }, { on := 18, ground := Go.Ground.phase }, { on := 19, ground := Go.Ground.phase }, { on := 20, ground := Go.Ground.phase }], guard := none }) (by rfl) (fun K2 hK => ?_)
        go_simp
        refine hK.out _ _ (⟨fun h => by simp at h, fun _ => hS1⟩) ?_
        clear hK K2
        try simp only [Act.put, List.setIfInBounds_toArray, List.set_cons_zero, List.set_cons_succ]
        refine stage_all (rs := [22]) (by kernel_rfl) (by simp) (fun i0 hi0 => ?_)
        obtain rfl : i0 = 22 := by simpa using hi0
        refine stage_step (S := fun (L' : Array Bool) (w' : World) => (L'.getD 20 false = false → w'.cell? ⟨g, 0, none⟩ = some kv) ∧ (L'.getD 23 false = false → w'.cell? ⟨g, 1, none⟩ = some xv)) (o := { dst := some 56, op := Go.Op.fieldAddr 73 (Go.Operand.tmp 55) 1, type := 0, pos := "btree.go:175", after := #[{ on := 21, ground := Go.Ground.data }, { on := 0, ground := Go.Ground.phase }, { on := 1, ground := Go.Ground.phase }, { on := 2, ground := Go.Ground.phase }, { on := 3, ground := Go.Ground.phase }, { on := 4, ground := Go.Ground.phase }, { on := 5, ground := Go.Ground.phase }, { on := 6, ground := Go.Ground.phase }, { on := 7, ground := Go.Ground.phase }, { on := 8, ground := Go.Ground.phase }, { on := 9, ground := Go.Ground.phase }, { on := 10, ground := Go.Ground.phase }, { on := 11, ground := Go.Ground.phase }, { on := 12, ground := Go.Ground.phase }, { on := 13, ground := Go.Ground.phase }, { on := 14, ground := Go.Ground.phase }, { on := 15, ground := Go.Ground.phase }, { on := 16, ground := Go.Ground.phase }, { on := 17, ground := Go.Ground.phase }, { on := 18, ground := Go.Ground.phase }, { on := 19, ground := Go.Ground.phase }, { on := 20, ground := Go.Ground.phase }], guard := none }) (by rfl) (fun K2 hK => ?_)
        go_simp
        refine hK.out _ _ (⟨fun h => by simp at h, fun _ => hS1⟩) ?_
        clear hK K2
        try simp only [Act.put, List.setIfInBounds_toArray, List.set_cons_zero, List.set_cons_succ]
        have cHB0 := HB.out.c 0 _ rfl; have fHB0 := HB.out.f 0 (by simp); have cHB1 := HB.out.c 1 _ rfl; have fHB1 := HB.out.f 1 (by simp); have cHB2 := HB.out.c 2 _ rfl; have fHB2 := HB.out.f 2 (by simp); have lHB := HB.out.lt
        refine stage_all (rs := [23]) (by kernel_rfl) (by simp) (fun i0 hi0 => ?_)
        obtain rfl : i0 = 23 := by simpa using hi0
        refine stage_step (S := fun (L' : Array Bool) (w' : World) => (L'.getD 20 false = false → w'.cell? ⟨g, 0, none⟩ = some kv) ∧ (L'.getD 23 false = false → w'.cell? ⟨g, 1, none⟩ = some xv)) (o := { dst := none, op := Go.Op.store 57 (Go.Operand.tmp 56) (Go.Operand.tmp 52), type := 0, pos := "btree.go:175", after := #[{ on := 22, ground := Go.Ground.data }, { on := 17, ground := Go.Ground.data }, { on := 20, ground := Go.Ground.chain }, { on := 0, ground := Go.Ground.phase }, { on := 1, ground := Go.Ground.phase }, { on := 2, ground := Go.Ground.phase }, { on := 3, ground := Go.Ground.phase }, { on := 4, ground := Go.Ground.phase }, { on := 5, ground := Go.Ground.phase }, { on := 6, ground := Go.Ground.phase }, { on := 7, ground := Go.Ground.phase }, { on := 8, ground := Go.Ground.phase }, { on := 9, ground := Go.Ground.phase }, { on := 10, ground := Go.Ground.phase }, { on := 11, ground := Go.Ground.phase }, { on := 12, ground := Go.Ground.phase }, { on := 13, ground := Go.Ground.phase }, { on := 14, ground := Go.Ground.phase }, { on := 15, ground := Go.Ground.phase }, { on := 16, ground := Go.Ground.phase }, { on := 17, ground := Go.Ground.phase }, { on := 18, ground := Go.Ground.phase }, { on := 19, ground := Go.Ground.phase }, { on := 20, ground := Go.Ground.phase }], guard := none }) (by rfl) (fun K2 hK => ?_)
        go_simp
        clear cHB0 fHB0 cHB1 fHB1 cHB2 fHB2 lHB
        have hB9 := HB.out.set 1 (.slice B2 (vs.length + 1) d2) (by simp)
        have HBn : Hid (Box (ws0.setCell ⟨g, 1, none⟩ (.slice B2 (vs.length + 1) d2)) g [.slice B1 (ks.length + 1) d1, .slice B2 (vs.length + 1) d2, yv]) := Lib.hid hB9
        have hset : Kept ws0.heap.size (fun k => k = g) ws0 (ws0.setCell ⟨g, 1, none⟩ (.slice B2 (vs.length + 1) d2)) := (Kept.refl _ _ _).set _ _ (.inr rfl)
        clear HB hB9
        have HB := HBn
        clear HBn
        replace HV1 := Lib.hid (own_kept hset HV1.out (fun k hk h => A1G.out (hk ▸ h)))
        replace HV2 := Lib.hid (own_kept hset HV2.out (fun k hk h => A2G.out (hk ▸ h)))
        replace HY := Lib.hid (ownP_kept hset HY.out (fun k hk h => AYG.out (hk ▸ h)))
        replace HR := Lib.hid (HR.out.kept hset (fun k hk h => (HKR.out k h.1).1 hk))
        replace HKP := Lib.hid (HKP.out.set ⟨g, 1, none⟩ (.slice B2 (vs.length + 1) d2) (.inr HPG.out))
        clear hset hS1
        generalize (ws0.setCell ⟨g, 1, none⟩ (.slice B2 (vs.length + 1) d2)) = ws1 at *
        refine hK.out _ _ (⟨fun h => by simp at h, fun h => by simp at h⟩) ?_
        clear hK K2
        try simp only [Act.put, List.setIfInBounds_toArray, List.set_cons_zero, List.set_cons_succ]
        refine stage_done (by kernel_rfl) ?_ _
        obtain ⟨u1, u2, u3⟩ := top_of hgl hwN hn1 hn2 HPK.out HPX.out HKR.out
        go_wp2_with fail
        refine bodyPost_ret (results_none rfl _ _ _) rfl ?_
        refine ⟨rfl, ⟨_, _, _, [], HB.out, ⟨by rw [putV_len _ _ _ (by omega)]; exact HV1.out, u1⟩, ⟨by rw [putV_len _ _ _ (by have := HVL.out; omega)]; exact HV2.out, u2⟩, ⟨HY.out.1, fun b hb => .inl (HY.out.2 b hb)⟩, .inl HPG.out, ⟨A1G.out, A2G.out, A12.out, AYG.out, fun b hb => ⟨fun h => A1Y.out b h hb, fun h => A2Y.out b h hb⟩⟩, by unfold RdsT; rfl⟩, HKP.out⟩
      · refine stage_step (S := fun (L' : Array Bool) (w' : World) => (L'.getD 20 false = false → w'.cell? ⟨g, 0, none⟩ = some kv) ∧ (L'.getD 23 false = false → w'.cell? ⟨g, 1, none⟩ = some xv)) (o := { dst := some 51, op := Go.Op.buildSlice 57 1 #[(0, Go.Operand.tmp 50)], type := 57, pos := "btree.go:175", after := #[{ on := 15, ground := Go.Ground.data }], guard := none }) (by rfl) (fun K2 hK => ?_)
        clear hS0 hS1
        go_simp
        have hal : Below wd1.heap.size wd1 (wd1.alloc (.cells #[.string value] 9)) := (Below.refl _ _).alloc (Nat.le_refl _) _
        replace HB := Lib.hid (HB.out.alloc (.cells #[.string value] 9))
        replace HY := Lib.hid (HY.out.below hal)
        replace HR := Lib.hid (HR.out.below hal)
        replace HX1 := Lib.hid (own_below HX1.out hal)
        replace HK1 := Lib.hid (own_below HK1.out hal)
        replace HQ1 := Lib.hid ((hal.block _ hq1.2).trans HQ1.out)
        replace HKP := Lib.hid (HKP.out.trans (Kept.of_below hal HKP.out.size))
        have HQ2 : Hid ((wd1.alloc (.cells #[.string value] 9)).heap[wd1.heap.size]? = some (.cells #[.string value] 9 (0, 0))) := Lib.hid (heap_alloc_new wd1 _)
        replace hq1 := And.intro hq1.1 (Nat.lt_of_lt_of_le hq1.2 hal.size)
        have hq2 : N0 ≤ wd1.heap.size ∧ wd1.heap.size < (wd1.alloc (.cells #[.string value] 9)).heap.size := ⟨hsz, by simp⟩
        replace hsz := Nat.le_trans hsz hal.size
        clear hal
        generalize wd1.alloc (.cells #[.string value] 9) = wd2 at *
        generalize wd1.heap.size = q2 at *
        have hS0 : wd2.cell? ⟨g, 0, none⟩ = some kv := HB.out.c 0 _ rfl
        have hS1 : wd2.cell? ⟨g, 1, none⟩ = some xv := HB.out.c 1 _ rfl
        refine hK.out _ _ (⟨fun _ => hS0, fun _ => hS1⟩) ?_
        clear hK K2
        try simp only [Act.put, List.setIfInBounds_toArray, List.set_cons_zero, List.set_cons_succ]
        refine stage_all (rs := [9]) (by kernel_rfl) (by simp) (fun i0 hi0 => ?_)
        obtain rfl : i0 = 9 := by simpa using hi0
        refine stage_step (S := fun (L' : Array Bool) (w' : World) => (L'.getD 20 false = false → w'.cell? ⟨g, 0, none⟩ = some kv) ∧ (L'.getD 23 false = false → w'.cell? ⟨g, 1, none⟩ = some xv)) (o := { dst := some 44, op := Go.Op.call { callee := Go.Callee.value (Go.Operand.func 47), args := #[Go.Operand.tmp 40, Go.Operand.tmp 41, Go.Operand.tmp 43], argTypes := #[57, 3, 57] }, type := 57, pos := "btree.go:175", after := #[{ on := 5, ground := Go.Ground.data }, { on := 6, ground := Go.Ground.data }, { on := 8, ground := Go.Ground.data }], guard := none }) (by rfl) (fun K2 hK => ?_)
        clear hS0 hS1
        go_simp
        go_wp2_with fail
        with_reducible refine (insK q1 i kv ks key wd2 (by omega) (by omega) HK1.out HQ1.out (fun e => by have := hkl _ e; omega)).mono ?_
        rintro e wd3 ⟨v1, rfl, hown, hins⟩
        have hkg : Kept wd2.heap.size (fun k => kv.ownBlock = some k) wd2 wd3 := (Kept.refl _ _ _).grown hins.1 (Nat.le_refl _) (fun k hk => .inr hk)
        replace HB := Lib.hid (HB.out.kept hkg HB.out.lt AKG.out)
        replace HY := Lib.hid (ownP_kept hkg HY.out (fun k hk h => AKY.out k hk h))
        replace HR := Lib.hid (HR.out.kept hkg (fun k hk h => (HKR.out k h.1).2.1 hk))
        replace HX1 := Lib.hid (own_kept hkg HX1.out (fun k hk h => AKX.out k hk h))
        replace HQ2 := Lib.hid ((hkg.block _ hq2.2 (fun e => by have := hkl _ e; omega)).trans HQ2.out)
        replace HKP := Lib.hid (HKP.out.trans (kept_less hkg HKP.out.size (fun k _ hk => HPK.out k hk)))
        have HV1 := Lib.hid hown
        have hn1 : v1.ownBlock = kv.ownBlock ∨ (v1.ownBlock = some wd2.heap.size ∧ N0 ≤ wd2.heap.size) := hins.2.imp id (fun h => ⟨h, hsz⟩)
        have hl1 : ∀ b, v1.ownBlock = some b → b < wd3.heap.size := fun b hb => (hown.lt b hb).2
        have A1X := Lib.hid (apn hn1 AKX.out hxl)
        have A1Y := Lib.hid (apn hn1 AKY.out hyl)
        have A1G := Lib.hid (apg hn1 AKG.out hgl)
        replace hq2 := And.intro hq2.1 (Nat.lt_of_lt_of_le hq2.2 hkg.size)
        replace hsz := Nat.le_trans hsz hkg.size
        clear hkg hins hown HK1 HQ1 hq1
        have hS0 : wd3.cell? ⟨g, 0, none⟩ = some kv := HB.out.c 0 _ rfl
        have hS1 : wd3.cell? ⟨g, 1, none⟩ = some xv := HB.out.c 1 _ rfl
        refine hK.out _ _ (⟨fun _ => hS0, fun _ => hS1⟩) ?_
        clear hK K2
        try simp only [Act.put, List.setIfInBounds_toArray, List.set_cons_zero, List.set_cons_succ]
        refine stage_all (rs := [17]) (by kernel_rfl) (by simp) (fun i0 hi0 => ?_)
        obtain rfl : i0 = 17 := by simpa using hi0
        refine stage_step (S := fun (L' : Array Bool) (w' : World) => (L'.getD 20 false = false → w'.cell? ⟨g, 0, none⟩ = some kv) ∧ (L'.getD 23 false = false → w'.cell? ⟨g, 1, none⟩ = some xv)) (o := { dst := some 52, op := Go.Op.call { callee := Go.Callee.value (Go.Operand.func 47), args := #[Go.Operand.tmp 48, Go.Operand.tmp 49, Go.Operand.tmp 51], argTypes := #[57, 3, 57] }, type := 57, pos := "btree.go:175", after := #[{ on := 13, ground := Go.Ground.data }, { on := 14, ground := Go.Ground.data }, { on := 16, ground := Go.Ground.data }, { on := 9, ground := Go.Ground.chain }], guard := none }) (by rfl) (fun K2 hK => ?_)
        clear hS0 hS1
        go_simp
        go_wp2_with fail
        with_reducible refine (insK q2 i xv vs value wd3 (by have := HVL.out; omega) (by have := HVL.out; omega) HX1.out HQ2.out (fun e => by have := hxl _ e; omega)).mono ?_
        rintro e wd4 ⟨v2, rfl, hown, hins⟩
        have hkg : Kept wd3.heap.size (fun k => xv.ownBlock = some k) wd3 wd4 := (Kept.refl _ _ _).grown hins.1 (Nat.le_refl _) (fun k hk => .inr hk)
        replace HB := Lib.hid (HB.out.kept hkg HB.out.lt AXG.out)
        replace HY := Lib.hid (ownP_kept hkg HY.out (fun k hk h => AXY.out k hk h))
        replace HR := Lib.hid (HR.out.kept hkg (fun k hk h => (HKR.out k h.1).2.2.1 hk))
        replace HV1 := Lib.hid (own_kept hkg HV1.out (fun k hk h => A1X.out k h hk))
        replace HKP := Lib.hid (HKP.out.trans (kept_less hkg HKP.out.size (fun k _ hk => HPX.out k hk)))
        have HV2 := Lib.hid hown
        have hn2 : v2.ownBlock = xv.ownBlock ∨ (v2.ownBlock = some wd3.heap.size ∧ N0 ≤ wd3.heap.size) := hins.2.imp id (fun h => ⟨h, hsz⟩)
        have A12 := Lib.hid (apm hn2 A1X.out hl1)
        have A2Y := Lib.hid (apn hn2 AXY.out hyl)
        have A2G := Lib.hid (apg hn2 AXG.out hgl)
        replace hsz := Nat.le_trans hsz hkg.size
        clear hkg hins hown HX1 HQ2 hq2 hl1
        have hS0 : wd4.cell? ⟨g, 0, none⟩ = some kv := HB.out.c 0 _ rfl
        have hS1 : wd4.cell? ⟨g, 1, none⟩ = some xv := HB.out.c 1 _ rfl
        refine hK.out _ _ (⟨fun _ => hS0, fun _ => hS1⟩) ?_
        clear hK K2
        try simp only [Act.put, List.setIfInBounds_toArray, List.set_cons_zero, List.set_cons_succ]
        obtain ⟨B1, d1, rfl, _, _⟩ := own_slice HV1.out
        obtain ⟨B2, d2, rfl, _, _⟩ := own_slice HV2.out
        refine stage_all (rs := [18]) (by kernel_rfl) (by simp) (fun i0 hi0 => ?_)
        obtain rfl : i0 = 18 := by simpa using hi0
        refine stage_step (S := fun (L' : Array Bool) (w' : World) => (L'.getD 20 false = false → w'.cell? ⟨g, 0, none⟩ = some kv) ∧ (L'.getD 23 false = false → w'.cell? ⟨g, 1, none⟩ = some xv)) (o := { dst := some 53, op := Go.Op.nilCheck (Go.Operand.tmp 35), type := 0, pos := "btree.go:175", after := #[{ on := 0, ground := Go.Ground.data }, { on := 0, ground := Go.Ground.phase }, { on := 1, ground := Go.Ground.textOnly Go.Departure.lateStores }, { on := 2, ground := Go.Ground.phase }, { on := 3, ground := Go.Ground.phase }, { on := 4, ground := Go.Ground.phase }, { on := 5, ground := Go.Ground.phase }, { on := 6, ground := Go.Ground.phase }, { on := 7, ground := Go.Ground.phase }, { on := 8, ground := Go.Ground.phase }, { on := 9, ground := Go.Ground.phase }, { on := 10, ground := Go.Ground.textOnly Go.Departure.lateStores }, { on := 11, ground := Go.Ground.textOnly Go.Departure.lateStoresUnsure }, { on := 12, ground := Go.Ground.textOnly Go.Departure.lateStoresUnsure }, { on := 13, ground := Go.Ground.phase }, { on := 14, ground := Go.Ground.textOnly Go.Departure.lateStores }, { on := 15, ground := Go.Ground.textOnly Go.Departure.lateStores }, { on := 16, ground := Go.Ground.textOnly Go.Departure.lateStoresUnsure }, { on := 17, ground := Go.Ground.phase }], guard := none }) (by rfl) (fun K2 hK => ?_)
        go_simp
        refine hK.out _ _ (⟨fun _ => hS0, fun _ => hS1⟩) ?_
        clear hK K2
        try simp only [Act.put, List.setIfInBounds_toArray, List.set_cons_zero, List.set_cons_succ]
        refine stage_all (rs := [19]) (by kernel_rfl) (by simp) (fun i0 hi0 => ?_)
        obtain rfl : i0 = 19 := by simpa using hi0
        refine stage_step (S := fun (L' : Array Bool) (w' : World) => (L'.getD 20 false = false → w'.cell? ⟨g, 0, none⟩ = some kv) ∧ (L'.getD 23 false = false → w'.cell? ⟨g, 1, none⟩ = some xv)) (o := { dst := some 54, op := Go.Op.fieldAddr 73 (Go.Operand.tmp 53) 0, type := 0, pos := "btree.go:175", after := #[{ on := 18, ground := Go.Ground.data }, { on := 0, ground := Go.Ground.phase }, { on := 1, ground := Go.Ground.textOnly Go.Departure.lateStores }, { on := 2, ground := Go.Ground.phase }, { on := 3, ground := Go.Ground.phase }, { on := 4, ground := Go.Ground.phase }, { on := 5, ground := Go.Ground.phase }, { on := 6, ground := Go.Ground.phase }, { on := 7, ground := Go.Ground.phase }, { on := 8, ground := Go.Ground.phase }, { on := 9, ground := Go.Ground.phase }, { on := 10, ground := Go.Ground.textOnly Go.Departure.lateStores }, { on := 11, ground := Go.Ground.textOnly Go.Departure.lateStoresUnsure }, { on := 12, ground := Go.Ground.textOnly Go.Departure.lateStoresUnsure }, { on := 13, ground := Go.Ground.phase }, { on := 14, ground := Go.Ground.textOnly Go.Departure.lateStores }, { on := 15, ground := Go.Ground.textOnly Go.Departure.lateStores }, { on := 16, ground := Go.Ground.textOnly Go.Departure.lateStoresUnsure }, { on := 17, ground := Go.Ground.phase }], guard := none }) (by rfl) (fun K2 hK => ?_)
        go_simp
        refine hK.out _ _ (⟨fun _ => hS0, fun _ => hS1⟩) ?_
        clear hK K2
        try simp only [Act.put, List.setIfInBounds_toArray, List.set_cons_zero, List.set_cons_succ]
        have cHB0 := HB.out.c 0 _ rfl; have fHB0 := HB.out.f 0 (by simp); have cHB1 := HB.out.c 1 _ rfl; have fHB1 := HB.out.f 1 (by simp); have cHB2 := HB.out.c 2 _ rfl; have fHB2 := HB.out.f 2 (by simp); have lHB := HB.out.lt
        refine stage_all (rs := [20]) (by kernel_rfl) (by simp) (fun i0 hi0 => ?_)
        obtain rfl : i0 = 20 := by simpa using hi0
        refine stage_step (S := fun (L' : Array Bool) (w' : World) => (L'.getD 20 false = false → w'.cell? ⟨g, 0, none⟩ = some kv) ∧ (L'.getD 23 false = false → w'.cell? ⟨g, 1, none⟩ = some xv)) (o := { dst := none, op := Go.Op.store 57 (Go.Operand.tmp 54) (Go.Operand.tmp 44), type := 0, pos := "btree.go:175", after := #[{ on := 19, ground := Go.Ground.data }, { on := 9, ground := Go.Ground.data }, { on := 17, ground := Go.Ground.chain }, { on := 0, ground := Go.Ground.phase }, { on := 1, ground := Go.Ground.textOnly Go.Departure.lateStores }, { on := 2, ground := Go.Ground.phase }, { on := 3, ground := Go.Ground.phase }, { on := 4, ground := Go.Ground.phase }, { on := 5, ground := Go.Ground.phase }, { on := 6, ground := Go.Ground.phase }, { on := 7, ground := Go.Ground.phase }, { on := 8, ground := Go.Ground.phase }, { on := 9, ground := Go.Ground.phase }, { on := 10, ground := Go.Ground.textOnly Go.Departure.lateStores }, { on := 11, ground := Go.Ground.textOnly Go.Departure.lateStoresUnsure }, { on := 12, ground := Go.Ground.textOnly Go.Departure.lateStoresUnsure }, { on := 13, ground := Go.Ground.phase }, { on := 14, ground := Go.Ground.textOnly Go.Departure.lateStores }, { on := 15, ground := Go.Ground.textOnly Go.Departure.lateStores }, { on := 16, ground := Go.Ground.textOnly Go.Departure.lateStoresUnsure }, { on := 17, ground := Go.Ground.phase }], guard := none }) (by rfl) (fun K2 hK => ?_)
        go_simp
        clear cHB0 fHB0 cHB1 fHB1 cHB2 fHB2 lHB
        have hB9 := HB.out.set 0 (.slice B1 (ks.length + 1) d1) (by simp)
        have HBn : Hid (Box (wd4.setCell ⟨g, 0, none⟩ (.slice B1 (ks.length + 1) d1)) g [.slice B1 (ks.length + 1) d1, xv, yv]) := Lib.hid hB9
        have hset : Kept wd4.heap.size (fun k => k = g) wd4 (wd4.setCell ⟨g, 0, none⟩ (.slice B1 (ks.length + 1) d1)) := (Kept.refl _ _ _).set _ _ (.inr rfl)
        clear HB hB9
        have HB := HBn
        clear HBn
        replace HV1 := Lib.hid (own_kept hset HV1.out (fun k hk h => A1G.out (hk ▸ h)))
        replace HV2 := Lib.hid (own_kept hset HV2.out (fun k hk h => A2G.out (hk ▸ h)))
        replace HY := Lib.hid (ownP_kept hset HY.out (fun k hk h => AYG.out (hk ▸ h)))
        replace HR := Lib.hid (HR.out.kept hset (fun k hk h => (HKR.out k h.1).1 hk))
        replace HKP := Lib.hid (HKP.out.set ⟨g, 0, none⟩ (.slice B1 (ks.length + 1) d1) (.inr HPG.out))
        clear hset hS0 hS1
        generalize (wd4.setCell ⟨g, 0, none⟩ (.slice B1 (ks.length + 1) d1)) = ws0 at *
        have hS1 : ws0.cell? ⟨g, 1, none⟩ = some xv := HB.out.c 1 _ rfl
        refine hK.out _ _ (⟨fun h => by simp at h, fun _ => hS1⟩) ?_
        clear hK K2
        try simp only [Act.put, List.setIfInBounds_toArray, List.set_cons_zero, List.set_cons_succ]
        refine stage_all (rs := [21]) (by kernel_rfl) (by simp) (fun i0 hi0 => ?_)
        obtain rfl : i0 = 21 := by simpa using hi0
        refine stage_step (S := fun (L' : Array Bool) (w' : World) => (L'.getD 20 false = false → w'.cell? ⟨g, 0, none⟩ = some kv) ∧ (L'.getD 23 false = false → w'.cell? ⟨g, 1, none⟩ = some xv)) (o := { dst := some 55, op := Go.Op.nilCheck (Go.Operand.tmp 36), type := 0, pos := "btree.go:175", after := #[{ on := 1, ground := Go.Ground.data }, { on := 0, ground := Go.Ground.phase }, { on := 1, ground := Go.Ground.phase }, { on := 2, ground := Go.Ground.phase }, { on := 3, ground := Go.Ground.phase }, { on := 4, ground := Go.Ground.phase }, { on := 5, ground := Go.Ground.phase }, { on := 6, ground := Go.Ground.phase }, { on := 7, ground := Go.Ground.phase }, { on := 8, ground := Go.Ground.phase }, { on := 9, ground := Go.Ground.phase }, { on := 10, ground := Go.Ground.phase }, { on := 11, ground := Go.Ground.phase }, { on := 12, ground := Go.Ground.phase }, { on := 13, ground := Go.Ground.phase }, { on := 14, ground := Go.Ground.phase }, { on := 15, ground := Go.Ground.phase }, { on := 16, ground := Go.Ground.phase }, { on := 17, ground := Go.Ground.phase }, { on := 18, ground := Go.Ground.phase }, { on := 19, ground := Go.Ground.phase }, { on := 20, ground := Go.Ground.phase }], guard := none }) (by rfl) (fun K2 hK => ?_)
        go_simp
        refine hK.out _ _ (⟨fun h => by simp at h, fun _ => hS1⟩) ?_
        clear hK K2
        try simp only [Act.put, List.setIfInBounds_toArray, List.set_cons_zero, List.set_cons_succ]
        refine stage_all (rs := [22]) (by kernel_rfl) (by simp) (fun i0 hi0 => ?_)
        obtain rfl : i0 = 22 := by simpa using hi0
        refine stage_step (S := fun (L' : Array Bool) (w' : World) => (L'.getD 20 false = false → w'.cell? ⟨g, 0, none⟩ = some kv) ∧ (L'.getD 23 false = false → w'.cell? ⟨g, 1, none⟩ = some xv)) (o := { dst := some 56, op := Go.Op.fieldAddr 73 (Go.Operand.tmp 55) 1, type := 0, pos := "btree.go:175", after := #[{ on := 21, ground := Go.Ground.data }, { on := 0, ground := Go.Ground.phase }, { on := 1, ground := Go.Ground.phase }, { on := 2, ground := Go.Ground.phase }, { on := 3, ground := Go.Ground.phase }, { on := 4, ground := Go.Ground.phase }, { on := 5, ground := Go.Ground.phase }, { on := 6, ground := Go.Ground.phase }, { on := 7, ground := Go.Ground.phase }, { on := 8, ground := Go.Ground.phase }, { on := 9, ground := Go.Ground.phase }, { on := 10, ground := Go.Ground.phase }, { on := 11, ground := Go.Ground.phase }, { on := 12, ground := Go.Ground.phase }, { on := 13, ground := Go.Ground.phase }, { on := 14, ground := Go.Ground.phase }, { on := 15, ground := Go.Ground.phase }, { on := 16, ground := Go.Ground.phase }, { on := 17, ground := Go.Ground.phase }, { on := 18, ground := Go.Ground.phase }, { on := 19, ground := Go.Ground.phase }, { on := 20, ground := Go.Ground.phase }], guard := none }) (by rfl) (fun K2 hK => ?_)
        go_simp
        refine hK.out _ _ (⟨fun h => by simp at h, fun _ => hS1⟩) ?_
        clear hK K2
        try simp only [Act.put, List.setIfInBounds_toArray, List.set_cons_zero, List.set_cons_succ]
        have cHB0 := HB.out.c 0 _ rfl; have fHB0 := HB.out.f 0 (by simp); have cHB1 := HB.out.c 1 _ rfl; have fHB1 := HB.out.f 1 (by simp); have cHB2 := HB.out.c 2 _ rfl; have fHB2 := HB.out.f 2 (by simp); have lHB := HB.out.lt
        refine stage_all (rs := [23]) (by kernel_rfl) (by simp) (fun i0 hi0 => ?_)
        obtain rfl : i0 = 23 := by simpa using hi0
        refine stage_step (S := fun (L' : Array Bool) (w' : World) => (L'.getD 20 false = false → w'.cell? ⟨g, 0, none⟩ = some kv) ∧ (L'.getD 23 false = false → w'.cell? ⟨g, 1, none⟩ = some xv)) (o := { dst := none, op := Go.Op.store 57 (Go.Operand.tmp 56) (Go.Operand.tmp 52), type := 0, pos := "btree.go:175", after := #[{ on := 22, ground := Go.Ground.data }, { on := 17, ground := Go.Ground.data }, { on := 20, ground := Go.Ground.chain }, { on := 0, ground := Go.Ground.phase }, { on := 1, ground := Go.Ground.phase }, { on := 2, ground := Go.Ground.phase }, { on := 3, ground := Go.Ground.phase }, { on := 4, ground := Go.Ground.phase }, { on := 5, ground := Go.Ground.phase }, { on := 6, ground := Go.Ground.phase }, { on := 7, ground := Go.Ground.phase }, { on := 8, ground := Go.Ground.phase }, { on := 9, ground := Go.Ground.phase }, { on := 10, ground := Go.Ground.phase }, { on := 11, ground := Go.Ground.phase }, { on := 12, ground := Go.Ground.phase }, { on := 13, ground := Go.Ground.phase }, { on := 14, ground := Go.Ground.phase }, { on := 15, ground := Go.Ground.phase }, { on := 16, ground := Go.Ground.phase }, { on := 17, ground := Go.Ground.phase }, { on := 18, ground := Go.Ground.phase }, { on := 19, ground := Go.Ground.phase }, { on := 20, ground := Go.Ground.phase }], guard := none }) (by rfl) (fun K2 hK => ?_)
        go_simp
        clear cHB0 fHB0 cHB1 fHB1 cHB2 fHB2 lHB
        have hB9 := HB.out.set 1 (.slice B2 (vs.length + 1) d2) (by simp)
        have HBn : Hid (Box (ws0.setCell ⟨g, 1, none⟩ (.slice B2 (vs.length + 1) d2)) g [.slice B1 (ks.length + 1) d1, .slice B2 (vs.length + 1) d2, yv]) := Lib.hid hB9
        have hset : Kept ws0.heap.size (fun k => k = g) ws0 (ws0.setCell ⟨g, 1, none⟩ (.slice B2 (vs.length + 1) d2)) := (Kept.refl _ _ _).set _ _ (.inr rfl)
        clear HB hB9
        have HB := HBn
        clear HBn
        replace HV1 := Lib.hid (own_kept hset HV1.out (fun k hk h => A1G.out (hk ▸ h)))
        replace HV2 := Lib.hid (own_kept hset HV2.out (fun k hk h => A2G.out (hk ▸ h)))
        replace HY := Lib.hid (ownP_kept hset HY.out (fun k hk h => AYG.out (hk ▸ h)))
        replace HR := Lib.hid (HR.out.kept hset (fun k hk h => (HKR.out k h.1).1 hk))
        replace HKP := Lib.hid (HKP.out.set ⟨g, 1, none⟩ (.slice B2 (vs.length + 1) d2) (.inr HPG.out))
        clear hset hS1
        generalize (ws0.setCell ⟨g, 1, none⟩ (.slice B2 (vs.length + 1) d2)) = ws1 at *
        refine hK.out _ _ (⟨fun h => by simp at h, fun h => by simp at h⟩) ?_
        clear hK K2
        try simp only [Act.put, List.setIfInBounds_toArray, List.set_cons_zero, List.set_cons_succ]
        refine stage_done (by kernel_rfl) ?_ _
        obtain ⟨u1, u2, u3⟩ := top_of hgl hwN hn1 hn2 HPK.out HPX.out HKR.out
        go_wp2_with fail
        refine bodyPost_ret (results_none rfl _ _ _) rfl ?_
        refine ⟨rfl, ⟨_, _, _, [], HB.out, ⟨by rw [putV_len _ _ _ (by omega)]; exact HV1.out, u1⟩, ⟨by rw [putV_len _ _ _ (by have := HVL.out; omega)]; exact HV2.out, u2⟩, ⟨HY.out.1, fun b hb => .inl (HY.out.2 b hb)⟩, .inl HPG.out, ⟨A1G.out, A2G.out, A12.out, AYG.out, fun b hb => ⟨fun h => A1Y.out b h hb, fun h => A2Y.out b h hb⟩⟩, by unfold RdsT; rfl⟩, HKP.out⟩
    · refine stage_step (S := fun (L' : Array Bool) (w' : World) => (L'.getD 20 false = false → w'.cell? ⟨g, 0, none⟩ = some kv) ∧ (L'.getD 23 false = false → w'.cell? ⟨g, 1, none⟩ = some xv)) (o := { dst := some 51, op := Go.Op.buildSlice 57 1 #[(0, Go.Operand.tmp 50)], type := 57, pos := "btree.go:175", after := #[{ on := 15, ground := Go.Ground.data }], guard := none }) (by rfl) (fun K2 hK => ?_)
      clear hS0 hS1
      go_simp
      have hal : Below wd0.heap.size wd0 (wd0.alloc (.cells #[.string value] 9)) := (Below.refl _ _).alloc (Nat.le_refl _) _
      replace HB := Lib.hid (HB.out.alloc (.cells #[.string value] 9))
      replace HY := Lib.hid (HY.out.below hal)
      replace HR := Lib.hid (HR.out.below hal)
      replace HX1 := Lib.hid (own_below HX1.out hal)
      replace HK1 := Lib.hid (own_below HK1.out hal)
      replace HKP := Lib.hid (HKP.out.trans (Kept.of_below hal HKP.out.size))
      have HQ2 : Hid ((wd0.alloc (.cells #[.string value] 9)).heap[wd0.heap.size]? = some (.cells #[.string value] 9 (0, 0))) := Lib.hid (heap_alloc_new wd0 _)
      have hq2 : N0 ≤ wd0.heap.size ∧ wd0.heap.size < (wd0.alloc (.cells #[.string value] 9)).heap.size := ⟨hsz, by simp⟩
      replace hsz := Nat.le_trans hsz hal.size
      clear hal
      generalize wd0.alloc (.cells #[.string value] 9) = wd1 at *
      generalize wd0.heap.size = q2 at *
      have hS0 : wd1.cell? ⟨g, 0, none⟩ = some kv := HB.out.c 0 _ rfl
      have hS1 : wd1.cell? ⟨g, 1, none⟩ = some xv := HB.out.c 1 _ rfl
      refine hK.out _ _ (⟨fun _ => hS0, fun _ => hS1⟩) ?_
      clear hK K2
      try simp only [Act.put, List.setIfInBounds_toArray, List.set_cons_zero, List.set_cons_succ]
      refine stage_all (rs := [8]) (by kernel_rfl) (by simp) (fun i0 hi0 => ?_)
      obtain rfl : i0 = 8 := by simpa using hi0
      refine stage_step (S := fun (L' : Array Bool) (w' : World) => (L'.getD 20 false = false → w'.cell? ⟨g, 0, none⟩ = some kv) ∧ (L'.getD 23 false = false → w'.cell? ⟨g, 1, none⟩ = some xv)) (o := { dst := some 43, op := Go.Op.buildSlice 57 1 #[(0, Go.Operand.tmp 42)], type := 57, pos := "btree.go:175", after := #[{ on := 7, ground := Go.Ground.data }], guard := none }) (by rfl) (fun K2 hK => ?_)
      clear hS0 hS1
      go_simp
      have hal : Below wd1.heap.size wd1 (wd1.alloc (.cells #[.string key] 9)) := (Below.refl _ _).alloc (Nat.le_refl _) _
      replace HB := Lib.hid (HB.out.alloc (.cells #[.string key] 9))
      replace HY := Lib.hid (HY.out.below hal)
      replace HR := Lib.hid (HR.out.below hal)
      replace HX1 := Lib.hid (own_below HX1.out hal)
      replace HK1 := Lib.hid (own_below HK1.out hal)
      replace HQ2 := Lib.hid ((hal.block _ hq2.2).trans HQ2.out)
      replace HKP := Lib.hid (HKP.out.trans (Kept.of_below hal HKP.out.size))
      have HQ1 : Hid ((wd1.alloc (.cells #[.string key] 9)).heap[wd1.heap.size]? = some (.cells #[.string key] 9 (0, 0))) := Lib.hid (heap_alloc_new wd1 _)
      replace hq2 := And.intro hq2.1 (Nat.lt_of_lt_of_le hq2.2 hal.size)
      have hq1 : N0 ≤ wd1.heap.size ∧ wd1.heap.size < (wd1.alloc (.cells #[.string key] 9)).heap.size := ⟨hsz, by simp⟩
      replace hsz := Nat.le_trans hsz hal.size
      clear hal
      generalize wd1.alloc (.cells #[.string key] 9) = wd2 at *
      generalize wd1.heap.size = q1 at *
      have hS0 : wd2.cell? ⟨g, 0, none⟩ = some kv := HB.out.c 0 _ rfl
      have hS1 : wd2.cell? ⟨g, 1, none⟩ = some xv := HB.out.c 1 _ rfl
      refine hK.out _ _ (⟨fun _ => hS0, fun _ => hS1⟩) ?_
      clear hK K2
      try simp only [Act.put, List.setIfInBounds_toArray, List.set_cons_zero, List.set_cons_succ]
      refine stage_all (rs := [9]) (by kernel_rfl) (by simp) (fun i0 hi0 => ?_)
      obtain rfl : i0 = 9 := by simpa using hi0
      refine stage_step (S := fun (L' : Array Bool) (w' : World) => (L'.getD 20 false = false → w'.cell? ⟨g, 0, none⟩ = some kv) ∧ (L'.getD 23 false = false → w'.cell? ⟨g, 1, none⟩ = some xv)) (o := { dst := some 44, op := Go.Op.call { callee := Go.Callee.value (Go.Operand.func 47), args := #[Go.Operand.tmp 40, Go.Operand.tmp 41, Go.Operand.tmp 43], argTypes := #[57, 3, 57] }, type := 57, pos := "btree.go:175", after := #[{ on := 5, ground := Go.Ground.data }, { on := 6, ground := Go.Ground.data }, { on := 8, ground := Go.Ground.data }], guard := none }) (by rfl) (fun K2 hK => ?_)
      clear hS0 hS1
      go_simp
      go_wp2_with fail
      with_reducible refine (insK q1 i kv ks key wd2 (by omega) (by omega) HK1.out HQ1.out (fun e => by have := hkl _ e; omega)).mono ?_
      rintro e wd3 ⟨v1, rfl, hown, hins⟩
      have hkg : Kept wd2.heap.size (fun k => kv.ownBlock = some k) wd2 wd3 := (Kept.refl _ _ _).grown hins.1 (Nat.le_refl _) (fun k hk => .inr hk)
      replace HB := Lib.hid (HB.out.kept hkg HB.out.lt AKG.out)
      replace HY := Lib.hid (ownP_kept hkg HY.out (fun k hk h => AKY.out k hk h))
      replace HR := Lib.hid (HR.out.kept hkg (fun k hk h => (HKR.out k h.1).2.1 hk))
      replace HX1 := Lib.hid (own_kept hkg HX1.out (fun k hk h => AKX.out k hk h))
      replace HQ2 := Lib.hid ((hkg.block _ hq2.2 (fun e => by have := hkl _ e; omega)).trans HQ2.out)
      replace HKP := Lib.hid (HKP.out.trans (kept_less hkg HKP.out.size (fun k _ hk => HPK.out k hk)))
      have HV1 := Lib.hid hown
      have hn1 : v1.ownBlock = kv.ownBlock ∨ (v1.ownBlock = some wd2.heap.size ∧ N0 ≤ wd2.heap.size) := hins.2.imp id (fun h => ⟨h, hsz⟩)
      have hl1 : ∀ b, v1.ownBlock = some b → b < wd3.heap.size := fun b hb => (hown.lt b hb).2
      have A1X := Lib.hid (apn hn1 AKX.out hxl)
      have A1Y := Lib.hid (apn hn1 AKY.out hyl)
      have A1G := Lib.hid (apg hn1 AKG.out hgl)
      replace hq2 := And.intro hq2.1 (Nat.lt_of_lt_of_le hq2.2 hkg.size)
      replace hsz := Nat.le_trans hsz hkg.size
      clear hkg hins hown HK1 HQ1 hq1
      have hS0 : wd3.cell? ⟨g, 0, none⟩ = some kv := HB.out.c 0 _ rfl
      have hS1 : wd3.cell? ⟨g, 1, none⟩ = some xv := HB.out.c 1 _ rfl
      refine hK.out _ _ (⟨fun _ => hS0, fun _ => hS1⟩) ?_
      clear hK K2
      try simp only [Act.put, List.setIfInBounds_toArray, List.set_cons_zero, List.set_cons_succ]
      refine stage_all (rs := [17]) (by kernel_rfl) (by simp) (fun i0 hi0 => ?_)
      obtain rfl : i0 = 17 := by simpa using hi0
      refine stage_step (S := fun (L' : Array Bool) (w' : World) => (L'.getD 20 false = false → w'.cell? ⟨g, 0, none⟩ = some kv) ∧ (L'.getD 23 false = false → w'.cell? ⟨g, 1, none⟩ = some xv)) (o := { dst := some 52, op := Go.Op.call { callee := Go.Callee.value (Go.Operand.func 47), args := #[Go.Operand.tmp 48, Go.Operand.tmp 49, Go.Operand.tmp 51], argTypes := #[57, 3, 57] }, type := 57, pos := "btree.go:175", after := #[{ on := 13, ground := Go.Ground.data }, { on := 14, ground := Go.Ground.data }, { on := 16, ground := Go.Ground.data }, { on := 9, ground := Go.Ground.chain }], guard := none }) (by rfl) (fun K2 hK => ?_)
      clear hS0 hS1
      go_simp
      go_wp2_with fail
      with_reducible refine (insK q2 i xv vs value wd3 (by have := HVL.out; omega) (by have := HVL.out; omega) HX1.out HQ2.out (fun e => by have := hxl _ e; omega)).mono ?_
      rintro e wd4 ⟨v2, rfl, hown, hins⟩
      have hkg : Kept wd3.heap.size (fun k => xv.ownBlock = some k) wd3 wd4 := (Kept.refl _ _ _).grown hins.1 (Nat.le_refl _) (fun k hk => .inr hk)
      replace HB := Lib.hid (HB.out.kept hkg HB.out.lt AXG.out)
      replace HY := Lib.hid (ownP_kept hkg HY.out (fun k hk h => AXY.out k hk h))
      replace HR := Lib.hid (HR.out.kept hkg (fun k hk h => (HKR.out k h.1).2.2.1 hk))
      replace HV1 := Lib.hid (own_kept hkg HV1.out (fun k hk h => A1X.out k h hk))
      replace HKP := Lib.hid (HKP.out.trans (kept_less hkg HKP.out.size (fun k _ hk => HPX.out k hk)))
      have HV2 := Lib.hid hown
      have hn2 : v2.ownBlock = xv.ownBlock ∨ (v2.ownBlock = some wd3.heap.size ∧ N0 ≤ wd3.heap.size) := hins.2.imp id (fun h => ⟨h, hsz⟩)
      have A12 := Lib.hid (apm hn2 A1X.out hl1)
      have A2Y := Lib.hid (apn hn2 AXY.out hyl)
      have A2G := Lib.hid (apg hn2 AXG.out hgl)
      replace hsz := Nat.le_trans hsz hkg.size
      clear hkg hins hown HX1 HQ2 hq2 hl1
      have hS0 : wd4.cell? ⟨g, 0, none⟩ = some kv := HB.out.c 0 _ rfl
      have hS1 : wd4.cell? ⟨g, 1, none⟩ = some xv := HB.out.c 1 _ rfl
      refine hK.out _ _ (⟨fun _ => hS0, fun _ => hS1⟩) ?_
      clear hK K2
      try simp only [Act.put, List.setIfInBounds_toArray, List.set_cons_zero, List.set_cons_succ]
      obtain ⟨B1, d1, rfl, _, _⟩ := own_slice HV1.out
      obtain ⟨B2, d2, rfl, _, _⟩ := own_slice HV2.out
      refine stage_all (rs := [18]) (by kernel_rfl) (by simp) (fun i0 hi0 => ?_)
      obtain rfl : i0 = 18 := by simpa using hi0
      refine stage_step (S := fun (L' : Array Bool) (w' : World) => (L'.getD 20 false = false → w'.cell? ⟨g, 0, none⟩ = some kv) ∧ (L'.getD 23 false = false → w'.cell? ⟨g, 1, none⟩ = some xv)) (o := { dst := some 53, op := Go.Op.nilCheck (Go.Operand.tmp 35), type := 0, pos := "btree.go:175", after := #[{ on := 0, ground := Go.Ground.data }, { on := 0, ground := Go.Ground.phase }, { on := 1, ground := Go.Ground.textOnly Go.Departure.lateStores }, { on := 2, ground := Go.Ground.phase }, { on := 3, ground := Go.Ground.phase }, { on := 4, ground := Go.Ground.phase }, { on := 5, ground := Go.Ground.phase }, { on := 6, ground := Go.Ground.phase }, { on := 7, ground := Go.Ground.phase }, { on := 8, ground := Go.Ground.phase }, { on := 9, ground := Go.Ground.phase }, { on := 10, ground := Go.Ground.textOnly Go.Departure.lateStores }, { on := 11, ground := Go.Ground.textOnly Go.Departure.lateStoresUnsure }, { on := 12, ground := Go.Ground.textOnly Go.Departure.lateStoresUnsure }, { on := 13, ground := Go.Ground.phase }, { on := 14, ground := Go.Ground.textOnly Go.Departure.lateStores }, { on := 15, ground := Go.Ground.textOnly Go.Departure.lateStores }, { on := 16, ground := Go.Ground.textOnly Go.Departure.lateStoresUnsure }, { on := 17, ground := Go.Ground.phase }], guard := none }) (by rfl) (fun K2 hK => ?_)
      go_simp
      refine hK.out _ _ (⟨fun _ => hS0, fun _ => hS1⟩) ?_
      clear hK K2
      try simp only [Act.put, List.setIfInBounds_toArray, List.set_cons_zero, List.set_cons_succ]
      refine stage_all (rs := [19]) (by kernel_rfl) (by simp) (fun i0 hi0 => ?_)
      obtain rfl : i0 = 19 := by simpa using hi0
      refine stage_step (S := fun (L' : Array Bool) (w' : World) => (L'.getD 20 false = false → w'.cell? ⟨g, 0, none⟩ = some kv) ∧ (L'.getD 23 false = false → w'.cell? ⟨g, 1, none⟩ = some xv)) (o := { dst := some 54, op := Go.Op.fieldAddr 73 (Go.Operand.tmp 53) 0, type := 0, pos := "btree.go:175", after := #[{ on := 18, ground := Go.Ground.data }, { on := 0, ground := Go.Ground.phase }, { on := 1, ground := Go.Ground.textOnly Go.Departure.lateStores }, { on := 2, ground := Go.Ground.phase }, { on := 3, ground := Go.Ground.phase }, { on := 4, ground := Go.Ground.phase }, { on := 5, ground := Go.Ground.phase }, { on := 6, ground := Go.Ground.phase }, { on := 7, ground := Go.Ground.phase }, { on := 8, ground := Go.Ground.phase }, { on := 9, ground := Go.Ground.phase }, { on := 10, ground := Go.Ground.textOnly Go.Departure.lateStores }, { on := 11, ground := Go.Ground.textOnly Go.Departure.lateStoresUnsure }, { on := 12, ground := Go.Ground.textOnly Go.Departure.lateStoresUnsure }, { on := 13, ground := Go.Ground.phase }, { on := 14, ground := Go.Ground.textOnly Go.Departure.lateStores }, { on := 15, ground := Go.Ground.textOnly Go.Departure.lateStores }, { on := 16, ground := Go.Ground.textOnly Go.Departure.lateStoresUnsure }, { on := 17, ground := Go.Ground.phase }], guard := none }) (by rfl) (fun K2 hK => ?_)
      go_simp
      refine hK.out _ _ (⟨fun _ => hS0, fun _ => hS1⟩) ?_
      clear hK K2
      try simp only [Act.put, List.setIfInBounds_toArray, List.set_cons_zero, List.set_cons_succ]
      have cHB0 := HB.out.c 0 _ rfl; have fHB0 := HB.out.f 0 (by simp); have cHB1 := HB.out.c 1 _ rfl; have fHB1 := HB.out.f 1 (by simp); have cHB2 := HB.out.c 2 _ rfl; have fHB2 := HB.out.f 2 (by simp); have lHB := HB.out.lt
      refine stage_all (rs := [20]) (by kernel_rfl) (by simp) (fun i0 hi0 => ?_)
      obtain rfl : i0 = 20 := by simpa using hi0
      refine stage_step (S := fun (L' : Array Bool) (w' : World) => (L'.getD 20 false = false → w'.cell? ⟨g, 0, none⟩ = some kv) ∧ (L'.getD 23 false = false → w'.cell? ⟨g, 1, none⟩ = some xv)) (o := { dst := none, op := Go.Op.store 57 (Go.Operand.tmp 54) (Go.Operand.tmp 44), type := 0, pos := "btree.go:175", after := #[{ on := 19, ground := Go.Ground.data }, { on := 9, ground := Go.Ground.data }, { on := 17, ground := Go.Ground.chain }, { on := 0, ground := Go.Ground.phase }, { on := 1, ground := Go.Ground.textOnly Go.Departure.lateStores }, { on := 2, ground := Go.Ground.phase }, { on := 3, ground := Go.Ground.phase }, { on := 4, ground := Go.Ground.phase }, { on := 5, ground := Go.Ground.phase }, { on := 6, ground := Go.Ground.phase }, { on := 7, ground := Go.Ground.phase }, { on := 8, ground := Go.Ground.phase }, { on := 9, ground := Go.Ground.phase }, { on := 10, ground := Go.Ground.textOnly Go.Departure.lateStores }, { on := 11, ground := Go.Ground.textOnly Go.Departure.lateStoresUnsure }, { on := 12, ground := Go.Ground.textOnly Go.Departure.lateStoresUnsure }, { on := 13, ground := Go.Ground.phase }, { on := 14, ground := Go.Ground.textOnly Go.Departure.lateStores }, { on := 15, ground := Go.Ground.textOnly Go.Departure.lateStores }, { on := 16, ground := Go.Ground.textOnly Go.Departure.lateStoresUnsure }, { on := 17, ground := Go.Ground.phase }], guard := none }) (by rfl) (fun K2 hK => ?_)
      go_simp
      clear cHB0 fHB0 cHB1 fHB1 cHB2 fHB2 lHB
      have hB9 := HB.out.set 0 (.slice B1 (ks.length + 1) d1) (by simp)
      have HBn : Hid (Box (wd4.setCell ⟨g, 0, none⟩ (.slice B1 (ks.length + 1) d1)) g [.slice B1 (ks.length + 1) d1, xv, yv]) := Lib.hid hB9
      have hset : Kept wd4.heap.size (fun k => k = g) wd4 (wd4.setCell ⟨g, 0, none⟩ (.slice B1 (ks.length + 1) d1)) := (Kept.refl _ _ _).set _ _ (.inr rfl)
      clear HB hB9
      have HB := HBn
      clear HBn
      replace HV1 := Lib.hid (own_kept hset HV1.out (fun k hk h => A1G.out (hk ▸ h)))
      replace HV2 := Lib.hid (own_kept hset HV2.out (fun k hk h => A2G.out (hk ▸ h)))
      replace HY := Lib.hid (ownP_kept hset HY.out (fun k hk h => AYG.out (hk ▸ h)))
      replace HR := Lib.hid (HR.out.kept hset (fun k hk h => (HKR.out k h.1).1 hk))
      replace HKP := Lib.hid (HKP.out.set ⟨g, 0, none⟩ (.slice B1 (ks.length + 1) d1) (.inr HPG.out))
      clear hset hS0 hS1
      generalize (wd4.setCell ⟨g, 0, none⟩ (.slice B1 (ks.length + 1) d1)) = ws0 at *
      have hS1 : ws0.cell? ⟨g, 1, none⟩ = some xv := HB.out.c 1 _ rfl
      refine hK.out _ _ (⟨fun h => by simp at h, fun _ => hS1⟩) ?_
      clear hK K2
      try simp only [Act.put, List.setIfInBounds_toArray, List.set_cons_zero, List.set_cons_succ]
      refine stage_all (rs := [21]) (by kernel_rfl) (by simp) (fun i0 hi0 => ?_)
      obtain rfl : i0 = 21 := by simpa using hi0
      refine stage_step (S := fun (L' : Array Bool) (w' : World) => (L'.getD 20 false = false → w'.cell? ⟨g, 0, none⟩ = some kv) ∧ (L'.getD 23 false = false → w'.cell? ⟨g, 1, none⟩ = some xv)) (o := { dst := some 55, op := Go.Op.nilCheck (Go.Operand.tmp 36), type := 0, pos := "btree.go:175", after := #[{ on := 1, ground := Go.Ground.data }, { on := 0, ground := Go.Ground.phase }, { on := 1, ground := Go.Ground.phase }, { on := 2, ground := Go.Ground.phase }, { on := 3, ground := Go.Ground.phase }, { on := 4, ground := Go.Ground.phase }, { on := 5, ground := Go.Ground.phase }, { on := 6, ground := Go.Ground.phase }, { on := 7, ground := Go.Ground.phase }, { on := 8, ground := Go.Ground.phase }, { on := 9, ground := Go.Ground.phase }, { on := 10, ground := Go.Ground.phase }, { on := 11, ground := Go.Ground.phase }, { on := 12, ground := Go.Ground.phase }, { on := 13, ground := Go.Ground.phase }, { on := 14, ground := Go.Ground.phase }, { on := 15, ground := Go.Ground.phase }, { on := 16, ground := Go.Ground.phase }, { on := 17, ground := Go.Ground.phase }, { on := 18, ground := Go.Ground.phase }, { on := 19, ground := Go.Ground.phase }, { on := 20, ground := Go.Ground.phase }], guard := none }) (by rfl) (fun K2 hK => ?_)
      go_simp
      refine hK.out _ _ (⟨fun h => by simp at h, fun _ => hS1⟩) ?_
      clear hK K2
      try simp only [Act.put, List.setIfInBounds_toArray, List.set_cons_zero, List.set_cons_succ]
      refine stage_all (rs := [22]) (by kernel_rfl) (by simp) (fun i0 hi0 => ?_)
      obtain rfl : i0 = 22 := by simpa using hi0
      refine stage_step (S := fun (L' : Array Bool) (w' : World) => (L'.getD 20 false = false → w'.cell? ⟨g, 0, none⟩ = some kv) ∧ (L'.getD 23 false = false → w'.cell? ⟨g, 1, none⟩ = some xv)) (o := { dst := some 56, op := Go.Op.fieldAddr 73 (Go.Operand.tmp 55) 1, type := 0, pos := "btree.go:175", after := #[{ on := 21, ground := Go.Ground.data }, { on := 0, ground := Go.Ground.phase }, { on := 1, ground := Go.Ground.phase }, { on := 2, ground := Go.Ground.phase }, { on := 3, ground := Go.Ground.phase }, { on := 4, ground := Go.Ground.phase }, { on := 5, ground := Go.Ground.phase }, { on := 6, ground := Go.Ground.phase }, { on := 7, ground := Go.Ground.phase }, { on := 8, ground := Go.Ground.phase }, { on := 9, ground := Go.Ground.phase }, { on := 10, ground := Go.Ground.phase }, { on := 11, ground := Go.Ground.phase }, { on := 12, ground := Go.Ground.phase }, { on := 13, ground := Go.Ground.phase }, { on := 14, ground := Go.Ground.phase }, { on := 15, ground := Go.Ground.phase }, { on := 16, ground := Go.Ground.phase }, { on := 17, ground := Go.Ground.phase }, { on := 18, ground := Go.Ground.phase }, { on := 19, ground := Go.Ground.phase }, { on := 20, ground := Go.Ground.phase }], guard := none }) (by rfl) (fun K2 hK => ?_)
      go_simp
      refine hK.out _ _ (⟨fun h => by simp at h, fun _ => hS1⟩) ?_
      clear hK K2
      try simp only [Act.put, List.setIfInBounds_toArray, List.set_cons_zero, List.set_cons_succ]
      have cHB0 := HB.out.c 0 _ rfl; have fHB0 := HB.out.f 0 (by simp); have cHB1 := HB.out.c 1 _ rfl; have fHB1 := HB.out.f 1 (by simp); have cHB2 := HB.out.c 2 _ rfl; have fHB2 := HB.out.f 2 (by simp); have lHB := HB.out.lt
      refine stage_all (rs := [23]) (by kernel_rfl) (by simp) (fun i0 hi0 => ?_)
      obtain rfl : i0 = 23 := by simpa using hi0
      refine stage_step (S := fun (L' : Array Bool) (w' : World) => (L'.getD 20 false = false → w'.cell? ⟨g, 0, none⟩ = some kv) ∧ (L'.getD 23 false = false → w'.cell? ⟨g, 1, none⟩ = some xv)) (o := { dst := none, op := Go.Op.store 57 (Go.Operand.tmp 56) (Go.Operand.tmp 52), type := 0, pos := "btree.go:175", after := #[{ on := 22, ground := Go.Ground.data }, { on := 17, ground := Go.Ground.data }, { on := 20, ground := Go.Ground.chain }, { on := 0, ground := Go.Ground.phase }, { on := 1, ground := Go.Ground.phase }, { on := 2, ground := Go.Ground.phase }, { on := 3, ground := Go.Ground.phase }, { on := 4, ground := Go.Ground.phase }, { on := 5, ground := Go.Ground.phase }, { on := 6, ground := Go.Ground.phase }, { on := 7, ground := Go.Ground.phase }, { on := 8, ground := Go.Ground.phase }, { on := 9, ground := Go.Ground.phase }, { on := 10, ground := Go.Ground.phase }, { on := 11, ground := Go.Ground.phase }, { on := 12, ground := Go.Ground.phase }, { on := 13, ground := Go.Ground.phase }, { on := 14, ground := Go.Ground.phase }, { on := 15, ground := Go.Ground.phase }, { on := 16, ground := Go.Ground.phase }, { on := 17, ground := Go.Ground.phase }, { on := 18, ground := Go.Ground.phase }, { on := 19, ground := Go.Ground.phase }, { on := 20, ground := Go.Ground.phase }], guard := none }) (by rfl) (fun K2 hK => ?_)
      go_simp
      clear cHB0 fHB0 cHB1 fHB1 cHB2 fHB2 lHB
      have hB9 := HB.out.set 1 (.slice B2 (vs.length + 1) d2) (by simp)
      have HBn : Hid (Box (ws0.setCell ⟨g, 1, none⟩ (.slice B2 (vs.length + 1) d2)) g [.slice B1 (ks.length + 1) d1, .slice B2 (vs.length + 1) d2, yv]) := Lib.hid hB9
      have hset : Kept ws0.heap.size (fun k => k = g) ws0 (ws0.setCell ⟨g, 1, none⟩ (.slice B2 (vs.length + 1) d2)) := (Kept.refl _ _ _).set _ _ (.inr rfl)
      clear HB hB9
      have HB := HBn
      clear HBn
      replace HV1 := Lib.hid (own_kept hset HV1.out (fun k hk h => A1G.out (hk ▸ h)))
      replace HV2 := Lib.hid (own_kept hset HV2.out (fun k hk h => A2G.out (hk ▸ h)))
      replace HY := Lib.hid (ownP_kept hset HY.out (fun k hk h => AYG.out (hk ▸ h)))
      replace HR := Lib.hid (HR.out.kept hset (fun k hk h => (HKR.out k h.1).1 hk))
      replace HKP := Lib.hid (HKP.out.set ⟨g, 1, none⟩ (.slice B2 (vs.length + 1) d2) (.inr HPG.out))
      clear hset hS1
      generalize (ws0.setCell ⟨g, 1, none⟩ (.slice B2 (vs.length + 1) d2)) = ws1 at *
      refine hK.out _ _ (⟨fun h => by simp at h, fun h => by simp at h⟩) ?_
      clear hK K2
      try simp only [Act.put, List.setIfInBounds_toArray, List.set_cons_zero, List.set_cons_succ]
      refine stage_done (by kernel_rfl) ?_ _
      obtain ⟨u1, u2, u3⟩ := top_of hgl hwN hn1 hn2 HPK.out HPX.out HKR.out
      go_wp2_with fail
      refine bodyPost_ret (results_none rfl _ _ _) rfl ?_
      refine ⟨rfl, ⟨_, _, _, [], HB.out, ⟨by rw [putV_len _ _ _ (by omega)]; exact HV1.out, u1⟩, ⟨by rw [putV_len _ _ _ (by have := HVL.out; omega)]; exact HV2.out, u2⟩, ⟨HY.out.1, fun b hb => .inl (HY.out.2 b hb)⟩, .inl HPG.out, ⟨A1G.out, A2G.out, A12.out, AYG.out, fun b hb => ⟨fun h => A1Y.out b h hb, fun h => A2Y.out b h hb⟩⟩, by unfold RdsT; rfl⟩, HKP.out⟩
theorem insGi (j : Int) (q i : Nat) (v : Value) (ps : List Nat) (g : Nat) (w : World) (hj : j = (i : Nat)) (hl : ps.length ≤ 2048) (hi : i ≤ ps.length) (hown : w.ownsRow 0 67 1 v ps.length (ps.flatMap encN))
    (hq : w.heap[q]? = some (.cells #[.pointer (some ⟨g, 0, none⟩)] 67 (0, 0))) (hqv : v.ownBlock ≠ some q) :
    Calls Try.prog 48 #[v, .int .i64 j, .slice (some ⟨q, 0, none⟩) 1 1] w fun e w' => ∃ v', e = .returned v' ∧ w'.ownsRow 0 67 1 v' (ps.length + 1) ((putV ps i g).flatMap encN) ∧ InsP w w' v.ownBlock v' := by
  subst hj
  exact insG q i v ps g w hl hi hown hq hqv
theorem rds_last {w : World} {P : Nat → Prop} {ps : List Nat} {ts : List Tr} {i g : Nat} {t : Tr} (h : RdsT w P (ps ++ [g]) (ts ++ [t])) (hi : i ≤ ts.length) (hl : ps.length = ts.length) : RdsT w P (putV ps i g) (putV ts i t) := by
  have h1 := h.take ts.length
  rw [List.take_left' rfl, List.take_left' hl] at h1
  obtain ⟨p, hp, ht⟩ := h.get (i := ts.length) (t := t) (by simp)
  obtain rfl : g = p := by rw [← hl] at hp; simpa using hp
  exact h1.putV hi ht
theorem rds_snoc {w : World} {P : Nat → Prop} {ps : List Nat} {ts : List Tr} {g : Nat} {t : Tr} (h : RdsT w P ps ts) (ht : RdT w P g t) : RdsT w P (ps ++ [g]) (ts ++ [t]) := RdsT.of (by simp [h.len]) (fun j p u h1 h2 => by
  have hl := h.len
  by_cases hj : j < ts.length
  · rw [List.getElem?_append_left (by omega)] at h1 h2
    obtain ⟨p', g1, g2⟩ := h.get h2
    rw [g1] at h1
    exact Option.some.inj h1 ▸ g2
  · have e : j = ts.length := by
      have := lt_of_get h2
      simp at this; omega
    subst e
    obtain rfl : g = p := by rw [← hl] at h1; simpa using h1
    obtain rfl : t = u := by simpa using h2
    exact ht)
set_option maxHeartbeats 4000000 in
set_option maxRecDepth 100000 in
theorem put_node (key value : ByteArray) (ks vs : List ByteArray) (ts : List Tr) (h0 : ts ≠ []) (IH : ∀ t ∈ ts, PutGo key value t) : PutGo key value (.mk ks vs ts) := by
  intro P g w hT hO
  obtain ⟨kv, yv, xv, ps, hN, hA, hPg, hk, hy, hx, hTs⟩ := hT.node
  obtain ⟨hR, h1, h4, _, hinner, hOs⟩ := hO.parts
  obtain ⟨htl, hvn⟩ := hinner h0
  have hwl := wayS_le (ks := ks) (t := key) hR
  obtain ⟨t1, ht1⟩ : ∃ t1, ts[wayS ks key]? = some t1 := ⟨_, List.getElem?_eq_getElem (by omega)⟩
  rw [putK_node key value ht1]
  have hO1 := OkTs.mem hOs t1 (List.mem_of_getElem? ht1)
  obtain ⟨hs5, hs1, hsh⟩ := putK_shape (key := key) (value := value) hO1
  obtain ⟨p1, P1, hp1, hPP, hT1, hSib⟩ := hTs.focus ht1
  have hput := IH t1 (List.mem_of_getElem? ht1) P1 p1 w hT1 hO1
  have hP1 : P1 p1 := by
    obtain ⟨ks1, vs1, ts1⟩ := t1
    obtain ⟨_, _, _, _, _, _, h, _⟩ := hT1.node
    exact h
  obtain ⟨bI, oI, ic, hxv, hbI, hce⟩ := hN.ri.cell hp1 rfl (Below.refl _ _)
  obtain ⟨KA, kc, hkv, _, hkr, _, _⟩ := hN.rk
  have hway := way_any g KA kc yv xv ks key w (by rw [← hkv]; exact hN.box) hkr hR (by omega)
  have hpl := hN.len
  generalize wayS ks key = i at *
  generalize putK key value t1 = t' at *
  have HWAY := Lib.hid hway
  have HPUT := Lib.hid hput
  have HPL := Lib.hid hpl
  have HLT : Hid (ts.length = ks.length + 1) := Lib.hid htl
  have HCAST : Hid (IntKind.i64.wrap ((i : Int) + 1) = ((i + 1 : Nat) : Int)) := Lib.hid (by rw [IntKind.wrap_i64]; omega)
  have HS5 := Lib.hid hs5
  have HSH := Lib.hid hsh
  have HSIB := Lib.hid hSib
  have HPP := Lib.hid hPP
  have HP1 := Lib.hid hP1
  have HT1 := Lib.hid ht1
  have HP1G := Lib.hid hp1
  have HB := Lib.hid hN.box
  have HPK := Lib.hid hk.2
  have HPX := Lib.hid hx.2
  have HPG := Lib.hid hPg
  have AKY := Lib.hid hA.2.2.1
  have AKG := Lib.hid hA.1
  have AYG := Lib.hid hA.2.1
  have AXG := Lib.hid hA.2.2.2.1
  have AKX : Hid (∀ k, kv.ownBlock = some k → xv.ownBlock ≠ some k) := Lib.hid (fun k h h' => (hA.2.2.2.2 k h').1 h)
  have AXY : Hid (∀ k, xv.ownBlock = some k → yv.ownBlock ≠ some k) := Lib.hid (fun k h h' => (hA.2.2.2.2 k h).2 h')
  have HY := Lib.hid hy
  have HK1 := Lib.hid hk.1
  have hx1 := hx.1
  rw [← hpl] at hx1
  have HX1 := Lib.hid hx1
  have hgw := hN.box.lt
  have hkw : ∀ b, kv.ownBlock = some b → b < w.heap.size := fun b hb => (hk.1.lt b hb).2
  have hxw : ∀ b, xv.ownBlock = some b → b < w.heap.size := fun b hb => (hx.1.lt b hb).2
  have hyw : ∀ b, yv.ownBlock = some b → b < w.heap.size := fun b hb => (hy.1.lt b hb).2
  obtain ⟨KP, hKP1⟩ : ∃ KP, Rest (AndNew P w) g kv yv xv = KP := ⟨_, rfl⟩
  have HKR : Hid (∀ b, KP b → b ≠ g ∧ kv.ownBlock ≠ some b ∧ xv.ownBlock ≠ some b ∧ yv.ownBlock ≠ some b ∧ AndNew P w b) := Lib.hid (fun b hb => by
    subst hKP1
    exact ⟨hb.2.1, hb.2.2.1, hb.2.2.2.2, hb.2.2.2.1, hb.1⟩)
  have HKO : Hid (∀ b, Rest P g kv yv xv b → KP b) := Lib.hid (fun b hb => by
    subst hKP1
    exact ⟨.inl hb.1, hb.2⟩)
  have HKN : Hid (∀ b, w.heap.size ≤ b → KP b) := Lib.hid (fun b hb => by
    subst hKP1
    exact ⟨.inr hb, by omega, fun e => by have := hkw b e; omega, fun e => by have := hyw b e; omega, fun e => by have := hxw b e; omega⟩)
  have HKT : Hid (∀ b, KP b → Rest (AndNew P w) g kv yv xv b) := Lib.hid (fun b hb => by rw [hKP1]; exact hb)
  have hlen0 : 0 < ps.length := by omega
  have hil : i < ps.length := by omega
  obtain ⟨RT, hRT⟩ : ∃ RT, fixT ks vs ts i t' = RT := ⟨_, rfl⟩
  rw [hRT]
  have HRT := Lib.hid hRT
  clear hRT
  clear hKP1 hN hA hTs hkr hR hO hT hk hy hx hx1 hT1 hO1 hs5 hs1 hsh hSib hput hP1 hPP hway hpl htl hvn hinner hOs ht1 hp1 hkw hxw hyw IH h0 hkv
  go_enter Try.func30, Try.ntmps30
  subst hxv
  have cHB0 := HB.out.c 0 _ rfl; have fHB0 := HB.out.f 0 (by simp); have cHB1 := HB.out.c 1 _ rfl; have fHB1 := HB.out.f 1 (by simp); have cHB2 := HB.out.c 2 _ rfl; have fHB2 := HB.out.f 2 (by simp); have lHB := HB.out.lt
  go_upto_region 5 with (fail)
  clear cHB0 fHB0 cHB1 fHB1 cHB2 fHB2 lHB
  go_wp2_with fail
  refine HWAY.out.mono ?_
  rintro e w0 ⟨rfl, rfl⟩
  have cHB0 := HB.out.c 0 _ rfl; have fHB0 := HB.out.f 0 (by simp); have cHB1 := HB.out.c 1 _ rfl; have fHB1 := HB.out.f 1 (by simp); have cHB2 := HB.out.c 2 _ rfl; have fHB2 := HB.out.f 2 (by simp); have lHB := HB.out.lt
  go_upto_region 7 with (fail)
  clear cHB0 fHB0 cHB1 fHB1 cHB2 fHB2 lHB
  clear hce HWAY
  generalize hxv : Value.slice (some ⟨bI, oI, none⟩) ps.length ic = xv at *
  clear hxv
  go_wp2_with fail
  refine HPUT.out.mono ?_
  rintro e w1 ⟨rfl, hTop, hKp⟩
  clear HPUT
  have hout : ∀ k, P1 k → k ≠ g ∧ kv.ownBlock ≠ some k ∧ xv.ownBlock ≠ some k ∧ yv.ownBlock ≠ some k := fun k hk => by
    have := HPP.out k hk
    exact ⟨this.2.1, this.2.2.1, this.2.2.2.2, this.2.2.2.1⟩
  replace HB := Lib.hid (HB.out.kept hKp hgw (fun h => (hout _ h).1 rfl))
  replace HK1 := Lib.hid (own_kept hKp HK1.out (fun k hk h => (hout k hk).2.1 h))
  replace HX1 := Lib.hid (own_kept hKp HX1.out (fun k hk h => (hout k hk).2.2.1 h))
  replace HY := Lib.hid (ownP_kept hKp HY.out (fun k hk h => (hout k hk).2.2.2 h))
  have hKP1 : Kept w.heap.size P w w1 := hKp.mono (fun k hk => (HPP.out k hk).1)
  have HKP := Lib.hid hKP1
  have hsib := HSIB.out w1 hKp
  have HSB := Lib.hid hsib
  have HTOP := Lib.hid hTop
  have hw1 := hKp.size
  clear hsib hKP1 hTop HSIB hout hKp
  obtain ⟨KA1, kc1, u2, u3, hbx⟩ := HTOP.out.box
  have cp0 := hbx.c 0 _ rfl
  have lp1 := hbx.lt
  clear hbx
  by_cases h5 : 4 < t'.keys.length
  · have h5' : (4 : Int) < (t'.keys.length : Int) := by omega
    have hfix : fixT ks vs ts i t' = .mk (putV ks i (splitT t').1) vs (putV (ts.set i (splitT t').2.1) (i + 1) (splitT t').2.2) := by unfold fixT; rw [if_pos h5]
    have hsp := split_any (AndNew P1 w) p1 t' w1 HTOP.out (by have := HS5.out; omega) HSH.out
    generalize hst : splitT t' = st at hfix hsp
    obtain ⟨up, l, r⟩ := st
    dsimp only at hfix hsp
    have hRT : RT = .mk (putV ks i up) vs (putV (ts.set i l) (i + 1) r) := HRT.out.symm.trans hfix
    subst hRT
    have HSP := Lib.hid hsp
    clear hsp hfix hst HSH HS5 HTOP HRT
    go_wp2_with fail
    refine HSP.out.mono ?_
    rintro e w2 ⟨g2, rfl, hL, hRr, hg2, hK2⟩
    clear HSP cp0 h5' lp1
    have hout : p1 ≠ g ∧ kv.ownBlock ≠ some p1 ∧ xv.ownBlock ≠ some p1 ∧ yv.ownBlock ≠ some p1 ∧ P p1 := by
      have := HPP.out p1 HP1.out
      exact ⟨this.2.1, this.2.2.1, this.2.2.2.2, this.2.2.2.1, this.1⟩
    replace HB := Lib.hid (HB.out.kept hK2 HB.out.lt (fun h => hout.1 h.symm))
    replace HK1 := Lib.hid (own_kept hK2 HK1.out (fun k hk h => hout.2.1 (hk ▸ h)))
    replace HX1 := Lib.hid (own_kept hK2 HX1.out (fun k hk h => hout.2.2.1 (hk ▸ h)))
    replace HY := Lib.hid (ownP_kept hK2 HY.out (fun k hk h => hout.2.2.2.1 (hk ▸ h)))
    replace HKP := Lib.hid (HKP.out.trans (kept_less hK2 hw1 (fun k _ hk => hk ▸ hout.2.2.2.2)))
    have hnew : ∀ b, AndNew (AndNew P1 w) w1 b → KP b := fun b h => by
      rcases h with (h | h) | h
      · exact HKO.out b (HPP.out b h)
      · exact HKN.out b h
      · exact HKN.out b (by omega)
    have hr : RdsT w2 KP (ps ++ [g2]) (ts.set i l ++ [r]) := rds_snoc (RdsT.of (by rw [List.length_set]; exact HPL.out) (fun j q u hq hu => by
      by_cases hji : j = i
      · subst hji
        rw [HP1G.out] at hq
        obtain rfl := Option.some.inj hq
        rw [List.getElem?_set_self (by have := HPL.out; omega)] at hu
        obtain rfl := Option.some.inj hu
        exact hL.mono (fun b _ h => hnew b h)
      · rw [List.getElem?_set_ne (fun e => hji e.symm)] at hu
        exact ((HSB.out j q u hji hq hu).kept hK2 (fun k hk h => h.2 (hk ▸ HP1.out))).mono (fun b _ h => HKO.out b h.1))) (hRr.mono (fun b _ h => hnew b h))
    have HR := Lib.hid hr
    clear hr hnew hout hL hRr hK2 HSB HP1G HPP HKO HP1
    go_upto_region 10 with (fail)
    refine stage_begin (S := fun (L' : Array Bool) (w' : World) => (L'.getD 21 false = false → w'.cell? ⟨g, 0, none⟩ = some kv) ∧ (L'.getD 24 false = false → w'.cell? ⟨g, 2, none⟩ = some xv)) (by kernel_rfl) ?_
    have hdr : Below w2.heap.size w2 w2.drew := below_drewN (Below.refl _ _) 1
    replace HB := Lib.hid HB.out.drew
    replace HK1 := Lib.hid (own_below HK1.out hdr)
    replace HX1 := Lib.hid (own_below HX1.out hdr)
    replace HY := Lib.hid (HY.out.below hdr)
    replace HR := Lib.hid (HR.out.below hdr)
    replace HKP := Lib.hid (HKP.out.trans (Kept.of_below hdr HKP.out.size))
    clear hdr
    generalize w2.drew = wd0 at *
    obtain ⟨N0, hN0⟩ : ∃ N0, wd0.heap.size = N0 := ⟨_, rfl⟩
    replace HR := Lib.hid (HR.out.mono (P' := fun b => KP b ∧ b < N0) (fun b hb h => ⟨h, by omega⟩))
    have hgl : g < N0 := by have := HB.out.lt; omega
    have hwN : w.heap.size ≤ N0 := by have := HKP.out.size; omega
    have hkl : ∀ b, kv.ownBlock = some b → b < N0 := fun b hb => by have := (HK1.out.lt b hb).2; omega
    have hxl : ∀ b, xv.ownBlock = some b → b < N0 := fun b hb => by have := (HX1.out.lt b hb).2; omega
    have hyl : ∀ b, yv.ownBlock = some b → b < N0 := fun b hb => by have := (HY.out.1.lt b hb).2; omega
    have hsz : N0 ≤ wd0.heap.size := by omega
    clear hN0
    have hS0 : wd0.cell? ⟨g, 0, none⟩ = some kv := HB.out.c 0 _ rfl
    have hS1 : wd0.cell? ⟨g, 2, none⟩ = some xv := HB.out.c 2 _ rfl
    refine stage_take (i := 0) (oi := { dst := some 82, op := Go.Op.move (Go.Operand.tmp 0), type := 67, pos := "btree.go:183", after := #[], guard := none }) (v := ?_) (T := fun _ => True) rfl (by kernel_rfl) (by kernel_rfl) (by kernel_rfl) (by kernel_rfl) (fun _ _ _ h => h) (fun L' w' hW hS => trivial) (fun L' w' hS => ⟨fun h => hS.1 (by rw [getD_set_ne false (by decide)]; exact h), fun h => hS.2 (by rw [getD_set_ne false (by decide)]; exact h)⟩) (Or.inl ⟨by rfl, ?_⟩) trivial (⟨fun _ => hS0, fun _ => hS1⟩) ?_
    rotate_left 1
    · intro w9 _; go_simp; (try with_reducible rfl)
    try simp only [Act.put, List.setIfInBounds_toArray, List.set_cons_zero, List.set_cons_succ]
    refine stage_take (i := 1) (oi := { dst := some 83, op := Go.Op.move (Go.Operand.tmp 0), type := 67, pos := "btree.go:183", after := #[{ on := 21, ground := Go.Ground.gcOnly Go.Departure.lateStores }], guard := none }) (v := ?_) (T := fun _ => True) rfl (by kernel_rfl) (by kernel_rfl) (by kernel_rfl) (by kernel_rfl) (fun _ _ _ h => h) (fun L' w' hW hS => trivial) (fun L' w' hS => ⟨fun h => hS.1 (by rw [getD_set_ne false (by decide)]; exact h), fun h => hS.2 (by rw [getD_set_ne false (by decide)]; exact h)⟩) (Or.inl ⟨by rfl, ?_⟩) trivial (⟨fun _ => hS0, fun _ => hS1⟩) ?_
    rotate_left 1
    · intro w9 _; go_simp; (try with_reducible rfl)
    try simp only [Act.put, List.setIfInBounds_toArray, List.set_cons_zero, List.set_cons_succ]
    refine stage_take (i := 2) (oi := { dst := some 84, op := Go.Op.move (Go.Operand.tmp 0), type := 67, pos := "btree.go:183", after := #[], guard := none }) (v := ?_) (T := fun _ => True) rfl (by kernel_rfl) (by kernel_rfl) (by kernel_rfl) (by kernel_rfl) (fun _ _ _ h => h) (fun L' w' hW hS => trivial) (fun L' w' hS => ⟨fun h => hS.1 (by rw [getD_set_ne false (by decide)]; exact h), fun h => hS.2 (by rw [getD_set_ne false (by decide)]; exact h)⟩) (Or.inl ⟨by rfl, ?_⟩) trivial (⟨fun _ => hS0, fun _ => hS1⟩) ?_
    rotate_left 1
    · intro w9 _; go_simp; (try with_reducible rfl)
    try simp only [Act.put, List.setIfInBounds_toArray, List.set_cons_zero, List.set_cons_succ]
    refine stage_take (i := 3) (oi := { dst := some 85, op := Go.Op.nilCheck (Go.Operand.tmp 84), type := 0, pos := "btree.go:183", after := #[{ on := 2, ground := Go.Ground.data }], guard := none }) (v := ?_) (T := fun _ => True) rfl (by kernel_rfl) (by kernel_rfl) (by kernel_rfl) (by kernel_rfl) (fun _ _ _ h => h) (fun L' w' hW hS => trivial) (fun L' w' hS => ⟨fun h => hS.1 (by rw [getD_set_ne false (by decide)]; exact h), fun h => hS.2 (by rw [getD_set_ne false (by decide)]; exact h)⟩) (Or.inl ⟨by rfl, ?_⟩) trivial (⟨fun _ => hS0, fun _ => hS1⟩) ?_
    rotate_left 1
    · intro w9 _; go_simp; (try with_reducible rfl)
    try simp only [Act.put, List.setIfInBounds_toArray, List.set_cons_zero, List.set_cons_succ]
    refine stage_take (i := 4) (oi := { dst := some 86, op := Go.Op.fieldAddr 73 (Go.Operand.tmp 85) 0, type := 0, pos := "btree.go:183", after := #[{ on := 3, ground := Go.Ground.data }], guard := none }) (v := ?_) (T := fun _ => True) rfl (by kernel_rfl) (by kernel_rfl) (by kernel_rfl) (by kernel_rfl) (fun _ _ _ h => h) (fun L' w' hW hS => trivial) (fun L' w' hS => ⟨fun h => hS.1 (by rw [getD_set_ne false (by decide)]; exact h), fun h => hS.2 (by rw [getD_set_ne false (by decide)]; exact h)⟩) (Or.inl ⟨by rfl, ?_⟩) trivial (⟨fun _ => hS0, fun _ => hS1⟩) ?_
    rotate_left 1
    · intro w9 _; go_simp; (try with_reducible rfl)
    try simp only [Act.put, List.setIfInBounds_toArray, List.set_cons_zero, List.set_cons_succ]
    refine stage_take (i := 5) (oi := { dst := some 87, op := Go.Op.load 57 (Go.Operand.tmp 86), type := 57, pos := "btree.go:183", after := #[{ on := 4, ground := Go.Ground.data }], guard := none }) (v := ?_) (T := fun w' : World => w'.cell? ⟨g, 0, none⟩ = some kv) rfl (by kernel_rfl) (by kernel_rfl) (by kernel_rfl) (by kernel_rfl) (fun _ _ _ h => h) (fun L' w' hW hS => hS.1 (not_yet hW (by kernel_rfl))) (fun L' w' hS => ⟨fun h => hS.1 (by rw [getD_set_ne false (by decide)]; exact h), fun h => hS.2 (by rw [getD_set_ne false (by decide)]; exact h)⟩) (Or.inl ⟨by rfl, ?_⟩) (hS0) (⟨fun _ => hS0, fun _ => hS1⟩) ?_
    rotate_left 1
    · intro w9 zA; go_simp; (try with_reducible rfl)
    try simp only [Act.put, List.setIfInBounds_toArray, List.set_cons_zero, List.set_cons_succ]
    refine stage_take (i := 6) (oi := { dst := some 88, op := Go.Op.move (Go.Operand.tmp 8), type := 3, pos := "btree.go:183", after := #[], guard := none }) (v := ?_) (T := fun _ => True) rfl (by kernel_rfl) (by kernel_rfl) (by kernel_rfl) (by kernel_rfl) (fun _ _ _ h => h) (fun L' w' hW hS => trivial) (fun L' w' hS => ⟨fun h => hS.1 (by rw [getD_set_ne false (by decide)]; exact h), fun h => hS.2 (by rw [getD_set_ne false (by decide)]; exact h)⟩) (Or.inl ⟨by rfl, ?_⟩) trivial (⟨fun _ => hS0, fun _ => hS1⟩) ?_
    rotate_left 1
    · intro w9 _; go_simp; (try with_reducible rfl)
    try simp only [Act.put, List.setIfInBounds_toArray, List.set_cons_zero, List.set_cons_succ]
    refine stage_take (i := 7) (oi := { dst := some 89, op := Go.Op.move (Go.Operand.tmp 10), type := 9, pos := "btree.go:183", after := #[], guard := none }) (v := ?_) (T := fun _ => True) rfl (by kernel_rfl) (by kernel_rfl) (by kernel_rfl) (by kernel_rfl) (fun _ _ _ h => h) (fun L' w' hW hS => trivial) (fun L' w' hS => ⟨fun h => hS.1 (by rw [getD_set_ne false (by decide)]; exact h), fun h => hS.2 (by rw [getD_set_ne false (by decide)]; exact h)⟩) (Or.inl ⟨by rfl, ?_⟩) trivial (⟨fun _ => hS0, fun _ => hS1⟩) ?_
    rotate_left 1
    · intro w9 _; go_simp; (try with_reducible rfl)
    try simp only [Act.put, List.setIfInBounds_toArray, List.set_cons_zero, List.set_cons_succ]
    refine stage_take (i := 10) (oi := { dst := some 92, op := Go.Op.move (Go.Operand.tmp 0), type := 67, pos := "btree.go:183", after := #[], guard := none }) (v := ?_) (T := fun _ => True) rfl (by kernel_rfl) (by kernel_rfl) (by kernel_rfl) (by kernel_rfl) (fun _ _ _ h => h) (fun L' w' hW hS => trivial) (fun L' w' hS => ⟨fun h => hS.1 (by rw [getD_set_ne false (by decide)]; exact h), fun h => hS.2 (by rw [getD_set_ne false (by decide)]; exact h)⟩) (Or.inl ⟨by rfl, ?_⟩) trivial (⟨fun _ => hS0, fun _ => hS1⟩) ?_
    rotate_left 1
    · intro w9 _; go_simp; (try with_reducible rfl)
    try simp only [Act.put, List.setIfInBounds_toArray, List.set_cons_zero, List.set_cons_succ]
    refine stage_take (i := 11) (oi := { dst := some 93, op := Go.Op.nilCheck (Go.Operand.tmp 92), type := 0, pos := "btree.go:183", after := #[{ on := 10, ground := Go.Ground.data }], guard := none }) (v := ?_) (T := fun _ => True) rfl (by kernel_rfl) (by kernel_rfl) (by kernel_rfl) (by kernel_rfl) (fun _ _ _ h => h) (fun L' w' hW hS => trivial) (fun L' w' hS => ⟨fun h => hS.1 (by rw [getD_set_ne false (by decide)]; exact h), fun h => hS.2 (by rw [getD_set_ne false (by decide)]; exact h)⟩) (Or.inl ⟨by rfl, ?_⟩) trivial (⟨fun _ => hS0, fun _ => hS1⟩) ?_
    rotate_left 1
    · intro w9 _; go_simp; (try with_reducible rfl)
    try simp only [Act.put, List.setIfInBounds_toArray, List.set_cons_zero, List.set_cons_succ]
    refine stage_take (i := 12) (oi := { dst := some 94, op := Go.Op.fieldAddr 73 (Go.Operand.tmp 93) 2, type := 0, pos := "btree.go:183", after := #[{ on := 11, ground := Go.Ground.data }], guard := none }) (v := ?_) (T := fun _ => True) rfl (by kernel_rfl) (by kernel_rfl) (by kernel_rfl) (by kernel_rfl) (fun _ _ _ h => h) (fun L' w' hW hS => trivial) (fun L' w' hS => ⟨fun h => hS.1 (by rw [getD_set_ne false (by decide)]; exact h), fun h => hS.2 (by rw [getD_set_ne false (by decide)]; exact h)⟩) (Or.inl ⟨by rfl, ?_⟩) trivial (⟨fun _ => hS0, fun _ => hS1⟩) ?_
    rotate_left 1
    · intro w9 _; go_simp; (try with_reducible rfl)
    try simp only [Act.put, List.setIfInBounds_toArray, List.set_cons_zero, List.set_cons_succ]
    refine stage_take (i := 13) (oi := { dst := some 95, op := Go.Op.load 71 (Go.Operand.tmp 94), type := 71, pos := "btree.go:183", after := #[{ on := 12, ground := Go.Ground.data }], guard := none }) (v := ?_) (T := fun w' : World => w'.cell? ⟨g, 2, none⟩ = some xv) rfl (by kernel_rfl) (by kernel_rfl) (by kernel_rfl) (by kernel_rfl) (fun _ _ _ h => h) (fun L' w' hW hS => hS.2 (not_yet hW (by kernel_rfl))) (fun L' w' hS => ⟨fun h => hS.1 (by rw [getD_set_ne false (by decide)]; exact h), fun h => hS.2 (by rw [getD_set_ne false (by decide)]; exact h)⟩) (Or.inl ⟨by rfl, ?_⟩) (hS1) (⟨fun _ => hS0, fun _ => hS1⟩) ?_
    rotate_left 1
    · intro w9 zA; go_simp; (try with_reducible rfl)
    try simp only [Act.put, List.setIfInBounds_toArray, List.set_cons_zero, List.set_cons_succ]
    refine stage_take (i := 14) (oi := { dst := some 96, op := Go.Op.move (Go.Operand.tmp 8), type := 3, pos := "btree.go:183", after := #[], guard := none }) (v := ?_) (T := fun _ => True) rfl (by kernel_rfl) (by kernel_rfl) (by kernel_rfl) (by kernel_rfl) (fun _ _ _ h => h) (fun L' w' hW hS => trivial) (fun L' w' hS => ⟨fun h => hS.1 (by rw [getD_set_ne false (by decide)]; exact h), fun h => hS.2 (by rw [getD_set_ne false (by decide)]; exact h)⟩) (Or.inl ⟨by rfl, ?_⟩) trivial (⟨fun _ => hS0, fun _ => hS1⟩) ?_
    rotate_left 1
    · intro w9 _; go_simp; (try with_reducible rfl)
    try simp only [Act.put, List.setIfInBounds_toArray, List.set_cons_zero, List.set_cons_succ]
    refine stage_take (i := 15) (oi := { dst := some 97, op := Go.Op.binOp Go.BinOp.add 3 (Go.Operand.tmp 96) (Go.Operand.const (Go.Value.int Go.IntKind.i64 1)) 3, type := 3, pos := "btree.go:183", after := #[{ on := 14, ground := Go.Ground.data }], guard := none }) (v := ?_) (T := fun _ => True) rfl (by kernel_rfl) (by kernel_rfl) (by kernel_rfl) (by kernel_rfl) (fun _ _ _ h => h) (fun L' w' hW hS => trivial) (fun L' w' hS => ⟨fun h => hS.1 (by rw [getD_set_ne false (by decide)]; exact h), fun h => hS.2 (by rw [getD_set_ne false (by decide)]; exact h)⟩) (Or.inl ⟨by rfl, ?_⟩) trivial (⟨fun _ => hS0, fun _ => hS1⟩) ?_
    rotate_left 1
    · intro w9 _; go_simp; (try with_reducible rfl)
    try simp only [Act.put, List.setIfInBounds_toArray, List.set_cons_zero, List.set_cons_succ]
    refine stage_take (i := 16) (oi := { dst := some 98, op := Go.Op.move (Go.Operand.tmp 11), type := 67, pos := "btree.go:183", after := #[], guard := none }) (v := ?_) (T := fun _ => True) rfl (by kernel_rfl) (by kernel_rfl) (by kernel_rfl) (by kernel_rfl) (fun _ _ _ h => h) (fun L' w' hW hS => trivial) (fun L' w' hS => ⟨fun h => hS.1 (by rw [getD_set_ne false (by decide)]; exact h), fun h => hS.2 (by rw [getD_set_ne false (by decide)]; exact h)⟩) (Or.inl ⟨by rfl, ?_⟩) trivial (⟨fun _ => hS0, fun _ => hS1⟩) ?_
    rotate_left 1
    · intro w9 _; go_simp; (try with_reducible rfl)
    try simp only [Act.put, List.setIfInBounds_toArray, List.set_cons_zero, List.set_cons_succ]
    refine stage_all (rs := [8, 17]) (by kernel_rfl) (by simp) (fun i0 hi0 => ?_)
    simp only [List.mem_cons, List.not_mem_nil, or_false] at hi0
    rcases hi0 with rfl | rfl
    · refine stage_step (S := fun (L' : Array Bool) (w' : World) => (L'.getD 21 false = false → w'.cell? ⟨g, 0, none⟩ = some kv) ∧ (L'.getD 24 false = false → w'.cell? ⟨g, 2, none⟩ = some xv)) (o := { dst := some 90, op := Go.Op.buildSlice 57 1 #[(0, Go.Operand.tmp 89)], type := 57, pos := "btree.go:183", after := #[{ on := 7, ground := Go.Ground.data }], guard := none }) (by rfl) (fun K2 hK => ?_)
      clear hS0 hS1
      go_simp
      have hal : Below wd0.heap.size wd0 (wd0.alloc (.cells #[.string up] 9)) := (Below.refl _ _).alloc (Nat.le_refl _) _
      replace HB := Lib.hid (HB.out.alloc (.cells #[.string up] 9))
      replace HY := Lib.hid (HY.out.below hal)
      replace HR := Lib.hid (HR.out.below hal)
      replace HX1 := Lib.hid (own_below HX1.out hal)
      replace HK1 := Lib.hid (own_below HK1.out hal)
      replace HKP := Lib.hid (HKP.out.trans (Kept.of_below hal HKP.out.size))
      have HQ1 : Hid ((wd0.alloc (.cells #[.string up] 9)).heap[wd0.heap.size]? = some (.cells #[.string up] 9 (0, 0))) := Lib.hid (heap_alloc_new wd0 _)
      have hq1 : N0 ≤ wd0.heap.size ∧ wd0.heap.size < (wd0.alloc (.cells #[.string up] 9)).heap.size := ⟨hsz, by simp⟩
      replace hsz := Nat.le_trans hsz hal.size
      clear hal
      generalize wd0.alloc (.cells #[.string up] 9) = wd1 at *
      generalize wd0.heap.size = q1 at *
      have hS0 : wd1.cell? ⟨g, 0, none⟩ = some kv := HB.out.c 0 _ rfl
      have hS1 : wd1.cell? ⟨g, 2, none⟩ = some xv := HB.out.c 2 _ rfl
      refine hK.out _ _ (⟨fun _ => hS0, fun _ => hS1⟩) ?_
      clear hK K2
      try simp only [Act.put, List.setIfInBounds_toArray, List.set_cons_zero, List.set_cons_succ]
      refine stage_all (rs := [9, 17]) (by kernel_rfl) (by simp) (fun i0 hi0 => ?_)
      simp only [List.mem_cons, List.not_mem_nil, or_false] at hi0
      rcases hi0 with rfl | rfl
      · refine stage_step (S := fun (L' : Array Bool) (w' : World) => (L'.getD 21 false = false → w'.cell? ⟨g, 0, none⟩ = some kv) ∧ (L'.getD 24 false = false → w'.cell? ⟨g, 2, none⟩ = some xv)) (o := { dst := some 91, op := Go.Op.call { callee := Go.Callee.value (Go.Operand.func 47), args := #[Go.Operand.tmp 87, Go.Operand.tmp 88, Go.Operand.tmp 90], argTypes := #[57, 3, 57] }, type := 57, pos := "btree.go:183", after := #[{ on := 5, ground := Go.Ground.data }, { on := 6, ground := Go.Ground.data }, { on := 8, ground := Go.Ground.data }], guard := none }) (by rfl) (fun K2 hK => ?_)
        clear hS0 hS1
        go_simp
        go_wp2_with fail
        with_reducible refine (insK q1 i kv ks up wd1 (by omega) (by omega) HK1.out HQ1.out (fun e => by have := hkl _ e; omega)).mono ?_
        rintro e wd2 ⟨v1, rfl, hown, hins⟩
        have hkg : Kept wd1.heap.size (fun k => kv.ownBlock = some k) wd1 wd2 := (Kept.refl _ _ _).grown hins.1 (Nat.le_refl _) (fun k hk => .inr hk)
        replace HB := Lib.hid (HB.out.kept hkg HB.out.lt AKG.out)
        replace HY := Lib.hid (ownP_kept hkg HY.out (fun k hk h => AKY.out k hk h))
        replace HR := Lib.hid (HR.out.kept hkg (fun k hk h => (HKR.out k h.1).2.1 hk))
        replace HX1 := Lib.hid (own_kept hkg HX1.out (fun k hk h => AKX.out k hk h))
        replace HKP := Lib.hid (HKP.out.trans (kept_less hkg HKP.out.size (fun k _ hk => HPK.out k hk)))
        have HV1 := Lib.hid hown
        have hn1 : v1.ownBlock = kv.ownBlock ∨ (v1.ownBlock = some wd1.heap.size ∧ N0 ≤ wd1.heap.size) := hins.2.imp id (fun h => ⟨h, hsz⟩)
        have hl1 : ∀ b, v1.ownBlock = some b → b < wd2.heap.size := fun b hb => (hown.lt b hb).2
        have A1X := Lib.hid (apn hn1 AKX.out hxl)
        have A1Y := Lib.hid (apn hn1 AKY.out hyl)
        have A1G := Lib.hid (apg hn1 AKG.out hgl)
        replace hsz := Nat.le_trans hsz hkg.size
        clear hkg hins hown HK1 HQ1 hq1
        have hS0 : wd2.cell? ⟨g, 0, none⟩ = some kv := HB.out.c 0 _ rfl
        have hS1 : wd2.cell? ⟨g, 2, none⟩ = some xv := HB.out.c 2 _ rfl
        refine hK.out _ _ (⟨fun _ => hS0, fun _ => hS1⟩) ?_
        clear hK K2
        try simp only [Act.put, List.setIfInBounds_toArray, List.set_cons_zero, List.set_cons_succ]
        refine stage_all (rs := [17]) (by kernel_rfl) (by simp) (fun i0 hi0 => ?_)
        obtain rfl : i0 = 17 := by simpa using hi0
        refine stage_step (S := fun (L' : Array Bool) (w' : World) => (L'.getD 21 false = false → w'.cell? ⟨g, 0, none⟩ = some kv) ∧ (L'.getD 24 false = false → w'.cell? ⟨g, 2, none⟩ = some xv)) (o := { dst := some 99, op := Go.Op.buildSlice 71 1 #[(0, Go.Operand.tmp 98)], type := 71, pos := "btree.go:183", after := #[{ on := 16, ground := Go.Ground.data }], guard := none }) (by rfl) (fun K2 hK => ?_)
        clear hS0 hS1
        go_simp
        have hal : Below wd2.heap.size wd2 (wd2.alloc (.cells #[.pointer (some ⟨g2, 0, none⟩)] 67)) := (Below.refl _ _).alloc (Nat.le_refl _) _
        replace HB := Lib.hid (HB.out.alloc (.cells #[.pointer (some ⟨g2, 0, none⟩)] 67))
        replace HY := Lib.hid (HY.out.below hal)
        replace HR := Lib.hid (HR.out.below hal)
        replace HX1 := Lib.hid (own_below HX1.out hal)
        replace HV1 := Lib.hid (own_below HV1.out hal)
        replace HKP := Lib.hid (HKP.out.trans (Kept.of_below hal HKP.out.size))
        have HQ2 : Hid ((wd2.alloc (.cells #[.pointer (some ⟨g2, 0, none⟩)] 67)).heap[wd2.heap.size]? = some (.cells #[.pointer (some ⟨g2, 0, none⟩)] 67 (0, 0))) := Lib.hid (heap_alloc_new wd2 _)
        replace hl1 := fun b hb => Nat.lt_of_lt_of_le (hl1 b hb) hal.size
        have hq2 : N0 ≤ wd2.heap.size ∧ wd2.heap.size < (wd2.alloc (.cells #[.pointer (some ⟨g2, 0, none⟩)] 67)).heap.size := ⟨hsz, by simp⟩
        replace hsz := Nat.le_trans hsz hal.size
        clear hal
        generalize wd2.alloc (.cells #[.pointer (some ⟨g2, 0, none⟩)] 67) = wd3 at *
        generalize wd2.heap.size = q2 at *
        have hS0 : wd3.cell? ⟨g, 0, none⟩ = some kv := HB.out.c 0 _ rfl
        have hS1 : wd3.cell? ⟨g, 2, none⟩ = some xv := HB.out.c 2 _ rfl
        refine hK.out _ _ (⟨fun _ => hS0, fun _ => hS1⟩) ?_
        clear hK K2
        try simp only [Act.put, List.setIfInBounds_toArray, List.set_cons_zero, List.set_cons_succ]
        refine stage_all (rs := [18]) (by kernel_rfl) (by simp) (fun i0 hi0 => ?_)
        obtain rfl : i0 = 18 := by simpa using hi0
        refine stage_step (S := fun (L' : Array Bool) (w' : World) => (L'.getD 21 false = false → w'.cell? ⟨g, 0, none⟩ = some kv) ∧ (L'.getD 24 false = false → w'.cell? ⟨g, 2, none⟩ = some xv)) (o := { dst := some 100, op := Go.Op.call { callee := Go.Callee.value (Go.Operand.func 48), args := #[Go.Operand.tmp 95, Go.Operand.tmp 97, Go.Operand.tmp 99], argTypes := #[71, 3, 71] }, type := 71, pos := "btree.go:183", after := #[{ on := 13, ground := Go.Ground.data }, { on := 15, ground := Go.Ground.data }, { on := 17, ground := Go.Ground.data }, { on := 9, ground := Go.Ground.chain }], guard := none }) (by rfl) (fun K2 hK => ?_)
        clear hS0 hS1
        go_simp
        go_wp2_with fail
        with_reducible refine (insGi (IntKind.i64.wrap ((i : Int) + 1)) q2 (i + 1) xv ps g2 wd3 HCAST.out (by have := HPL.out; have := HLT.out; omega) (by have := HPL.out; have := HLT.out; omega) HX1.out HQ2.out (fun e => by have := hxl _ e; omega)).mono ?_
        rintro e wd4 ⟨v2, rfl, hown, hins⟩
        have hkg : Kept wd3.heap.size (fun k => xv.ownBlock = some k) wd3 wd4 := (Kept.refl _ _ _).grown hins.1 (Nat.le_refl _) (fun k hk => .inr hk)
        replace HB := Lib.hid (HB.out.kept hkg HB.out.lt AXG.out)
        replace HY := Lib.hid (ownP_kept hkg HY.out (fun k hk h => AXY.out k hk h))
        replace HR := Lib.hid (HR.out.kept hkg (fun k hk h => (HKR.out k h.1).2.2.1 hk))
        replace HV1 := Lib.hid (own_kept hkg HV1.out (fun k hk h => A1X.out k h hk))
        replace HKP := Lib.hid (HKP.out.trans (kept_less hkg HKP.out.size (fun k _ hk => HPX.out k hk)))
        have HV2 := Lib.hid hown
        have hn2 : v2.ownBlock = xv.ownBlock ∨ (v2.ownBlock = some wd3.heap.size ∧ N0 ≤ wd3.heap.size) := hins.2.imp id (fun h => ⟨h, hsz⟩)
        have A12 := Lib.hid (apm hn2 A1X.out hl1)
        have A2Y := Lib.hid (apn hn2 AXY.out hyl)
        have A2G := Lib.hid (apg hn2 AXG.out hgl)
        replace hsz := Nat.le_trans hsz hkg.size
        clear hkg hins hown HX1 HQ2 hq2 hl1
        have hS0 : wd4.cell? ⟨g, 0, none⟩ = some kv := HB.out.c 0 _ rfl
        have hS1 : wd4.cell? ⟨g, 2, none⟩ = some xv := HB.out.c 2 _ rfl
        refine hK.out _ _ (⟨fun _ => hS0, fun _ => hS1⟩) ?_
        clear hK K2
        try simp only [Act.put, List.setIfInBounds_toArray, List.set_cons_zero, List.set_cons_succ]
        obtain ⟨B1, d1, rfl, _, _⟩ := own_slice HV1.out
        obtain ⟨B2, d2, rfl, _, _⟩ := own_slice HV2.out
        refine stage_all (rs := [19]) (by kernel_rfl) (by simp) (fun i0 hi0 => ?_)
        obtain rfl : i0 = 19 := by simpa using hi0
        refine stage_step (S := fun (L' : Array Bool) (w' : World) => (L'.getD 21 false = false → w'.cell? ⟨g, 0, none⟩ = some kv) ∧ (L'.getD 24 false = false → w'.cell? ⟨g, 2, none⟩ = some xv)) (o := { dst := some 101, op := Go.Op.nilCheck (Go.Operand.tmp 82), type := 0, pos := "btree.go:183", after := #[{ on := 0, ground := Go.Ground.data }, { on := 0, ground := Go.Ground.phase }, { on := 1, ground := Go.Ground.textOnly Go.Departure.lateStores }, { on := 2, ground := Go.Ground.phase }, { on := 3, ground := Go.Ground.phase }, { on := 4, ground := Go.Ground.phase }, { on := 5, ground := Go.Ground.phase }, { on := 6, ground := Go.Ground.phase }, { on := 7, ground := Go.Ground.phase }, { on := 8, ground := Go.Ground.phase }, { on := 9, ground := Go.Ground.phase }, { on := 10, ground := Go.Ground.textOnly Go.Departure.lateStores }, { on := 11, ground := Go.Ground.textOnly Go.Departure.lateStoresUnsure }, { on := 12, ground := Go.Ground.textOnly Go.Departure.lateStoresUnsure }, { on := 13, ground := Go.Ground.phase }, { on := 14, ground := Go.Ground.textOnly Go.Departure.lateStores }, { on := 15, ground := Go.Ground.textOnly Go.Departure.lateStores }, { on := 16, ground := Go.Ground.textOnly Go.Departure.lateStores }, { on := 17, ground := Go.Ground.textOnly Go.Departure.lateStoresUnsure }, { on := 18, ground := Go.Ground.phase }], guard := none }) (by rfl) (fun K2 hK => ?_)
        go_simp
        refine hK.out _ _ (⟨fun _ => hS0, fun _ => hS1⟩) ?_
        clear hK K2
        try simp only [Act.put, List.setIfInBounds_toArray, List.set_cons_zero, List.set_cons_succ]
        refine stage_all (rs := [20]) (by kernel_rfl) (by simp) (fun i0 hi0 => ?_)
        obtain rfl : i0 = 20 := by simpa using hi0
        refine stage_step (S := fun (L' : Array Bool) (w' : World) => (L'.getD 21 false = false → w'.cell? ⟨g, 0, none⟩ = some kv) ∧ (L'.getD 24 false = false → w'.cell? ⟨g, 2, none⟩ = some xv)) (o := { dst := some 102, op := Go.Op.fieldAddr 73 (Go.Operand.tmp 101) 0, type := 0, pos := "btree.go:183", after := #[{ on := 19, ground := Go.Ground.data }, { on := 0, ground := Go.Ground.phase }, { on := 1, ground := Go.Ground.textOnly Go.Departure.lateStores }, { on := 2, ground := Go.Ground.phase }, { on := 3, ground := Go.Ground.phase }, { on := 4, ground := Go.Ground.phase }, { on := 5, ground := Go.Ground.phase }, { on := 6, ground := Go.Ground.phase }, { on := 7, ground := Go.Ground.phase }, { on := 8, ground := Go.Ground.phase }, { on := 9, ground := Go.Ground.phase }, { on := 10, ground := Go.Ground.textOnly Go.Departure.lateStores }, { on := 11, ground := Go.Ground.textOnly Go.Departure.lateStoresUnsure }, { on := 12, ground := Go.Ground.textOnly Go.Departure.lateStoresUnsure }, { on := 13, ground := Go.Ground.phase }, { on := 14, ground := Go.Ground.textOnly Go.Departure.lateStores }, { on := 15, ground := Go.Ground.textOnly Go.Departure.lateStores }, { on := 16, ground := Go.Ground.textOnly Go.Departure.lateStores }, { on := 17, ground := Go.Ground.textOnly Go.Departure.lateStoresUnsure }, { on := 18, ground := Go.Ground.phase }], guard := none }) (by rfl) (fun K2 hK => ?_)
        go_simp
        refine hK.out _ _ (⟨fun _ => hS0, fun _ => hS1⟩) ?_
        clear hK K2
        try simp only [Act.put, List.setIfInBounds_toArray, List.set_cons_zero, List.set_cons_succ]
        have cHB0 := HB.out.c 0 _ rfl; have fHB0 := HB.out.f 0 (by simp); have cHB1 := HB.out.c 1 _ rfl; have fHB1 := HB.out.f 1 (by simp); have cHB2 := HB.out.c 2 _ rfl; have fHB2 := HB.out.f 2 (by simp); have lHB := HB.out.lt
        refine stage_all (rs := [21]) (by kernel_rfl) (by simp) (fun i0 hi0 => ?_)
        obtain rfl : i0 = 21 := by simpa using hi0
        refine stage_step (S := fun (L' : Array Bool) (w' : World) => (L'.getD 21 false = false → w'.cell? ⟨g, 0, none⟩ = some kv) ∧ (L'.getD 24 false = false → w'.cell? ⟨g, 2, none⟩ = some xv)) (o := { dst := none, op := Go.Op.store 57 (Go.Operand.tmp 102) (Go.Operand.tmp 91), type := 0, pos := "btree.go:183", after := #[{ on := 20, ground := Go.Ground.data }, { on := 9, ground := Go.Ground.data }, { on := 18, ground := Go.Ground.chain }, { on := 0, ground := Go.Ground.phase }, { on := 1, ground := Go.Ground.textOnly Go.Departure.lateStores }, { on := 2, ground := Go.Ground.phase }, { on := 3, ground := Go.Ground.phase }, { on := 4, ground := Go.Ground.phase }, { on := 5, ground := Go.Ground.phase }, { on := 6, ground := Go.Ground.phase }, { on := 7, ground := Go.Ground.phase }, { on := 8, ground := Go.Ground.phase }, { on := 9, ground := Go.Ground.phase }, { on := 10, ground := Go.Ground.textOnly Go.Departure.lateStores }, { on := 11, ground := Go.Ground.textOnly Go.Departure.lateStoresUnsure }, { on := 12, ground := Go.Ground.textOnly Go.Departure.lateStoresUnsure }, { on := 13, ground := Go.Ground.phase }, { on := 14, ground := Go.Ground.textOnly Go.Departure.lateStores }, { on := 15, ground := Go.Ground.textOnly Go.Departure.lateStores }, { on := 16, ground := Go.Ground.textOnly Go.Departure.lateStores }, { on := 17, ground := Go.Ground.textOnly Go.Departure.lateStoresUnsure }, { on := 18, ground := Go.Ground.phase }], guard := none }) (by rfl) (fun K2 hK => ?_)
        go_simp
        clear cHB0 fHB0 cHB1 fHB1 cHB2 fHB2 lHB
        have hB9 := HB.out.set 0 (.slice B1 (ks.length + 1) d1) (by simp)
        have HBn : Hid (Box (wd4.setCell ⟨g, 0, none⟩ (.slice B1 (ks.length + 1) d1)) g [.slice B1 (ks.length + 1) d1, yv, xv]) := Lib.hid hB9
        have hset : Kept wd4.heap.size (fun k => k = g) wd4 (wd4.setCell ⟨g, 0, none⟩ (.slice B1 (ks.length + 1) d1)) := (Kept.refl _ _ _).set _ _ (.inr rfl)
        clear HB hB9
        have HB := HBn
        clear HBn
        replace HV1 := Lib.hid (own_kept hset HV1.out (fun k hk h => A1G.out (hk ▸ h)))
        replace HV2 := Lib.hid (own_kept hset HV2.out (fun k hk h => A2G.out (hk ▸ h)))
        replace HY := Lib.hid (ownP_kept hset HY.out (fun k hk h => AYG.out (hk ▸ h)))
        replace HR := Lib.hid (HR.out.kept hset (fun k hk h => (HKR.out k h.1).1 hk))
        replace HKP := Lib.hid (HKP.out.set ⟨g, 0, none⟩ (.slice B1 (ks.length + 1) d1) (.inr HPG.out))
        clear hset hS0 hS1
        generalize (wd4.setCell ⟨g, 0, none⟩ (.slice B1 (ks.length + 1) d1)) = ws0 at *
        have hS1 : ws0.cell? ⟨g, 2, none⟩ = some xv := HB.out.c 2 _ rfl
        refine hK.out _ _ (⟨fun h => by simp at h, fun _ => hS1⟩) ?_
        clear hK K2
        try simp only [Act.put, List.setIfInBounds_toArray, List.set_cons_zero, List.set_cons_succ]
        refine stage_all (rs := [22]) (by kernel_rfl) (by simp) (fun i0 hi0 => ?_)
        obtain rfl : i0 = 22 := by simpa using hi0
        refine stage_step (S := fun (L' : Array Bool) (w' : World) => (L'.getD 21 false = false → w'.cell? ⟨g, 0, none⟩ = some kv) ∧ (L'.getD 24 false = false → w'.cell? ⟨g, 2, none⟩ = some xv)) (o := { dst := some 103, op := Go.Op.nilCheck (Go.Operand.tmp 83), type := 0, pos := "btree.go:183", after := #[{ on := 1, ground := Go.Ground.data }, { on := 0, ground := Go.Ground.phase }, { on := 1, ground := Go.Ground.phase }, { on := 2, ground := Go.Ground.phase }, { on := 3, ground := Go.Ground.phase }, { on := 4, ground := Go.Ground.phase }, { on := 5, ground := Go.Ground.phase }, { on := 6, ground := Go.Ground.phase }, { on := 7, ground := Go.Ground.phase }, { on := 8, ground := Go.Ground.phase }, { on := 9, ground := Go.Ground.phase }, { on := 10, ground := Go.Ground.phase }, { on := 11, ground := Go.Ground.phase }, { on := 12, ground := Go.Ground.phase }, { on := 13, ground := Go.Ground.phase }, { on := 14, ground := Go.Ground.phase }, { on := 15, ground := Go.Ground.phase }, { on := 16, ground := Go.Ground.phase }, { on := 17, ground := Go.Ground.phase }, { on := 18, ground := Go.Ground.phase }, { on := 19, ground := Go.Ground.phase }, { on := 20, ground := Go.Ground.phase }, { on := 21, ground := Go.Ground.phase }], guard := none }) (by rfl) (fun K2 hK => ?_)
        go_simp
        refine hK.out _ _ (⟨fun h => by simp at h, fun _ => hS1⟩) ?_
        clear hK K2
        try simp only [Act.put, List.setIfInBounds_toArray, List.set_cons_zero, List.set_cons_succ]
        refine stage_all (rs := [23]) (by kernel_rfl) (by simp) (fun i0 hi0 => ?_)
        obtain rfl : i0 = 23 := by simpa using hi0
        refine stage_step (S := fun (L' : Array Bool) (w' : World) => (L'.getD 21 false = false → w'.cell? ⟨g, 0, none⟩ = some kv) ∧ (L'.getD 24 false = false → w'.cell? ⟨g, 2, none⟩ = some xv)) (o := { dst := some 104, op := Go.Op.fieldAddr 73 (Go.Operand.tmp 103) 2, type := 0, pos := "btree.go:183", after := #[{ on := 22, ground := Go.Ground.data }, { on := 0, ground := Go.Ground.phase }, { on := 1, ground := Go.Ground.phase }, { on := 2, ground := Go.Ground.phase }, { on := 3, ground := Go.Ground.phase }, { on := 4, ground := Go.Ground.phase }, { on := 5, ground := Go.Ground.phase }, { on := 6, ground := Go.Ground.phase }, { on := 7, ground := Go.Ground.phase }, { on := 8, ground := Go.Ground.phase }, { on := 9, ground := Go.Ground.phase }, { on := 10, ground := Go.Ground.phase }, { on := 11, ground := Go.Ground.phase }, { on := 12, ground := Go.Ground.phase }, { on := 13, ground := Go.Ground.phase }, { on := 14, ground := Go.Ground.phase }, { on := 15, ground := Go.Ground.phase }, { on := 16, ground := Go.Ground.phase }, { on := 17, ground := Go.Ground.phase }, { on := 18, ground := Go.Ground.phase }, { on := 19, ground := Go.Ground.phase }, { on := 20, ground := Go.Ground.phase }, { on := 21, ground := Go.Ground.phase }], guard := none }) (by rfl) (fun K2 hK => ?_)
        go_simp
        refine hK.out _ _ (⟨fun h => by simp at h, fun _ => hS1⟩) ?_
        clear hK K2
        try simp only [Act.put, List.setIfInBounds_toArray, List.set_cons_zero, List.set_cons_succ]
        have cHB0 := HB.out.c 0 _ rfl; have fHB0 := HB.out.f 0 (by simp); have cHB1 := HB.out.c 1 _ rfl; have fHB1 := HB.out.f 1 (by simp); have cHB2 := HB.out.c 2 _ rfl; have fHB2 := HB.out.f 2 (by simp); have lHB := HB.out.lt
        refine stage_all (rs := [24]) (by kernel_rfl) (by simp) (fun i0 hi0 => ?_)
        obtain rfl : i0 = 24 := by simpa using hi0
        refine stage_step (S := fun (L' : Array Bool) (w' : World) => (L'.getD 21 false = false → w'.cell? ⟨g, 0, none⟩ = some kv) ∧ (L'.getD 24 false = false → w'.cell? ⟨g, 2, none⟩ = some xv)) (o := { dst := none, op := Go.Op.store 71 (Go.Operand.tmp 104) (Go.Operand.tmp 100), type := 0, pos := "btree.go:183", after := #[{ on := 23, ground := Go.Ground.data }, { on := 18, ground := Go.Ground.data }, { on := 21, ground := Go.Ground.chain }, { on := 0, ground := Go.Ground.phase }, { on := 1, ground := Go.Ground.phase }, { on := 2, ground := Go.Ground.phase }, { on := 3, ground := Go.Ground.phase }, { on := 4, ground := Go.Ground.phase }, { on := 5, ground := Go.Ground.phase }, { on := 6, ground := Go.Ground.phase }, { on := 7, ground := Go.Ground.phase }, { on := 8, ground := Go.Ground.phase }, { on := 9, ground := Go.Ground.phase }, { on := 10, ground := Go.Ground.phase }, { on := 11, ground := Go.Ground.phase }, { on := 12, ground := Go.Ground.phase }, { on := 13, ground := Go.Ground.phase }, { on := 14, ground := Go.Ground.phase }, { on := 15, ground := Go.Ground.phase }, { on := 16, ground := Go.Ground.phase }, { on := 17, ground := Go.Ground.phase }, { on := 18, ground := Go.Ground.phase }, { on := 19, ground := Go.Ground.phase }, { on := 20, ground := Go.Ground.phase }, { on := 21, ground := Go.Ground.phase }], guard := none }) (by rfl) (fun K2 hK => ?_)
        go_simp
        clear cHB0 fHB0 cHB1 fHB1 cHB2 fHB2 lHB
        have hB9 := HB.out.set 2 (.slice B2 (ps.length + 1) d2) (by simp)
        have HBn : Hid (Box (ws0.setCell ⟨g, 2, none⟩ (.slice B2 (ps.length + 1) d2)) g [.slice B1 (ks.length + 1) d1, yv, .slice B2 (ps.length + 1) d2]) := Lib.hid hB9
        have hset : Kept ws0.heap.size (fun k => k = g) ws0 (ws0.setCell ⟨g, 2, none⟩ (.slice B2 (ps.length + 1) d2)) := (Kept.refl _ _ _).set _ _ (.inr rfl)
        clear HB hB9
        have HB := HBn
        clear HBn
        replace HV1 := Lib.hid (own_kept hset HV1.out (fun k hk h => A1G.out (hk ▸ h)))
        replace HV2 := Lib.hid (own_kept hset HV2.out (fun k hk h => A2G.out (hk ▸ h)))
        replace HY := Lib.hid (ownP_kept hset HY.out (fun k hk h => AYG.out (hk ▸ h)))
        replace HR := Lib.hid (HR.out.kept hset (fun k hk h => (HKR.out k h.1).1 hk))
        replace HKP := Lib.hid (HKP.out.set ⟨g, 2, none⟩ (.slice B2 (ps.length + 1) d2) (.inr HPG.out))
        clear hset hS1
        generalize (ws0.setCell ⟨g, 2, none⟩ (.slice B2 (ps.length + 1) d2)) = ws1 at *
        refine hK.out _ _ (⟨fun h => by simp at h, fun h => by simp at h⟩) ?_
        clear hK K2
        try simp only [Act.put, List.setIfInBounds_toArray, List.set_cons_zero, List.set_cons_succ]
        refine stage_done (by kernel_rfl) ?_ _
        obtain ⟨u1, u2, u3⟩ := top_of hgl hwN hn1 hn2 HPK.out HPX.out HKR.out
        go_wp2_with fail
        go_end0
        refine ⟨rfl, ⟨_, _, _, putV ps (i + 1) g2, HB.out, ⟨by rw [putV_len _ _ _ (by omega)]; exact HV1.out, u1⟩, ⟨HY.out.1, fun b hb => .inl (HY.out.2 b hb)⟩, ⟨by rw [putV_len _ _ _ (by rw [List.length_set, HLT.out]; omega), List.length_set, ← HPL.out]; exact HV2.out, u2⟩, .inl HPG.out, ⟨A1G.out, AYG.out, A1Y.out, A2G.out, fun b hb => ⟨fun h => A12.out b h hb, fun h => A2Y.out b hb h⟩⟩, ?_⟩, HKP.out⟩
        exact (rds_last HR.out (by rw [List.length_set, HLT.out]; omega) (by simp [HPL.out])).mono (fun b _ h => by
          obtain ⟨q1, q2, q3, q4, q5⟩ := u3 b h
          exact ⟨q1, q2, q3, q5, q4⟩)
      · refine stage_step (S := fun (L' : Array Bool) (w' : World) => (L'.getD 21 false = false → w'.cell? ⟨g, 0, none⟩ = some kv) ∧ (L'.getD 24 false = false → w'.cell? ⟨g, 2, none⟩ = some xv)) (o := { dst := some 99, op := Go.Op.buildSlice 71 1 #[(0, Go.Operand.tmp 98)], type := 71, pos := "btree.go:183", after := #[{ on := 16, ground := Go.Ground.data }], guard := none }) (by rfl) (fun K2 hK => ?_)
        clear hS0 hS1
        go_simp
        have hal : Below wd1.heap.size wd1 (wd1.alloc (.cells #[.pointer (some ⟨g2, 0, none⟩)] 67)) := (Below.refl _ _).alloc (Nat.le_refl _) _
        replace HB := Lib.hid (HB.out.alloc (.cells #[.pointer (some ⟨g2, 0, none⟩)] 67))
        replace HY := Lib.hid (HY.out.below hal)
        replace HR := Lib.hid (HR.out.below hal)
        replace HX1 := Lib.hid (own_below HX1.out hal)
        replace HK1 := Lib.hid (own_below HK1.out hal)
        replace HQ1 := Lib.hid ((hal.block _ hq1.2).trans HQ1.out)
        replace HKP := Lib.hid (HKP.out.trans (Kept.of_below hal HKP.out.size))
        have HQ2 : Hid ((wd1.alloc (.cells #[.pointer (some ⟨g2, 0, none⟩)] 67)).heap[wd1.heap.size]? = some (.cells #[.pointer (some ⟨g2, 0, none⟩)] 67 (0, 0))) := Lib.hid (heap_alloc_new wd1 _)
        replace hq1 := And.intro hq1.1 (Nat.lt_of_lt_of_le hq1.2 hal.size)
        have hq2 : N0 ≤ wd1.heap.size ∧ wd1.heap.size < (wd1.alloc (.cells #[.pointer (some ⟨g2, 0, none⟩)] 67)).heap.size := ⟨hsz, by simp⟩
        replace hsz := Nat.le_trans hsz hal.size
        clear hal
        generalize wd1.alloc (.cells #[.pointer (some ⟨g2, 0, none⟩)] 67) = wd2 at *
        generalize wd1.heap.size = q2 at *
        have hS0 : wd2.cell? ⟨g, 0, none⟩ = some kv := HB.out.c 0 _ rfl
        have hS1 : wd2.cell? ⟨g, 2, none⟩ = some xv := HB.out.c 2 _ rfl
        refine hK.out _ _ (⟨fun _ => hS0, fun _ => hS1⟩) ?_
        clear hK K2
        try simp only [Act.put, List.setIfInBounds_toArray, List.set_cons_zero, List.set_cons_succ]
        refine stage_all (rs := [9]) (by kernel_rfl) (by simp) (fun i0 hi0 => ?_)
        obtain rfl : i0 = 9 := by simpa using hi0
        refine stage_step (S := fun (L' : Array Bool) (w' : World) => (L'.getD 21 false = false → w'.cell? ⟨g, 0, none⟩ = some kv) ∧ (L'.getD 24 false = false → w'.cell? ⟨g, 2, none⟩ = some xv)) (o := { dst := some 91, op := Go.Op.call { callee := Go.Callee.value (Go.Operand.func 47), args := #[Go.Operand.tmp 87, Go.Operand.tmp 88, Go.Operand.tmp 90], argTypes := #[57, 3, 57] }, type := 57, pos := "btree.go:183", after := #[{ on := 5, ground := Go.Ground.data }, { on := 6, ground := Go.Ground.data }, { on := 8, ground := Go.Ground.data }], guard := none }) (by rfl) (fun K2 hK => ?_)
        clear hS0 hS1
        go_simp
        go_wp2_with fail
        with_reducible refine (insK q1 i kv ks up wd2 (by omega) (by omega) HK1.out HQ1.out (fun e => by have := hkl _ e; omega)).mono ?_
        rintro e wd3 ⟨v1, rfl, hown, hins⟩
        have hkg : Kept wd2.heap.size (fun k => kv.ownBlock = some k) wd2 wd3 := (Kept.refl _ _ _).grown hins.1 (Nat.le_refl _) (fun k hk => .inr hk)
        replace HB := Lib.hid (HB.out.kept hkg HB.out.lt AKG.out)
        replace HY := Lib.hid (ownP_kept hkg HY.out (fun k hk h => AKY.out k hk h))
        replace HR := Lib.hid (HR.out.kept hkg (fun k hk h => (HKR.out k h.1).2.1 hk))
        replace HX1 := Lib.hid (own_kept hkg HX1.out (fun k hk h => AKX.out k hk h))
        replace HQ2 := Lib.hid ((hkg.block _ hq2.2 (fun e => by have := hkl _ e; omega)).trans HQ2.out)
        replace HKP := Lib.hid (HKP.out.trans (kept_less hkg HKP.out.size (fun k _ hk => HPK.out k hk)))
        have HV1 := Lib.hid hown
        have hn1 : v1.ownBlock = kv.ownBlock ∨ (v1.ownBlock = some wd2.heap.size ∧ N0 ≤ wd2.heap.size) := hins.2.imp id (fun h => ⟨h, hsz⟩)
        have hl1 : ∀ b, v1.ownBlock = some b → b < wd3.heap.size := fun b hb => (hown.lt b hb).2
        have A1X := Lib.hid (apn hn1 AKX.out hxl)
        have A1Y := Lib.hid (apn hn1 AKY.out hyl)
        have A1G := Lib.hid (apg hn1 AKG.out hgl)
        replace hq2 := And.intro hq2.1 (Nat.lt_of_lt_of_le hq2.2 hkg.size)
        replace hsz := Nat.le_trans hsz hkg.size
        clear hkg hins hown HK1 HQ1 hq1
        have hS0 : wd3.cell? ⟨g, 0, none⟩ = some kv := HB.out.c 0 _ rfl
        have hS1 : wd3.cell? ⟨g, 2, none⟩ = some xv := HB.out.c 2 _ rfl
        refine hK.out _ _ (⟨fun _ => hS0, fun _ => hS1⟩) ?_
        clear hK K2
        try simp only [Act.put, List.setIfInBounds_toArray, List.set_cons_zero, List.set_cons_succ]
        refine stage_all (rs := [18]) (by kernel_rfl) (by simp) (fun i0 hi0 => ?_)
        obtain rfl : i0 = 18 := by simpa using hi0
        refine stage_step (S := fun (L' : Array Bool) (w' : World) => (L'.getD 21 false = false → w'.cell? ⟨g, 0, none⟩ = some kv) ∧ (L'.getD 24 false = false → w'.cell? ⟨g, 2, none⟩ = some xv)) (o := { dst := some 100, op := Go.Op.call { callee := Go.Callee.value (Go.Operand.func 48), args := #[Go.Operand.tmp 95, Go.Operand.tmp 97, Go.Operand.tmp 99], argTypes := #[71, 3, 71] }, type := 71, pos := "btree.go:183", after := #[{ on := 13, ground := Go.Ground.data }, { on := 15, ground := Go.Ground.data }, { on := 17, ground := Go.Ground.data }, { on := 9, ground := Go.Ground.chain }], guard := none }) (by rfl) (fun K2 hK => ?_)
        clear hS0 hS1
        go_simp
        go_wp2_with fail
        with_reducible refine (insGi (IntKind.i64.wrap ((i : Int) + 1)) q2 (i + 1) xv ps g2 wd3 HCAST.out (by have := HPL.out; have := HLT.out; omega) (by have := HPL.out; have := HLT.out; omega) HX1.out HQ2.out (fun e => by have := hxl _ e; omega)).mono ?_
        rintro e wd4 ⟨v2, rfl, hown, hins⟩
        have hkg : Kept wd3.heap.size (fun k => xv.ownBlock = some k) wd3 wd4 := (Kept.refl _ _ _).grown hins.1 (Nat.le_refl _) (fun k hk => .inr hk)
        replace HB := Lib.hid (HB.out.kept hkg HB.out.lt AXG.out)
        replace HY := Lib.hid (ownP_kept hkg HY.out (fun k hk h => AXY.out k hk h))
        replace HR := Lib.hid (HR.out.kept hkg (fun k hk h => (HKR.out k h.1).2.2.1 hk))
        replace HV1 := Lib.hid (own_kept hkg HV1.out (fun k hk h => A1X.out k h hk))
        replace HKP := Lib.hid (HKP.out.trans (kept_less hkg HKP.out.size (fun k _ hk => HPX.out k hk)))
        have HV2 := Lib.hid hown
        have hn2 : v2.ownBlock = xv.ownBlock ∨ (v2.ownBlock = some wd3.heap.size ∧ N0 ≤ wd3.heap.size) := hins.2.imp id (fun h => ⟨h, hsz⟩)
        have A12 := Lib.hid (apm hn2 A1X.out hl1)
        have A2Y := Lib.hid (apn hn2 AXY.out hyl)
        have A2G := Lib.hid (apg hn2 AXG.out hgl)
        replace hsz := Nat.le_trans hsz hkg.size
        clear hkg hins hown HX1 HQ2 hq2 hl1
        have hS0 : wd4.cell? ⟨g, 0, none⟩ = some kv := HB.out.c 0 _ rfl
        have hS1 : wd4.cell? ⟨g, 2, none⟩ = some xv := HB.out.c 2 _ rfl
        refine hK.out _ _ (⟨fun _ => hS0, fun _ => hS1⟩) ?_
        clear hK K2
        try simp only [Act.put, List.setIfInBounds_toArray, List.set_cons_zero, List.set_cons_succ]
        obtain ⟨B1, d1, rfl, _, _⟩ := own_slice HV1.out
        obtain ⟨B2, d2, rfl, _, _⟩ := own_slice HV2.out
        refine stage_all (rs := [19]) (by kernel_rfl) (by simp) (fun i0 hi0 => ?_)
        obtain rfl : i0 = 19 := by simpa using hi0
        refine stage_step (S := fun (L' : Array Bool) (w' : World) => (L'.getD 21 false = false → w'.cell? ⟨g, 0, none⟩ = some kv) ∧ (L'.getD 24 false = false → w'.cell? ⟨g, 2, none⟩ = some xv)) (o := { dst := some 101, op := Go.Op.nilCheck (Go.Operand.tmp 82), type := 0, pos := "btree.go:183", after := #[{ on := 0, ground := Go.Ground.data }, { on := 0, ground := Go.Ground.phase }, { on := 1, ground := Go.Ground.textOnly Go.Departure.lateStores }, { on := 2, ground := Go.Ground.phase }, { on := 3, ground := Go.Ground.phase }, { on := 4, ground := Go.Ground.phase }, { on := 5, ground := Go.Ground.phase }, { on := 6, ground := Go.Ground.phase }, { on := 7, ground := Go.Ground.phase }, { on := 8, ground := Go.Ground.phase }, { on := 9, ground := Go.Ground.phase }, { on := 10, ground := Go.Ground.textOnly Go.Departure.lateStores }, { on := 11, ground := Go.Ground.textOnly Go.Departure.lateStoresUnsure }, { on := 12, ground := Go.Ground.textOnly Go.Departure.lateStoresUnsure }, { on := 13, ground := Go.Ground.phase }, { on := 14, ground := Go.Ground.textOnly Go.Departure.lateStores }, { on := 15, ground := Go.Ground.textOnly Go.Departure.lateStores }, { on := 16, ground := Go.Ground.textOnly Go.Departure.lateStores }, { on := 17, ground := Go.Ground.textOnly Go.Departure.lateStoresUnsure }, { on := 18, ground := Go.Ground.phase }], guard := none }) (by rfl) (fun K2 hK => ?_)
        go_simp
        refine hK.out _ _ (⟨fun _ => hS0, fun _ => hS1⟩) ?_
        clear hK K2
        try simp only [Act.put, List.setIfInBounds_toArray, List.set_cons_zero, List.set_cons_succ]
        refine stage_all (rs := [20]) (by kernel_rfl) (by simp) (fun i0 hi0 => ?_)
        obtain rfl : i0 = 20 := by simpa using hi0
        refine stage_step (S := fun (L' : Array Bool) (w' : World) => (L'.getD 21 false = false → w'.cell? ⟨g, 0, none⟩ = some kv) ∧ (L'.getD 24 false = false → w'.cell? ⟨g, 2, none⟩ = some xv)) (o := { dst := some 102, op := Go.Op.fieldAddr 73 (Go.Operand.tmp 101) 0, type := 0, pos := "btree.go:183", after := #[{ on := 19, ground := Go.Ground.data }, { on := 0, ground := Go.Ground.phase }, { on := 1, ground := Go.Ground.textOnly Go.Departure.lateStores }, { on := 2, ground := Go.Ground.phase }, { on := 3, ground := Go.Ground.phase }, { on := 4, ground := Go.Ground.phase }, { on := 5, ground := Go.Ground.phase }, { on := 6, ground := Go.Ground.phase }, { on := 7, ground := Go.Ground.phase }, { on := 8, ground := Go.Ground.phase }, { on := 9, ground := Go.Ground.phase }, { on := 10, ground := Go.Ground.textOnly Go.Departure.lateStores }, { on := 11, ground := Go.Ground.textOnly Go.Departure.lateStoresUnsure }, { on := 12, ground := Go.Ground.textOnly Go.Departure.lateStoresUnsure }, { on := 13, ground := Go.Ground.phase }, { on := 14, ground := Go.Ground.textOnly Go.Departure.lateStores }, { on := 15, ground := Go.Ground.textOnly Go.Departure.lateStores }, { on := 16, ground := Go.Ground.textOnly Go.Departure.lateStores }, { on := 17, ground := Go.Ground.textOnly Go.Departure.lateStoresUnsure }, { on := 18, ground := Go.Ground.phase }], guard := none }) (by rfl) (fun K2 hK => ?_)
        go_simp
        refine hK.out _ _ (⟨fun _ => hS0, fun _ => hS1⟩) ?_
        clear hK K2
        try simp only [Act.put, List.setIfInBounds_toArray, List.set_cons_zero, List.set_cons_succ]
        have cHB0 := HB.out.c 0 _ rfl; have fHB0 := HB.out.f 0 (by simp); have cHB1 := HB.out.c 1 _ rfl; have fHB1 := HB.out.f 1 (by simp); have cHB2 := HB.out.c 2 _ rfl; have fHB2 := HB.out.f 2 (by simp); have lHB := HB.out.lt
        refine stage_all (rs := [21]) (by kernel_rfl) (by simp) (fun i0 hi0 => ?_)
        obtain rfl : i0 = 21 := by simpa using hi0
        refine stage_step (S := fun (L' : Array Bool) (w' : World) => (L'.getD 21 false = false → w'.cell? ⟨g, 0, none⟩ = some kv) ∧ (L'.getD 24 false = false → w'.cell? ⟨g, 2, none⟩ = some xv)) (o := { dst := none, op := Go.Op.store 57 (Go.Operand.tmp 102) (Go.Operand.tmp 91), type := 0, pos := "btree.go:183", after := #[{ on := 20, ground := Go.Ground.data }, { on := 9, ground := Go.Ground.data }, { on := 18, ground := Go.Ground.chain }, { on := 0, ground := Go.Ground.phase }, { on := 1, ground := Go.Ground.textOnly Go.Departure.lateStores }, { on := 2, ground := Go.Ground.phase }, { on := 3, ground := Go.Ground.phase }, { on := 4, ground := Go.Ground.phase }, { on := 5, ground := Go.Ground.phase }, { on := 6, ground := Go.Ground.phase }, { on := 7, ground := Go.Ground.phase }, { on := 8, ground := Go.Ground.phase }, { on := 9, ground := Go.Ground.phase }, { on := 10, ground := Go.Ground.textOnly Go.Departure.lateStores }, { on := 11, ground := Go.Ground.textOnly Go.Departure.lateStoresUnsure }, { on := 12, ground := Go.Ground.textOnly Go.Departure.lateStoresUnsure }, { on := 13, ground := Go.Ground.phase }, { on := 14, ground := Go.Ground.textOnly Go.Departure.lateStores }, { on := 15, ground := Go.Ground.textOnly Go.Departure.lateStores }, { on := 16, ground := Go.Ground.textOnly Go.Departure.lateStores }, { on := 17, ground := Go.Ground.textOnly Go.Departure.lateStoresUnsure }, { on := 18, ground := Go.Ground.phase }], guard := none }) (by rfl) (fun K2 hK => ?_)
        go_simp
        clear cHB0 fHB0 cHB1 fHB1 cHB2 fHB2 lHB
        have hB9 := HB.out.set 0 (.slice B1 (ks.length + 1) d1) (by simp)
        have HBn : Hid (Box (wd4.setCell ⟨g, 0, none⟩ (.slice B1 (ks.length + 1) d1)) g [.slice B1 (ks.length + 1) d1, yv, xv]) := Lib.hid hB9
        have hset : Kept wd4.heap.size (fun k => k = g) wd4 (wd4.setCell ⟨g, 0, none⟩ (.slice B1 (ks.length + 1) d1)) := (Kept.refl _ _ _).set _ _ (.inr rfl)
        clear HB hB9
        have HB := HBn
        clear HBn
        replace HV1 := Lib.hid (own_kept hset HV1.out (fun k hk h => A1G.out (hk ▸ h)))
        replace HV2 := Lib.hid (own_kept hset HV2.out (fun k hk h => A2G.out (hk ▸ h)))
        replace HY := Lib.hid (ownP_kept hset HY.out (fun k hk h => AYG.out (hk ▸ h)))
        replace HR := Lib.hid (HR.out.kept hset (fun k hk h => (HKR.out k h.1).1 hk))
        replace HKP := Lib.hid (HKP.out.set ⟨g, 0, none⟩ (.slice B1 (ks.length + 1) d1) (.inr HPG.out))
        clear hset hS0 hS1
        generalize (wd4.setCell ⟨g, 0, none⟩ (.slice B1 (ks.length + 1) d1)) = ws0 at *
        have hS1 : ws0.cell? ⟨g, 2, none⟩ = some xv := HB.out.c 2 _ rfl
        refine hK.out _ _ (⟨fun h => by simp at h, fun _ => hS1⟩) ?_
        clear hK K2
        try simp only [Act.put, List.setIfInBounds_toArray, List.set_cons_zero, List.set_cons_succ]
        refine stage_all (rs := [22]) (by kernel_rfl) (by simp) (fun i0 hi0 => ?_)
        obtain rfl : i0 = 22 := by simpa using hi0
        refine stage_step (S := fun (L' : Array Bool) (w' : World) => (L'.getD 21 false = false → w'.cell? ⟨g, 0, none⟩ = some kv) ∧ (L'.getD 24 false = false → w'.cell? ⟨g, 2, none⟩ = some xv)) (o := { dst := some 103, op := Go.Op.nilCheck (Go.Operand.tmp 83), type := 0, pos := "btree.go:183", after := #[{ on := 1, ground := Go.Ground.data }, { on := 0, ground := Go.Ground.phase }, { on := 1, ground := Go.Ground.phase }, { on := 2, ground := Go.Ground.phase }, { on := 3, ground := Go.Ground.phase }, { on := 4, ground := Go.Ground.phase }, { on := 5, ground := Go.Ground.phase }, { on := 6, ground := Go.Ground.phase }, { on := 7, ground := Go.Ground.phase }, { on := 8, ground := Go.Ground.phase }, { on := 9, ground := Go.Ground.phase }, { on := 10, ground := Go.Ground.phase }, { on := 11, ground := Go.Ground.phase }, { on := 12, ground := Go.Ground.phase }, { on := 13, ground := Go.Ground.phase }, { on := 14, ground := Go.Ground.phase }, { on := 15, ground := Go.Ground.phase }, { on := 16, ground := Go.Ground.phase }, { on := 17, ground := Go.Ground.phase }, { on := 18, ground := Go.Ground.phase }, { on := 19, ground := Go.Ground.phase }, { on := 20, ground := Go.Ground.phase }, { on := 21, ground := Go.Ground.phase }], guard := none }) (by rfl) (fun K2 hK => ?_)
        go_simp
        refine hK.out _ _ (⟨fun h => by simp at h, fun _ => hS1⟩) ?_
        clear hK K2
        try simp only [Act.put, List.setIfInBounds_toArray, List.set_cons_zero, List.set_cons_succ]
        refine stage_all (rs := [23]) (by kernel_rfl) (by simp) (fun i0 hi0 => ?_)
        obtain rfl : i0 = 23 := by simpa using hi0
        refine stage_step (S := fun (L' : Array Bool) (w' : World) => (L'.getD 21 false = false → w'.cell? ⟨g, 0, none⟩ = some kv) ∧ (L'.getD 24 false = false → w'.cell? ⟨g, 2, none⟩ = some xv)) (o := { dst := some 104, op := Go.Op.fieldAddr 73 (Go.Operand.tmp 103) 2, type := 0, pos := "btree.go:183", after := #[{ on := 22, ground := Go.Ground.data }, { on := 0, ground := Go.Ground.phase }, { on := 1, ground := Go.Ground.phase }, { on := 2, ground := Go.Ground.phase }, { on := 3, ground := Go.Ground.phase }, { on := 4, ground := Go.Ground.phase }, { on := 5, ground := Go.Ground.phase }, { on := 6, ground := Go.Ground.phase }, { on := 7, ground := Go.Ground.phase }, { on := 8, ground := Go.Ground.phase }, { on := 9, ground := Go.Ground.phase }, { on := 10, ground := Go.Ground.phase }, { on := 11, ground := Go.Ground.phase }, { on := 12, ground := Go.Ground.phase }, { on := 13, ground := Go.Ground.phase }, { on := 14, ground := Go.Ground.phase }, { on := 15, ground := Go.Ground.phase }, { on := 16, ground := Go.Ground.phase }, { on := 17, ground := Go.Ground.phase }, { on := 18, ground := Go.Ground.phase }, { on := 19, ground := Go.Ground.phase }, { on := 20, ground := Go.Ground.phase }, { on := 21, ground := Go.Ground.phase }], guard := none }) (by rfl) (fun K2 hK => ?_)
        go_simp
        refine hK.out _ _ (⟨fun h => by simp at h, fun _ => hS1⟩) ?_
        clear hK K2
        try simp only [Act.put, List.setIfInBounds_toArray, List.set_cons_zero, List.set_cons_succ]
        have cHB0 := HB.out.c 0 _ rfl; have fHB0 := HB.out.f 0 (by simp); have cHB1 := HB.out.c 1 _ rfl; have fHB1 := HB.out.f 1 (by simp); have cHB2 := HB.out.c 2 _ rfl; have fHB2 := HB.out.f 2 (by simp); have lHB := HB.out.lt
        refine stage_all (rs := [24]) (by kernel_rfl) (by simp) (fun i0 hi0 => ?_)
        obtain rfl : i0 = 24 := by simpa using hi0
        refine stage_step (S := fun (L' : Array Bool) (w' : World) => (L'.getD 21 false = false → w'.cell? ⟨g, 0, none⟩ = some kv) ∧ (L'.getD 24 false = false → w'.cell? ⟨g, 2, none⟩ = some xv)) (o := { dst := none, op := Go.Op.store 71 (Go.Operand.tmp 104) (Go.Operand.tmp 100), type := 0, pos := "btree.go:183", after := #[{ on := 23, ground := Go.Ground.data }, { on := 18, ground := Go.Ground.data }, { on := 21, ground := Go.Ground.chain }, { on := 0, ground := Go.Ground.phase }, { on := 1, ground := Go.Ground.phase }, { on := 2, ground := Go.Ground.phase }, { on := 3, ground := Go.Ground.phase }, { on := 4, ground := Go.Ground.phase }, { on := 5, ground := Go.Ground.phase }, { on := 6, ground := Go.Ground.phase }, { on := 7, ground := Go.Ground.phase }, { on := 8, ground := Go.Ground.phase }, { on := 9, ground := Go.Ground.phase }, { on := 10, ground := Go.Ground.phase }, { on := 11, ground := Go.Ground.phase }, { on := 12, ground := Go.Ground.phase }, { on := 13, ground := Go.Ground.phase }, { on := 14, ground := Go.Ground.phase }, { on := 15, ground := Go.Ground.phase }, { on := 16, ground := Go.Ground.phase }, { on := 17, ground := Go.Ground.phase }, { on := 18, ground := Go.Ground.phase }, { on := 19, ground := Go.Ground.phase }, { on := 20, ground := Go.Ground.phase }, { on := 21, ground := Go.Ground.phase }], guard := none }) (by rfl) (fun K2 hK => ?_)
        go_simp
        clear cHB0 fHB0 cHB1 fHB1 cHB2 fHB2 lHB
        have hB9 := HB.out.set 2 (.slice B2 (ps.length + 1) d2) (by simp)
        have HBn : Hid (Box (ws0.setCell ⟨g, 2, none⟩ (.slice B2 (ps.length + 1) d2)) g [.slice B1 (ks.length + 1) d1, yv, .slice B2 (ps.length + 1) d2]) := Lib.hid hB9
        have hset : Kept ws0.heap.size (fun k => k = g) ws0 (ws0.setCell ⟨g, 2, none⟩ (.slice B2 (ps.length + 1) d2)) := (Kept.refl _ _ _).set _ _ (.inr rfl)
        clear HB hB9
        have HB := HBn
        clear HBn
        replace HV1 := Lib.hid (own_kept hset HV1.out (fun k hk h => A1G.out (hk ▸ h)))
        replace HV2 := Lib.hid (own_kept hset HV2.out (fun k hk h => A2G.out (hk ▸ h)))
        replace HY := Lib.hid (ownP_kept hset HY.out (fun k hk h => AYG.out (hk ▸ h)))
        replace HR := Lib.hid (HR.out.kept hset (fun k hk h => (HKR.out k h.1).1 hk))
        replace HKP := Lib.hid (HKP.out.set ⟨g, 2, none⟩ (.slice B2 (ps.length + 1) d2) (.inr HPG.out))
        clear hset hS1
        generalize (ws0.setCell ⟨g, 2, none⟩ (.slice B2 (ps.length + 1) d2)) = ws1 at *
        refine hK.out _ _ (⟨fun h => by simp at h, fun h => by simp at h⟩) ?_
        clear hK K2
        try simp only [Act.put, List.setIfInBounds_toArray, List.set_cons_zero, List.set_cons_succ]
        refine stage_done (by kernel_rfl) ?_ _
        obtain ⟨u1, u2, u3⟩ := top_of hgl hwN hn1 hn2 HPK.out HPX.out HKR.out
        go_wp2_with fail
        go_end0
        refine ⟨rfl, ⟨_, _, _, putV ps (i + 1) g2, HB.out, ⟨by rw [putV_len _ _ _ (by omega)]; exact HV1.out, u1⟩, ⟨HY.out.1, fun b hb => .inl (HY.out.2 b hb)⟩, ⟨by rw [putV_len _ _ _ (by rw [List.length_set, HLT.out]; omega), List.length_set, ← HPL.out]; exact HV2.out, u2⟩, .inl HPG.out, ⟨A1G.out, AYG.out, A1Y.out, A2G.out, fun b hb => ⟨fun h => A12.out b h hb, fun h => A2Y.out b hb h⟩⟩, ?_⟩, HKP.out⟩
        exact (rds_last HR.out (by rw [List.length_set, HLT.out]; omega) (by simp [HPL.out])).mono (fun b _ h => by
          obtain ⟨q1, q2, q3, q4, q5⟩ := u3 b h
          exact ⟨q1, q2, q3, q5, q4⟩)
    · refine stage_step (S := fun (L' : Array Bool) (w' : World) => (L'.getD 21 false = false → w'.cell? ⟨g, 0, none⟩ = some kv) ∧ (L'.getD 24 false = false → w'.cell? ⟨g, 2, none⟩ = some xv)) (o := { dst := some 99, op := Go.Op.buildSlice 71 1 #[(0, Go.Operand.tmp 98)], type := 71, pos := "btree.go:183", after := #[{ on := 16, ground := Go.Ground.data }], guard := none }) (by rfl) (fun K2 hK => ?_)
      clear hS0 hS1
      go_simp
      have hal : Below wd0.heap.size wd0 (wd0.alloc (.cells #[.pointer (some ⟨g2, 0, none⟩)] 67)) := (Below.refl _ _).alloc (Nat.le_refl _) _
      replace HB := Lib.hid (HB.out.alloc (.cells #[.pointer (some ⟨g2, 0, none⟩)] 67))
      replace HY := Lib.hid (HY.out.below hal)
      replace HR := Lib.hid (HR.out.below hal)
      replace HX1 := Lib.hid (own_below HX1.out hal)
      replace HK1 := Lib.hid (own_below HK1.out hal)
      replace HKP := Lib.hid (HKP.out.trans (Kept.of_below hal HKP.out.size))
      have HQ2 : Hid ((wd0.alloc (.cells #[.pointer (some ⟨g2, 0, none⟩)] 67)).heap[wd0.heap.size]? = some (.cells #[.pointer (some ⟨g2, 0, none⟩)] 67 (0, 0))) := Lib.hid (heap_alloc_new wd0 _)
      have hq2 : N0 ≤ wd0.heap.size ∧ wd0.heap.size < (wd0.alloc (.cells #[.pointer (some ⟨g2, 0, none⟩)] 67)).heap.size := ⟨hsz, by simp⟩
      replace hsz := Nat.le_trans hsz hal.size
      clear hal
      generalize wd0.alloc (.cells #[.pointer (some ⟨g2, 0, none⟩)] 67) = wd1 at *
      generalize wd0.heap.size = q2 at *
      have hS0 : wd1.cell? ⟨g, 0, none⟩ = some kv := HB.out.c 0 _ rfl
      have hS1 : wd1.cell? ⟨g, 2, none⟩ = some xv := HB.out.c 2 _ rfl
      refine hK.out _ _ (⟨fun _ => hS0, fun _ => hS1⟩) ?_
      clear hK K2
      try simp only [Act.put, List.setIfInBounds_toArray, List.set_cons_zero, List.set_cons_succ]
      refine stage_all (rs := [8]) (by kernel_rfl) (by simp) (fun i0 hi0 => ?_)
      obtain rfl : i0 = 8 := by simpa using hi0
      refine stage_step (S := fun (L' : Array Bool) (w' : World) => (L'.getD 21 false = false → w'.cell? ⟨g, 0, none⟩ = some kv) ∧ (L'.getD 24 false = false → w'.cell? ⟨g, 2, none⟩ = some xv)) (o := { dst := some 90, op := Go.Op.buildSlice 57 1 #[(0, Go.Operand.tmp 89)], type := 57, pos := "btree.go:183", after := #[{ on := 7, ground := Go.Ground.data }], guard := none }) (by rfl) (fun K2 hK => ?_)
      clear hS0 hS1
      go_simp
      have hal : Below wd1.heap.size wd1 (wd1.alloc (.cells #[.string up] 9)) := (Below.refl _ _).alloc (Nat.le_refl _) _
      replace HB := Lib.hid (HB.out.alloc (.cells #[.string up] 9))
      replace HY := Lib.hid (HY.out.below hal)
      replace HR := Lib.hid (HR.out.below hal)
      replace HX1 := Lib.hid (own_below HX1.out hal)
      replace HK1 := Lib.hid (own_below HK1.out hal)
      replace HQ2 := Lib.hid ((hal.block _ hq2.2).trans HQ2.out)
      replace HKP := Lib.hid (HKP.out.trans (Kept.of_below hal HKP.out.size))
      have HQ1 : Hid ((wd1.alloc (.cells #[.string up] 9)).heap[wd1.heap.size]? = some (.cells #[.string up] 9 (0, 0))) := Lib.hid (heap_alloc_new wd1 _)
      replace hq2 := And.intro hq2.1 (Nat.lt_of_lt_of_le hq2.2 hal.size)
      have hq1 : N0 ≤ wd1.heap.size ∧ wd1.heap.size < (wd1.alloc (.cells #[.string up] 9)).heap.size := ⟨hsz, by simp⟩
      replace hsz := Nat.le_trans hsz hal.size
      clear hal
      generalize wd1.alloc (.cells #[.string up] 9) = wd2 at *
      generalize wd1.heap.size = q1 at *
      have hS0 : wd2.cell? ⟨g, 0, none⟩ = some kv := HB.out.c 0 _ rfl
      have hS1 : wd2.cell? ⟨g, 2, none⟩ = some xv := HB.out.c 2 _ rfl
      refine hK.out _ _ (⟨fun _ => hS0, fun _ => hS1⟩) ?_
      clear hK K2
      try simp only [Act.put, List.setIfInBounds_toArray, List.set_cons_zero, List.set_cons_succ]
      refine stage_all (rs := [9]) (by kernel_rfl) (by simp) (fun i0 hi0 => ?_)
      obtain rfl : i0 = 9 := by simpa using hi0
      refine stage_step (S := fun (L' : Array Bool) (w' : World) => (L'.getD 21 false = false → w'.cell? ⟨g, 0, none⟩ = some kv) ∧ (L'.getD 24 false = false → w'.cell? ⟨g, 2, none⟩ = some xv)) (o := { dst := some 91, op := Go.Op.call { callee := Go.Callee.value (Go.Operand.func 47), args := #[Go.Operand.tmp 87, Go.Operand.tmp 88, Go.Operand.tmp 90], argTypes := #[57, 3, 57] }, type := 57, pos := "btree.go:183", after := #[{ on := 5, ground := Go.Ground.data }, { on := 6, ground := Go.Ground.data }, { on := 8, ground := Go.Ground.data }], guard := none }) (by rfl) (fun K2 hK => ?_)
      clear hS0 hS1
      go_simp
      go_wp2_with fail
      with_reducible refine (insK q1 i kv ks up wd2 (by omega) (by omega) HK1.out HQ1.out (fun e => by have := hkl _ e; omega)).mono ?_
      rintro e wd3 ⟨v1, rfl, hown, hins⟩
      have hkg : Kept wd2.heap.size (fun k => kv.ownBlock = some k) wd2 wd3 := (Kept.refl _ _ _).grown hins.1 (Nat.le_refl _) (fun k hk => .inr hk)
      replace HB := Lib.hid (HB.out.kept hkg HB.out.lt AKG.out)
      replace HY := Lib.hid (ownP_kept hkg HY.out (fun k hk h => AKY.out k hk h))
      replace HR := Lib.hid (HR.out.kept hkg (fun k hk h => (HKR.out k h.1).2.1 hk))
      replace HX1 := Lib.hid (own_kept hkg HX1.out (fun k hk h => AKX.out k hk h))
      replace HQ2 := Lib.hid ((hkg.block _ hq2.2 (fun e => by have := hkl _ e; omega)).trans HQ2.out)
      replace HKP := Lib.hid (HKP.out.trans (kept_less hkg HKP.out.size (fun k _ hk => HPK.out k hk)))
      have HV1 := Lib.hid hown
      have hn1 : v1.ownBlock = kv.ownBlock ∨ (v1.ownBlock = some wd2.heap.size ∧ N0 ≤ wd2.heap.size) := hins.2.imp id (fun h => ⟨h, hsz⟩)
      have hl1 : ∀ b, v1.ownBlock = some b → b < wd3.heap.size := fun b hb => (hown.lt b hb).2
      have A1X := Lib.hid (apn hn1 AKX.out hxl)
      have A1Y := Lib.hid (apn hn1 AKY.out hyl)
      have A1G := Lib.hid (apg hn1 AKG.out hgl)
      replace hq2 := And.intro hq2.1 (Nat.lt_of_lt_of_le hq2.2 hkg.size)
      replace hsz := Nat.le_trans hsz hkg.size
      clear hkg hins hown HK1 HQ1 hq1
      have hS0 : wd3.cell? ⟨g, 0, none⟩ = some kv := HB.out.c 0 _ rfl
      have hS1 : wd3.cell? ⟨g, 2, none⟩ = some xv := HB.out.c 2 _ rfl
      refine hK.out _ _ (⟨fun _ => hS0, fun _ => hS1⟩) ?_
      clear hK K2
      try simp only [Act.put, List.setIfInBounds_toArray, List.set_cons_zero, List.set_cons_succ]
      refine stage_all (rs := [18]) (by kernel_rfl) (by simp) (fun i0 hi0 => ?_)
      obtain rfl : i0 = 18 := by simpa using hi0
      refine stage_step (S := fun (L' : Array Bool) (w' : World) => (L'.getD 21 false = false → w'.cell? ⟨g, 0, none⟩ = some kv) ∧ (L'.getD 24 false = false → w'.cell? ⟨g, 2, none⟩ = some xv)) (o := { dst := some 100, op := Go.Op.call { callee := Go.Callee.value (Go.Operand.func 48), args := #[Go.Operand.tmp 95, Go.Operand.tmp 97, Go.Operand.tmp 99], argTypes := #[71, 3, 71] }, type := 71, pos := "btree.go:183", after := #[{ on := 13, ground := Go.Ground.data }, { on := 15, ground := Go.Ground.data }, { on := 17, ground := Go.Ground.data }, { on := 9, ground := Go.Ground.chain }], guard := none }) (by rfl) (fun K2 hK => ?_)
      clear hS0 hS1
      go_simp
      go_wp2_with fail
      with_reducible refine (insGi (IntKind.i64.wrap ((i : Int) + 1)) q2 (i + 1) xv ps g2 wd3 HCAST.out (by have := HPL.out; have := HLT.out; omega) (by have := HPL.out; have := HLT.out; omega) HX1.out HQ2.out (fun e => by have := hxl _ e; omega)).mono ?_
      rintro e wd4 ⟨v2, rfl, hown, hins⟩
      have hkg : Kept wd3.heap.size (fun k => xv.ownBlock = some k) wd3 wd4 := (Kept.refl _ _ _).grown hins.1 (Nat.le_refl _) (fun k hk => .inr hk)
      replace HB := Lib.hid (HB.out.kept hkg HB.out.lt AXG.out)
      replace HY := Lib.hid (ownP_kept hkg HY.out (fun k hk h => AXY.out k hk h))
      replace HR := Lib.hid (HR.out.kept hkg (fun k hk h => (HKR.out k h.1).2.2.1 hk))
      replace HV1 := Lib.hid (own_kept hkg HV1.out (fun k hk h => A1X.out k h hk))
      replace HKP := Lib.hid (HKP.out.trans (kept_less hkg HKP.out.size (fun k _ hk => HPX.out k hk)))
      have HV2 := Lib.hid hown
      have hn2 : v2.ownBlock = xv.ownBlock ∨ (v2.ownBlock = some wd3.heap.size ∧ N0 ≤ wd3.heap.size) := hins.2.imp id (fun h => ⟨h, hsz⟩)
      have A12 := Lib.hid (apm hn2 A1X.out hl1)
      have A2Y := Lib.hid (apn hn2 AXY.out hyl)
      have A2G := Lib.hid (apg hn2 AXG.out hgl)
      replace hsz := Nat.le_trans hsz hkg.size
      clear hkg hins hown HX1 HQ2 hq2 hl1
      have hS0 : wd4.cell? ⟨g, 0, none⟩ = some kv := HB.out.c 0 _ rfl
      have hS1 : wd4.cell? ⟨g, 2, none⟩ = some xv := HB.out.c 2 _ rfl
      refine hK.out _ _ (⟨fun _ => hS0, fun _ => hS1⟩) ?_
      clear hK K2
      try simp only [Act.put, List.setIfInBounds_toArray, List.set_cons_zero, List.set_cons_succ]
      obtain ⟨B1, d1, rfl, _, _⟩ := own_slice HV1.out
      obtain ⟨B2, d2, rfl, _, _⟩ := own_slice HV2.out
      refine stage_all (rs := [19]) (by kernel_rfl) (by simp) (fun i0 hi0 => ?_)
      obtain rfl : i0 = 19 := by simpa using hi0
      refine stage_step (S := fun (L' : Array Bool) (w' : World) => (L'.getD 21 false = false → w'.cell? ⟨g, 0, none⟩ = some kv) ∧ (L'.getD 24 false = false → w'.cell? ⟨g, 2, none⟩ = some xv)) (o := { dst := some 101, op := Go.Op.nilCheck (Go.Operand.tmp 82), type := 0, pos := "btree.go:183", after := #[{ on := 0, ground := Go.Ground.data }, { on := 0, ground := Go.Ground.phase }, { on := 1, ground := Go.Ground.textOnly Go.Departure.lateStores }, { on := 2, ground := Go.Ground.phase }, { on := 3, ground := Go.Ground.phase }, { on := 4, ground := Go.Ground.phase }, { on := 5, ground := Go.Ground.phase }, { on := 6, ground := Go.Ground.phase }, { on := 7, ground := Go.Ground.phase }, { on := 8, ground := Go.Ground.phase }, { on := 9, ground := Go.Ground.phase }, { on := 10, ground := Go.Ground.textOnly Go.Departure.lateStores }, { on := 11, ground := Go.Ground.textOnly Go.Departure.lateStoresUnsure }, { on := 12, ground := Go.Ground.textOnly Go.Departure.lateStoresUnsure }, { on := 13, ground := Go.Ground.phase }, { on := 14, ground := Go.Ground.textOnly Go.Departure.lateStores }, { on := 15, ground := Go.Ground.textOnly Go.Departure.lateStores }, { on := 16, ground := Go.Ground.textOnly Go.Departure.lateStores }, { on := 17, ground := Go.Ground.textOnly Go.Departure.lateStoresUnsure }, { on := 18, ground := Go.Ground.phase }], guard := none }) (by rfl) (fun K2 hK => ?_)
      go_simp
      refine hK.out _ _ (⟨fun _ => hS0, fun _ => hS1⟩) ?_
      clear hK K2
      try simp only [Act.put, List.setIfInBounds_toArray, List.set_cons_zero, List.set_cons_succ]
      refine stage_all (rs := [20]) (by kernel_rfl) (by simp) (fun i0 hi0 => ?_)
      obtain rfl : i0 = 20 := by simpa using hi0
      refine stage_step (S := fun (L' : Array Bool) (w' : World) => (L'.getD 21 false = false → w'.cell? ⟨g, 0, none⟩ = some kv) ∧ (L'.getD 24 false = false → w'.cell? ⟨g, 2, none⟩ = some xv)) (o := { dst := some 102, op := Go.Op.fieldAddr 73 (Go.Operand.tmp 101) 0, type := 0, pos := "btree.go:183", after := #[{ on := 19, ground := Go.Ground.data }, { on := 0, ground := Go.Ground.phase }, { on := 1, ground := Go.Ground.textOnly Go.Departure.lateStores }, { on := 2, ground := Go.Ground.phase }, { on := 3, ground := Go.Ground.phase }, { on := 4, ground := Go.Ground.phase }, { on := 5, ground := Go.Ground.phase }, { on := 6, ground := Go.Ground.phase }, { on := 7, ground := Go.Ground.phase }, { on := 8, ground := Go.Ground.phase }, { on := 9, ground := Go.Ground.phase }, { on := 10, ground := Go.Ground.textOnly Go.Departure.lateStores }, { on := 11, ground := Go.Ground.textOnly Go.Departure.lateStoresUnsure }, { on := 12, ground := Go.Ground.textOnly Go.Departure.lateStoresUnsure }, { on := 13, ground := Go.Ground.phase }, { on := 14, ground := Go.Ground.textOnly Go.Departure.lateStores }, { on := 15, ground := Go.Ground.textOnly Go.Departure.lateStores }, { on := 16, ground := Go.Ground.textOnly Go.Departure.lateStores }, { on := 17, ground := Go.Ground.textOnly Go.Departure.lateStoresUnsure }, { on := 18, ground := Go.Ground.phase }], guard := none }) (by rfl) (fun K2 hK => ?_)
      go_simp
      refine hK.out _ _ (⟨fun _ => hS0, fun _ => hS1⟩) ?_
      clear hK K2
      try simp only [Act.put, List.setIfInBounds_toArray, List.set_cons_zero, List.set_cons_succ]
      have cHB0 := HB.out.c 0 _ rfl; have fHB0 := HB.out.f 0 (by simp); have cHB1 := HB.out.c 1 _ rfl; have fHB1 := HB.out.f 1 (by simp); have cHB2 := HB.out.c 2 _ rfl; have fHB2 := HB.out.f 2 (by simp); have lHB := HB.out.lt
      refine stage_all (rs := [21]) (by kernel_rfl) (by simp) (fun i0 hi0 => ?_)
      obtain rfl : i0 = 21 := by simpa using hi0
      refine stage_step (S := fun (L' : Array Bool) (w' : World) => (L'.getD 21 false = false → w'.cell? ⟨g, 0, none⟩ = some kv) ∧ (L'.getD 24 false = false → w'.cell? ⟨g, 2, none⟩ = some xv)) (o := { dst := none, op := Go.Op.store 57 (Go.Operand.tmp 102) (Go.Operand.tmp 91), type := 0, pos := "btree.go:183", after := #[{ on := 20, ground := Go.Ground.data }, { on := 9, ground := Go.Ground.data }, { on := 18, ground := Go.Ground.chain }, { on := 0, ground := Go.Ground.phase }, { on := 1, ground := Go.Ground.textOnly Go.Departure.lateStores }, { on := 2, ground := Go.Ground.phase }, { on := 3, ground := Go.Ground.phase }, { on := 4, ground := Go.Ground.phase }, { on := 5, ground := Go.Ground.phase }, { on := 6, ground := Go.Ground.phase }, { on := 7, ground := Go.Ground.phase }, { on := 8, ground := Go.Ground.phase }, { on := 9, ground := Go.Ground.phase }, { on := 10, ground := Go.Ground.textOnly Go.Departure.lateStores }, { on := 11, ground := Go.Ground.textOnly Go.Departure.lateStoresUnsure }, { on := 12, ground := Go.Ground.textOnly Go.Departure.lateStoresUnsure }, { on := 13, ground := Go.Ground.phase }, { on := 14, ground := Go.Ground.textOnly Go.Departure.lateStores }, { on := 15, ground := Go.Ground.textOnly Go.Departure.lateStores }, { on := 16, ground := Go.Ground.textOnly Go.Departure.lateStores }, { on := 17, ground := Go.Ground.textOnly Go.Departure.lateStoresUnsure }, { on := 18, ground := Go.Ground.phase }], guard := none }) (by rfl) (fun K2 hK => ?_)
      go_simp
      clear cHB0 fHB0 cHB1 fHB1 cHB2 fHB2 lHB
      have hB9 := HB.out.set 0 (.slice B1 (ks.length + 1) d1) (by simp)
      have HBn : Hid (Box (wd4.setCell ⟨g, 0, none⟩ (.slice B1 (ks.length + 1) d1)) g [.slice B1 (ks.length + 1) d1, yv, xv]) := Lib.hid hB9
      have hset : Kept wd4.heap.size (fun k => k = g) wd4 (wd4.setCell ⟨g, 0, none⟩ (.slice B1 (ks.length + 1) d1)) := (Kept.refl _ _ _).set _ _ (.inr rfl)
      clear HB hB9
      have HB := HBn
      clear HBn
      replace HV1 := Lib.hid (own_kept hset HV1.out (fun k hk h => A1G.out (hk ▸ h)))
      replace HV2 := Lib.hid (own_kept hset HV2.out (fun k hk h => A2G.out (hk ▸ h)))
      replace HY := Lib.hid (ownP_kept hset HY.out (fun k hk h => AYG.out (hk ▸ h)))
      replace HR := Lib.hid (HR.out.kept hset (fun k hk h => (HKR.out k h.1).1 hk))
      replace HKP := Lib.hid (HKP.out.set ⟨g, 0, none⟩ (.slice B1 (ks.length + 1) d1) (.inr HPG.out))
      clear hset hS0 hS1
      generalize (wd4.setCell ⟨g, 0, none⟩ (.slice B1 (ks.length + 1) d1)) = ws0 at *
      have hS1 : ws0.cell? ⟨g, 2, none⟩ = some xv := HB.out.c 2 _ rfl
      refine hK.out _ _ (⟨fun h => by simp at h, fun _ => hS1⟩) ?_
      clear hK K2
      try simp only [Act.put, List.setIfInBounds_toArray, List.set_cons_zero, List.set_cons_succ]
      refine stage_all (rs := [22]) (by kernel_rfl) (by simp) (fun i0 hi0 => ?_)
      obtain rfl : i0 = 22 := by simpa using hi0
      refine stage_step (S := fun (L' : Array Bool) (w' : World) => (L'.getD 21 false = false → w'.cell? ⟨g, 0, none⟩ = some kv) ∧ (L'.getD 24 false = false → w'.cell? ⟨g, 2, none⟩ = some xv)) (o := { dst := some 103, op := Go.Op.nilCheck (Go.Operand.tmp 83), type := 0, pos := "btree.go:183", after := #[{ on := 1, ground := Go.Ground.data }, { on := 0, ground := Go.Ground.phase }, { on := 1, ground := Go.Ground.phase }, { on := 2, ground := Go.Ground.phase }, { on := 3, ground := Go.Ground.phase }, { on := 4, ground := Go.Ground.phase }, { on := 5, ground := Go.Ground.phase }, { on := 6, ground := Go.Ground.phase }, { on := 7, ground := Go.Ground.phase }, { on := 8, ground := Go.Ground.phase }, { on := 9, ground := Go.Ground.phase }, { on := 10, ground := Go.Ground.phase }, { on := 11, ground := Go.Ground.phase }, { on := 12, ground := Go.Ground.phase }, { on := 13, ground := Go.Ground.phase }, { on := 14, ground := Go.Ground.phase }, { on := 15, ground := Go.Ground.phase }, { on := 16, ground := Go.Ground.phase }, { on := 17, ground := Go.Ground.phase }, { on := 18, ground := Go.Ground.phase }, { on := 19, ground := Go.Ground.phase }, { on := 20, ground := Go.Ground.phase }, { on := 21, ground := Go.Ground.phase }], guard := none }) (by rfl) (fun K2 hK => ?_)
      go_simp
      refine hK.out _ _ (⟨fun h => by simp at h, fun _ => hS1⟩) ?_
      clear hK K2
      try simp only [Act.put, List.setIfInBounds_toArray, List.set_cons_zero, List.set_cons_succ]
      refine stage_all (rs := [23]) (by kernel_rfl) (by simp) (fun i0 hi0 => ?_)
      obtain rfl : i0 = 23 := by simpa using hi0
      refine stage_step (S := fun (L' : Array Bool) (w' : World) => (L'.getD 21 false = false → w'.cell? ⟨g, 0, none⟩ = some kv) ∧ (L'.getD 24 false = false → w'.cell? ⟨g, 2, none⟩ = some xv)) (o := { dst := some 104, op := Go.Op.fieldAddr 73 (Go.Operand.tmp 103) 2, type := 0, pos := "btree.go:183", after := #[{ on := 22, ground := Go.Ground.data }, { on := 0, ground := Go.Ground.phase }, { on := 1, ground := Go.Ground.phase }, { on := 2, ground := Go.Ground.phase }, { on := 3, ground := Go.Ground.phase }, { on := 4, ground := Go.Ground.phase }, { on := 5, ground := Go.Ground.phase }, { on := 6, ground := Go.Ground.phase }, { on := 7, ground := Go.Ground.phase }, { on := 8, ground := Go.Ground.phase }, { on := 9, ground := Go.Ground.phase }, { on := 10, ground := Go.Ground.phase }, { on := 11, ground := Go.Ground.phase }, { on := 12, ground := Go.Ground.phase }, { on := 13, ground := Go.Ground.phase }, { on := 14, ground := Go.Ground.phase }, { on := 15, ground := Go.Ground.phase }, { on := 16, ground := Go.Ground.phase }, { on := 17, ground := Go.Ground.phase }, { on := 18, ground := Go.Ground.phase }, { on := 19, ground := Go.Ground.phase }, { on := 20, ground := Go.Ground.phase }, { on := 21, ground := Go.Ground.phase }], guard := none }) (by rfl) (fun K2 hK => ?_)
      go_simp
      refine hK.out _ _ (⟨fun h => by simp at h, fun _ => hS1⟩) ?_
      clear hK K2
      try simp only [Act.put, List.setIfInBounds_toArray, List.set_cons_zero, List.set_cons_succ]
      have cHB0 := HB.out.c 0 _ rfl; have fHB0 := HB.out.f 0 (by simp); have cHB1 := HB.out.c 1 _ rfl; have fHB1 := HB.out.f 1 (by simp); have cHB2 := HB.out.c 2 _ rfl; have fHB2 := HB.out.f 2 (by simp); have lHB := HB.out.lt
      refine stage_all (rs := [24]) (by kernel_rfl) (by simp) (fun i0 hi0 => ?_)
      obtain rfl : i0 = 24 := by simpa using hi0
      refine stage_step (S := fun (L' : Array Bool) (w' : World) => (L'.getD 21 false = false → w'.cell? ⟨g, 0, none⟩ = some kv) ∧ (L'.getD 24 false = false → w'.cell? ⟨g, 2, none⟩ = some xv)) (o := { dst := none, op := Go.Op.store 71 (Go.Operand.tmp 104) (Go.Operand.tmp 100), type := 0, pos := "btree.go:183", after := #[{ on := 23, ground := Go.Ground.data }, { on := 18, ground := Go.Ground.data }, { on := 21, ground := Go.Ground.chain }, { on := 0, ground := Go.Ground.phase }, { on := 1, ground := Go.Ground.phase }, { on := 2, ground := Go.Ground.phase }, { on := 3, ground := Go.Ground.phase }, { on := 4, ground := Go.Ground.phase }, { on := 5, ground := Go.Ground.phase }, { on := 6, ground := Go.Ground.phase }, { on := 7, ground := Go.Ground.phase }, { on := 8, ground := Go.Ground.phase }, { on := 9, ground := Go.Ground.phase }, { on := 10, ground := Go.Ground.phase }, { on := 11, ground := Go.Ground.phase }, { on := 12, ground := Go.Ground.phase }, { on := 13, ground := Go.Ground.phase }, { on := 14, ground := Go.Ground.phase }, { on := 15, ground := Go.Ground.phase }, { on := 16, ground := Go.Ground.phase }, { on := 17, ground := Go.Ground.phase }, { on := 18, ground := Go.Ground.phase }, { on := 19, ground := Go.Ground.phase }, { on := 20, ground := Go.Ground.phase }, { on := 21, ground := Go.Ground.phase }], guard := none }) (by rfl) (fun K2 hK => ?_)
      go_simp
      clear cHB0 fHB0 cHB1 fHB1 cHB2 fHB2 lHB
      have hB9 := HB.out.set 2 (.slice B2 (ps.length + 1) d2) (by simp)
      have HBn : Hid (Box (ws0.setCell ⟨g, 2, none⟩ (.slice B2 (ps.length + 1) d2)) g [.slice B1 (ks.length + 1) d1, yv, .slice B2 (ps.length + 1) d2]) := Lib.hid hB9
      have hset : Kept ws0.heap.size (fun k => k = g) ws0 (ws0.setCell ⟨g, 2, none⟩ (.slice B2 (ps.length + 1) d2)) := (Kept.refl _ _ _).set _ _ (.inr rfl)
      clear HB hB9
      have HB := HBn
      clear HBn
      replace HV1 := Lib.hid (own_kept hset HV1.out (fun k hk h => A1G.out (hk ▸ h)))
      replace HV2 := Lib.hid (own_kept hset HV2.out (fun k hk h => A2G.out (hk ▸ h)))
      replace HY := Lib.hid (ownP_kept hset HY.out (fun k hk h => AYG.out (hk ▸ h)))
      replace HR := Lib.hid (HR.out.kept hset (fun k hk h => (HKR.out k h.1).1 hk))
      replace HKP := Lib.hid (HKP.out.set ⟨g, 2, none⟩ (.slice B2 (ps.length + 1) d2) (.inr HPG.out))
      clear hset hS1
      generalize (ws0.setCell ⟨g, 2, none⟩ (.slice B2 (ps.length + 1) d2)) = ws1 at *
      refine hK.out _ _ (⟨fun h => by simp at h, fun h => by simp at h⟩) ?_
      clear hK K2
      try simp only [Act.put, List.setIfInBounds_toArray, List.set_cons_zero, List.set_cons_succ]
      refine stage_done (by kernel_rfl) ?_ _
      obtain ⟨u1, u2, u3⟩ := top_of hgl hwN hn1 hn2 HPK.out HPX.out HKR.out
      go_wp2_with fail
      go_end0
      refine ⟨rfl, ⟨_, _, _, putV ps (i + 1) g2, HB.out, ⟨by rw [putV_len _ _ _ (by omega)]; exact HV1.out, u1⟩, ⟨HY.out.1, fun b hb => .inl (HY.out.2 b hb)⟩, ⟨by rw [putV_len _ _ _ (by rw [List.length_set, HLT.out]; omega), List.length_set, ← HPL.out]; exact HV2.out, u2⟩, .inl HPG.out, ⟨A1G.out, AYG.out, A1Y.out, A2G.out, fun b hb => ⟨fun h => A12.out b h hb, fun h => A2Y.out b hb h⟩⟩, ?_⟩, HKP.out⟩
      exact (rds_last HR.out (by rw [List.length_set, HLT.out]; omega) (by simp [HPL.out])).mono (fun b _ h => by
        obtain ⟨q1, q2, q3, q4, q5⟩ := u3 b h
        exact ⟨q1, q2, q3, q5, q4⟩)
  · have h5' : ¬ (4 : Int) < (t'.keys.length : Int) := by omega
    have hfix : fixT ks vs ts i t' = .mk ks vs (ts.set i t') := by unfold fixT; rw [if_neg h5]
    have hRT : RT = _ := HRT.out.symm.trans hfix
    subst hRT
    have hr : RdsT w1 KP ps (ts.set i t') := RdsT.of (by rw [List.length_set]; exact HPL.out) (fun j q u hq hu => by
      by_cases hji : j = i
      · subst hji
        rw [HP1G.out] at hq
        obtain rfl := Option.some.inj hq
        rw [List.getElem?_set_self (by have := HPL.out; omega)] at hu
        obtain rfl := Option.some.inj hu
        exact HTOP.out.rd.mono (fun b _ h => by
          rcases h with h | h
          · exact HKO.out b (HPP.out b h)
          · exact HKN.out b h)
      · rw [List.getElem?_set_ne (fun e => hji e.symm)] at hu
        exact (HSB.out j q u hji hq hu).mono (fun b _ h => HKO.out b h.1))
    have HR := Lib.hid hr
    clear hr hfix
    go_wp2_with fail
    go_end0
    refine ⟨rfl, ⟨kv, yv, xv, ps, HB.out, ⟨HK1.out, fun b hb => .inl (HPK.out b hb)⟩, ⟨HY.out.1, fun b hb => .inl (HY.out.2 b hb)⟩, ⟨by rw [List.length_set, ← HPL.out]; exact HX1.out, fun b hb => .inl (HPX.out b hb)⟩, .inl HPG.out, ⟨AKG.out, AYG.out, AKY.out, AXG.out, fun b hb => ⟨fun h => AKX.out b h hb, fun h => AXY.out b hb h⟩⟩, HR.out.mono (fun b _ h => HKT.out b h)⟩, HKP.out⟩
theorem put_any (key value : ByteArray) : ∀ (n : Nat) (t : Tr), szT t ≤ n → PutGo key value t
  | 0, .mk ks vs ts, h => by unfold szT at h; omega
  | n + 1, .mk ks vs ts, h => by
    by_cases h0 : ts = []
    · subst h0; exact put_leaf key value ks vs
    · exact put_node key value ks vs ts h0 (fun t ht => put_any key value n t (by have := szT_kid (ks := ks) (vs := vs) ht; omega))
end Go.Proofs.Ytkecbghnapjecaa
