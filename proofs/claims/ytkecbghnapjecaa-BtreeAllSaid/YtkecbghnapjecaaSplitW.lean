/- Package btree: split. -/
import Derived.Test.YtkecbghnapjecaaRdT
import Derived.Test.YtkecbghnapjecaaStage
namespace Go.Proofs.Ytkecbghnapjecaa
open Go.RowKit
set_option linter.unusedVariables false
set_option linter.unusedSimpArgs false
/-- A node has either values or kids. -/
def Shape (t : Tr) : Prop := (t.kids = [] → t.vals.length = t.keys.length) ∧ (t.kids ≠ [] → t.kids.length = t.keys.length + 1 ∧ t.vals = [])
theorem own_pos {w : World} {base k n : Nat} {e : TypeId} {v : Value} {xs : List Value} (h : w.ownsRow base e k v n xs) (hn : 0 < n) : ∃ g cap, v = .slice (some ⟨g, 0, none⟩) n cap ∧ n ≤ cap := by
  rcases h.2 with ⟨_, h0⟩ | ⟨g, cap, cur, hv, _, _, hle, _⟩
  · omega
  · exact ⟨g, cap, hv, hle⟩
theorem RowP.rowE {α : Type} {enc : α → List Value} {P : Nat → Prop} {w : World} {A : Option Addr} {n c : Nat} {l : List α} (h : RowP enc P w (.slice A n c) l) : RowE enc 1 w A l := by
  obtain ⟨A', c', e, _, hr, _, _⟩ := h
  injection e with e1 e2 e3
  rw [e1]; exact hr
theorem RowE.dropE {α : Type} {enc : α → List Value} {w : World} {b : Nat} {l : List α} (n : Nat) (h : RowE enc 1 w (some ⟨b, 0, none⟩) l) : RowE enc 1 w (some ⟨b, n, none⟩) (l.drop n) := fun i x hi => by
  rw [List.getElem?_drop] at hi
  obtain ⟨b', off, e, hb, hc⟩ := h (n + i) x hi
  obtain ⟨rfl, rfl⟩ : b = b' ∧ 0 = off := by simpa using e
  refine ⟨b, n, rfl, hb, fun j y hj q u hu => ?_⟩
  rw [List.getElem?_drop] at hj
  have := hc (n + j) y hj q u hu
  rw [show n + j * 1 + q = 0 + (n + j) * 1 + q by omega]
  exact this
theorem RowP.take_own {α : Type} {enc : α → List Value} {P : Nat → Prop} {w : World} {b m c : Nat} {l : List α} (n : Nat) (hn : n ≤ l.length) (h : RowP enc P w (.slice (some ⟨b, 0, none⟩) m c) l) : RowP enc P w (.slice (some ⟨b, 0, none⟩) n n) (l.take n) := by
  obtain ⟨A, c', e, _, hr, _, ha⟩ := h
  obtain ⟨rfl, _, _⟩ : some ⟨b, 0, none⟩ = A ∧ _ ∧ _ := by simpa using e
  have hl : (l.take n).length = n := by simp; omega
  refine ⟨some ⟨b, 0, none⟩, n, by rw [hl], by omega, hr.take n, (fun h => by cases h), ha⟩
set_option maxHeartbeats 2000000 in
set_option maxRecDepth 100000 in
theorem split_leaf (P : Nat → Prop) (g : Nat) (ks vs : List ByteArray) (ts : List Tr) (w : World) (hT : TopAt w P g (.mk ks vs ts)) (hl : ks.length = 5) (h0 : ts = []) (hv0 : vs.length = 5) :
    Calls Try.prog 31 #[.pointer (some ⟨g, 0, none⟩)] w fun e w' => ∃ g2, e = .returned (.tuple #[.string (splitT (.mk ks vs ts)).1, .pointer (some ⟨g2, 0, none⟩)]) ∧ RdT w' (AndNew P w) g (splitT (.mk ks vs ts)).2.1 ∧ RdT w' (AndNew P w) g2 (splitT (.mk ks vs ts)).2.2 ∧ w.heap.size ≤ g2 ∧ Kept w.heap.size (fun k => k = g) w w' := by
  obtain ⟨kv, vv, iv, ps, hB, hk, hv, hi, hPg, hA, hRds⟩ := hT
  subst h0
  have hp0 : ps = [] := by unfold RdsT at hRds; exact hRds
  subst hp0
  obtain ⟨k0, k1, k2, k3, k4, rfl⟩ : ∃ a b c d e, ks = [a, b, c, d, e] := by
    match ks, hl with
    | [a, b, c, d, e], _ => exact ⟨a, b, c, d, e, rfl⟩
  clear hl
  obtain ⟨v0, v1, v2, v3, v4, rfl⟩ : ∃ a b c d e, vs = [a, b, c, d, e] := by
    match vs, hv0 with
    | [a, b, c, d, e], _ => exact ⟨a, b, c, d, e, rfl⟩
  clear hv0
  have HKR := Lib.hid (hk.row encS_len).at_blocks
  have HVR := Lib.hid (hv.row encS_len).at_blocks
  have HIR := Lib.hid (hi.row encN_len).at_blocks
  obtain ⟨gk, kc, rfl, hkc⟩ := own_pos hk.1 (by simp)
  have hkP := hk.2 gk rfl
  obtain ⟨gv, vc, rfl, hvc⟩ := own_pos hv.1 (by simp)
  obtain ⟨IA, ic, rfl, _, _⟩ := own_slice hi.1
  have hkc2 : ¬ kc = 2 := by have := hkc; simp at this; omega
  have hvc2 : ¬ vc = 2 := by have := hvc; simp at this; omega
  have hkc5 : 5 ≤ kc := by have := hkc; simp at this; omega
  have hvc5 : 5 ≤ vc := by have := hvc; simp at this; omega
  have hkci2 : (2 : Int) ≤ (kc : Int) := by omega
  have hkci3 : (3 : Int) ≤ (kc : Int) := by omega
  have hvci2 : (2 : Int) ≤ (vc : Int) := by omega
  have hvci3 : (3 : Int) ≤ (vc : Int) := by omega
  have hw3 : IntKind.i64.wrap 3 = 3 := rfl
  clear hkc
  clear hvc
  replace hB : Box w g [.slice (some ⟨gk, 0, none⟩) 5 kc, .slice (some ⟨gv, 0, none⟩) 5 vc, .slice IA 0 ic] := hB
  have HB := Lib.hid hB
  have hgl : g < w.heap.size := hB.lt
  have HAP := Lib.hid hA
  have HPK := Lib.hid hk.2
  have HPV := Lib.hid hv.2
  have HPI := Lib.hid hi.2
  have HRD := Lib.hid hRds
  have HC1 : Hid (∀ W, Below w.heap.size w W → Calls Try.prog 49 #[.slice (some ⟨gk, 2, none⟩) 3 (kc - 2)] W fun e w' => ∃ v, e = .returned v ∧ w'.ownsRow W.heap.size 9 1 v 3 ([k2, k3, k4].flatMap encS) ∧ Below W.heap.size W w') := Lib.hid (fun W hW => by
    have hr := HKR.out.rowE
    exact cloneS_own (some ⟨gk, 2, none⟩) (kc - 2) [k2, k3, k4] W ((hr.dropE 2).below hW) (fun h => by cases h) (by simp))
  have HC2 : Hid (∀ W, Below w.heap.size w W → Calls Try.prog 49 #[.slice (some ⟨gv, 2, none⟩) 3 (vc - 2)] W fun e w' => ∃ v, e = .returned v ∧ w'.ownsRow W.heap.size 9 1 v 3 ([v2, v3, v4].flatMap encS) ∧ Below W.heap.size W w') := Lib.hid (fun W hW => by
    have hr := HVR.out.rowE
    exact cloneS_own (some ⟨gv, 2, none⟩) (vc - 2) [v2, v3, v4] W ((hr.dropE 2).below hW) (fun h => by cases h) (by simp))
  have HCELL : Hid (w.cell? ⟨gk, 2, none⟩ = some (.string k2)) := Lib.hid (by
    have hr := HKR.out.rowE
    obtain ⟨b, off, e2, _, hc⟩ := hr 2 k2 rfl
    obtain ⟨rfl, rfl⟩ : gk = b ∧ 0 = off := by simpa using e2
    have := hc 2 k2 rfl 0 _ rfl
    simpa using this)
  clear hB hA hk hv hi hRds
  have xk := HCELL.out
  go_enter Try.func31, Try.ntmps31
  have cHB0 := HB.out.c 0 _ rfl; have fHB0 := HB.out.f 0 (by simp); have cHB1 := HB.out.c 1 _ rfl; have fHB1 := HB.out.f 1 (by simp); have cHB2 := HB.out.c 2 _ rfl; have fHB2 := HB.out.f 2 (by simp); have lHB := HB.out.lt
  go_upto_region 4 with (fail)
  clear xk
  clear cHB0 fHB0 cHB1 fHB1 cHB2 fHB2 lHB
  refine stage_begin (S := fun (L' : Array Bool) (w' : World) => Box w' g [.slice (some ⟨gk, 0, none⟩) 5 kc, .slice (some ⟨gv, 0, none⟩) 5 vc, .slice IA 0 ic]) (by kernel_rfl) ?_
  replace HB := Lib.hid HB.out.drew
  have hbd : Below w.heap.size w w.drew := below_drewN (Below.refl _ _) 1
  have hS0 : Box w.drew g [.slice (some ⟨gk, 0, none⟩) 5 kc, .slice (some ⟨gv, 0, none⟩) 5 vc, .slice IA 0 ic] := HB.out
  have HF := Lib.hid hbd
  have hzd : w.heap.size ≤ w.drew.heap.size := hbd.size
  clear hbd
  generalize w.drew = wd at *
  refine stage_take (i := 0) (oi := { dst := some 27, op := Go.Op.move (Go.Operand.tmp 0), type := 67, pos := "btree.go:159", after := #[], guard := none }) (v := ?_) (T := fun _ => True) rfl (by kernel_rfl) (by kernel_rfl) (by kernel_rfl) (by kernel_rfl) (fun _ _ _ h => h) (fun L' w' hW hS => trivial) (fun L' w' hS => hS) (Or.inl ⟨by rfl, ?_⟩) trivial (hS0) ?_
  rotate_left 1
  · intro w9 _; go_simp; (try with_reducible rfl)
  try simp only [Act.put, List.setIfInBounds_toArray, List.set_cons_zero, List.set_cons_succ]
  refine stage_take (i := 1) (oi := { dst := some 28, op := Go.Op.nilCheck (Go.Operand.tmp 27), type := 0, pos := "btree.go:159", after := #[{ on := 0, ground := Go.Ground.data }], guard := none }) (v := ?_) (T := fun _ => True) rfl (by kernel_rfl) (by kernel_rfl) (by kernel_rfl) (by kernel_rfl) (fun _ _ _ h => h) (fun L' w' hW hS => trivial) (fun L' w' hS => hS) (Or.inl ⟨by rfl, ?_⟩) trivial (hS0) ?_
  rotate_left 1
  · intro w9 _; go_simp; (try with_reducible rfl)
  try simp only [Act.put, List.setIfInBounds_toArray, List.set_cons_zero, List.set_cons_succ]
  refine stage_take (i := 2) (oi := { dst := some 29, op := Go.Op.fieldAddr 73 (Go.Operand.tmp 28) 0, type := 0, pos := "btree.go:159", after := #[{ on := 1, ground := Go.Ground.data }], guard := none }) (v := ?_) (T := fun _ => True) rfl (by kernel_rfl) (by kernel_rfl) (by kernel_rfl) (by kernel_rfl) (fun _ _ _ h => h) (fun L' w' hW hS => trivial) (fun L' w' hS => hS) (Or.inl ⟨by rfl, ?_⟩) trivial (hS0) ?_
  rotate_left 1
  · intro w9 _; go_simp; (try with_reducible rfl)
  try simp only [Act.put, List.setIfInBounds_toArray, List.set_cons_zero, List.set_cons_succ]
  refine stage_take (i := 3) (oi := { dst := some 30, op := Go.Op.load 57 (Go.Operand.tmp 29), type := 57, pos := "btree.go:159", after := #[{ on := 2, ground := Go.Ground.data }], guard := none }) (v := ?_) (T := fun w' : World => Box w' g [.slice (some ⟨gk, 0, none⟩) 5 kc, .slice (some ⟨gv, 0, none⟩) 5 vc, .slice IA 0 ic]) rfl (by kernel_rfl) (by kernel_rfl) (by kernel_rfl) (by kernel_rfl) (fun _ _ _ h => h) (fun L' w' hW hS => hS) (fun L' w' hS => hS) (Or.inl ⟨by rfl, ?_⟩) (hS0) (hS0) ?_
  rotate_left 1
  · intro w9 zA; have z0 := zA.c 0 _ rfl; clear zA; go_simp; (try with_reducible rfl)
  try simp only [Act.put, List.setIfInBounds_toArray, List.set_cons_zero, List.set_cons_succ]
  refine stage_take (i := 4) (oi := { dst := some 31, op := Go.Op.move (Go.Operand.tmp 4), type := 3, pos := "btree.go:159", after := #[], guard := none }) (v := ?_) (T := fun _ => True) rfl (by kernel_rfl) (by kernel_rfl) (by kernel_rfl) (by kernel_rfl) (fun _ _ _ h => h) (fun L' w' hW hS => trivial) (fun L' w' hS => hS) (Or.inl ⟨by rfl, ?_⟩) trivial (hS0) ?_
  rotate_left 1
  · intro w9 _; go_simp; (try with_reducible rfl)
  try simp only [Act.put, List.setIfInBounds_toArray, List.set_cons_zero, List.set_cons_succ]
  refine stage_take (i := 5) (oi := { dst := some 32, op := Go.Op.slice 57 (Go.Operand.tmp 30) (some (Go.Operand.tmp 31)) none none, type := 57, pos := "btree.go:159", after := #[{ on := 3, ground := Go.Ground.data }, { on := 4, ground := Go.Ground.data }], guard := none }) (v := ?_) (T := fun _ => True) rfl (by kernel_rfl) (by kernel_rfl) (by kernel_rfl) (by kernel_rfl) (fun _ _ _ h => h) (fun L' w' hW hS => trivial) (fun L' w' hS => hS) (Or.inl ⟨by rfl, ?_⟩) trivial (hS0) ?_
  rotate_left 1
  · intro w9 _; go_simp; (try with_reducible rfl)
  try simp only [Act.put, List.setIfInBounds_toArray, List.set_cons_zero, List.set_cons_succ]
  refine stage_take (i := 7) (oi := { dst := some 34, op := Go.Op.move (Go.Operand.tmp 0), type := 67, pos := "btree.go:159", after := #[], guard := none }) (v := ?_) (T := fun _ => True) rfl (by kernel_rfl) (by kernel_rfl) (by kernel_rfl) (by kernel_rfl) (fun _ _ _ h => h) (fun L' w' hW hS => trivial) (fun L' w' hS => hS) (Or.inl ⟨by rfl, ?_⟩) trivial (hS0) ?_
  rotate_left 1
  · intro w9 _; go_simp; (try with_reducible rfl)
  try simp only [Act.put, List.setIfInBounds_toArray, List.set_cons_zero, List.set_cons_succ]
  refine stage_take (i := 8) (oi := { dst := some 35, op := Go.Op.nilCheck (Go.Operand.tmp 34), type := 0, pos := "btree.go:159", after := #[{ on := 7, ground := Go.Ground.data }], guard := none }) (v := ?_) (T := fun _ => True) rfl (by kernel_rfl) (by kernel_rfl) (by kernel_rfl) (by kernel_rfl) (fun _ _ _ h => h) (fun L' w' hW hS => trivial) (fun L' w' hS => hS) (Or.inl ⟨by rfl, ?_⟩) trivial (hS0) ?_
  rotate_left 1
  · intro w9 _; go_simp; (try with_reducible rfl)
  try simp only [Act.put, List.setIfInBounds_toArray, List.set_cons_zero, List.set_cons_succ]
  refine stage_take (i := 9) (oi := { dst := some 36, op := Go.Op.fieldAddr 73 (Go.Operand.tmp 35) 1, type := 0, pos := "btree.go:159", after := #[{ on := 8, ground := Go.Ground.data }], guard := none }) (v := ?_) (T := fun _ => True) rfl (by kernel_rfl) (by kernel_rfl) (by kernel_rfl) (by kernel_rfl) (fun _ _ _ h => h) (fun L' w' hW hS => trivial) (fun L' w' hS => hS) (Or.inl ⟨by rfl, ?_⟩) trivial (hS0) ?_
  rotate_left 1
  · intro w9 _; go_simp; (try with_reducible rfl)
  try simp only [Act.put, List.setIfInBounds_toArray, List.set_cons_zero, List.set_cons_succ]
  refine stage_take (i := 10) (oi := { dst := some 37, op := Go.Op.load 57 (Go.Operand.tmp 36), type := 57, pos := "btree.go:159", after := #[{ on := 9, ground := Go.Ground.data }], guard := none }) (v := ?_) (T := fun w' : World => Box w' g [.slice (some ⟨gk, 0, none⟩) 5 kc, .slice (some ⟨gv, 0, none⟩) 5 vc, .slice IA 0 ic]) rfl (by kernel_rfl) (by kernel_rfl) (by kernel_rfl) (by kernel_rfl) (fun _ _ _ h => h) (fun L' w' hW hS => hS) (fun L' w' hS => hS) (Or.inl ⟨by rfl, ?_⟩) (hS0) (hS0) ?_
  rotate_left 1
  · intro w9 zA; have z0 := zA.c 1 _ rfl; clear zA; go_simp; (try with_reducible rfl)
  try simp only [Act.put, List.setIfInBounds_toArray, List.set_cons_zero, List.set_cons_succ]
  refine stage_take (i := 11) (oi := { dst := some 38, op := Go.Op.move (Go.Operand.tmp 4), type := 3, pos := "btree.go:159", after := #[], guard := none }) (v := ?_) (T := fun _ => True) rfl (by kernel_rfl) (by kernel_rfl) (by kernel_rfl) (by kernel_rfl) (fun _ _ _ h => h) (fun L' w' hW hS => trivial) (fun L' w' hS => hS) (Or.inl ⟨by rfl, ?_⟩) trivial (hS0) ?_
  rotate_left 1
  · intro w9 _; go_simp; (try with_reducible rfl)
  try simp only [Act.put, List.setIfInBounds_toArray, List.set_cons_zero, List.set_cons_succ]
  refine stage_take (i := 12) (oi := { dst := some 39, op := Go.Op.slice 57 (Go.Operand.tmp 37) (some (Go.Operand.tmp 38)) none none, type := 57, pos := "btree.go:159", after := #[{ on := 10, ground := Go.Ground.data }, { on := 11, ground := Go.Ground.data }], guard := none }) (v := ?_) (T := fun _ => True) rfl (by kernel_rfl) (by kernel_rfl) (by kernel_rfl) (by kernel_rfl) (fun _ _ _ h => h) (fun L' w' hW hS => trivial) (fun L' w' hS => hS) (Or.inl ⟨by rfl, ?_⟩) trivial (hS0) ?_
  rotate_left 1
  · intro w9 _; go_simp; (try with_reducible rfl)
  try simp only [Act.put, List.setIfInBounds_toArray, List.set_cons_zero, List.set_cons_succ]
  refine stage_all (rs := [6]) (by kernel_rfl) (by simp) (fun i0 hi0 => ?_)
  obtain rfl : i0 = 6 := by simpa using hi0
  refine stage_step (S := fun (L' : Array Bool) (w' : World) => Box w' g [.slice (some ⟨gk, 0, none⟩) 5 kc, .slice (some ⟨gv, 0, none⟩) 5 vc, .slice IA 0 ic]) (o := { dst := some 33, op := Go.Op.call { callee := Go.Callee.value (Go.Operand.func 49), args := #[Go.Operand.tmp 32], argTypes := #[57] }, type := 57, pos := "btree.go:159", after := #[{ on := 5, ground := Go.Ground.data }], guard := none }) (by rfl) (fun K2 hK => ?_)
  go_simp
  go_wp2_with fail
  refine (HC1.out wd HF.out).mono ?_
  rintro e w5 ⟨kq, rfl, hown, hb⟩
  clear hS0
  have hkq := hown
  clear hown
  replace HB := Lib.hid (HB.out.step hb)
  have hz0 := hb.size
  replace HF := Lib.hid (below_step' HF.out hb)
  clear hb
  obtain ⟨B0, d0, rfl, _, _⟩ := own_slice hkq
  have hS0 : Box w5 g [.slice (some ⟨gk, 0, none⟩) 5 kc, .slice (some ⟨gv, 0, none⟩) 5 vc, .slice IA 0 ic] := HB.out
  refine hK.out _ _ (hS0) ?_
  clear hK K2
  try simp only [Act.put, List.setIfInBounds_toArray, List.set_cons_zero, List.set_cons_succ]
  refine stage_all (rs := [13]) (by kernel_rfl) (by simp) (fun i0 hi0 => ?_)
  obtain rfl : i0 = 13 := by simpa using hi0
  refine stage_step (S := fun (L' : Array Bool) (w' : World) => Box w' g [.slice (some ⟨gk, 0, none⟩) 5 kc, .slice (some ⟨gv, 0, none⟩) 5 vc, .slice IA 0 ic]) (o := { dst := some 40, op := Go.Op.call { callee := Go.Callee.value (Go.Operand.func 49), args := #[Go.Operand.tmp 39], argTypes := #[57] }, type := 57, pos := "btree.go:159", after := #[{ on := 12, ground := Go.Ground.data }, { on := 6, ground := Go.Ground.chain }], guard := none }) (by rfl) (fun K2 hK => ?_)
  go_simp
  go_wp2_with fail
  refine (HC2.out w5 HF.out).mono ?_
  rintro e w6 ⟨xq, rfl, hown, hb⟩
  clear hS0
  replace hkq := own_below hkq hb
  have hxq := hown
  clear hown
  replace HB := Lib.hid (HB.out.step hb)
  have hz1 := hb.size
  replace HF := Lib.hid (below_step' HF.out hb)
  clear hb
  obtain ⟨B1, d1, rfl, _, _⟩ := own_slice hxq
  have hS0 : Box w6 g [.slice (some ⟨gk, 0, none⟩) 5 kc, .slice (some ⟨gv, 0, none⟩) 5 vc, .slice IA 0 ic] := HB.out
  refine hK.out _ _ (hS0) ?_
  clear hK K2
  try simp only [Act.put, List.setIfInBounds_toArray, List.set_cons_zero, List.set_cons_succ]
  refine stage_take (i := 14) (oi := { dst := some 41, op := Go.Op.build 73 #[(0, Go.Operand.tmp 33), (1, Go.Operand.tmp 40)], type := 73, pos := "btree.go:159", after := #[{ on := 6, ground := Go.Ground.data }, { on := 13, ground := Go.Ground.data }], guard := none }) (v := ?_) (T := fun _ => True) rfl (by kernel_rfl) (by kernel_rfl) (by kernel_rfl) (by kernel_rfl) (fun _ _ _ h => h) (fun L' w' hW hS => trivial) (fun L' w' hS => hS) (Or.inl ⟨by rfl, ?_⟩) trivial (hS0) ?_
  rotate_left 1
  · intro w9 _; go_simp; (try with_reducible rfl)
  try simp only [Act.put, List.setIfInBounds_toArray, List.set_cons_zero, List.set_cons_succ]
  refine stage_all (rs := [15]) (by kernel_rfl) (by simp) (fun i0 hi0 => ?_)
  obtain rfl : i0 = 15 := by simpa using hi0
  refine stage_step (S := fun (L' : Array Bool) (w' : World) => Box w' g [.slice (some ⟨gk, 0, none⟩) 5 kc, .slice (some ⟨gv, 0, none⟩) 5 vc, .slice IA 0 ic]) (o := { dst := some 42, op := Go.Op.box 73 (Go.Operand.tmp 41), type := 67, pos := "btree.go:159", after := #[{ on := 14, ground := Go.Ground.data }], guard := none }) (by rfl) (fun K2 hK => ?_)
  go_simp
  have HN := Lib.hid (Box.new w6 #[.slice B0 3 d0, .slice B1 3 d1, .slice none 0 0] 73)
  replace HB := Lib.hid (HB.out.alloc (.cells #[.slice B0 3 d0, .slice B1 3 d1, .slice none 0 0] 73))
  have hb : Below w6.heap.size w6 (w6.alloc (.cells #[.slice B0 3 d0, .slice B1 3 d1, .slice none 0 0] 73)) := (Below.refl _ _).alloc (Nat.le_refl _) _
  replace hkq := own_below hkq hb
  replace hxq := own_below hxq hb
  replace HF := Lib.hid (below_step' HF.out hb)
  have hz2 : wd.heap.size ≤ w6.heap.size := Nat.le_trans hz0 hz1
  clear hS0 hb
  generalize w6.alloc (.cells #[.slice B0 3 d0, .slice B1 3 d1, .slice none 0 0] 73) = wa at *
  generalize w6.heap.size = g2 at *
  have hS0 : Box wa g [.slice (some ⟨gk, 0, none⟩) 5 kc, .slice (some ⟨gv, 0, none⟩) 5 vc, .slice IA 0 ic] := HB.out
  refine hK.out _ _ (hS0) ?_
  clear hK K2
  try simp only [Act.put, List.setIfInBounds_toArray, List.set_cons_zero, List.set_cons_succ]
  refine stage_all (rs := [16]) (by kernel_rfl) (by simp) (fun i0 hi0 => ?_)
  obtain rfl : i0 = 16 := by simpa using hi0
  refine stage_step (S := fun (L' : Array Bool) (w' : World) => Box w' g [.slice (some ⟨gk, 0, none⟩) 5 kc, .slice (some ⟨gv, 0, none⟩) 5 vc, .slice IA 0 ic]) (o := { dst := some 6, op := Go.Op.assign (Go.Operand.tmp 42), type := 67, pos := "btree.go:159", after := #[{ on := 15, ground := Go.Ground.data }, { on := 13, ground := Go.Ground.chain }, { on := 0, ground := Go.Ground.phase }, { on := 1, ground := Go.Ground.phase }, { on := 2, ground := Go.Ground.phase }, { on := 3, ground := Go.Ground.phase }, { on := 4, ground := Go.Ground.phase }, { on := 5, ground := Go.Ground.phase }, { on := 6, ground := Go.Ground.phase }, { on := 7, ground := Go.Ground.phase }, { on := 8, ground := Go.Ground.phase }, { on := 9, ground := Go.Ground.phase }, { on := 10, ground := Go.Ground.phase }, { on := 11, ground := Go.Ground.phase }, { on := 12, ground := Go.Ground.phase }, { on := 13, ground := Go.Ground.phase }, { on := 14, ground := Go.Ground.phase }, { on := 15, ground := Go.Ground.phase }], guard := none }) (by rfl) (fun K2 hK => ?_)
  go_simp
  refine hK.out _ _ (hS0) ?_
  clear hK K2
  try simp only [Act.put, List.setIfInBounds_toArray, List.set_cons_zero, List.set_cons_succ]
  refine stage_done (by kernel_rfl) ?_ _
  go_upto_region 5 with (fail)
  refine stage_begin (S := fun (L' : Array Bool) (w' : World) => (L'.getD 18 false = false → w'.cell? ⟨g, 0, none⟩ = some (.slice (some ⟨gk, 0, none⟩) 5 kc)) ∧ (L'.getD 21 false = false → w'.cell? ⟨g, 1, none⟩ = some (.slice (some ⟨gv, 0, none⟩) 5 vc))) (by kernel_rfl) ?_
  replace HB := Lib.hid HB.out.drew
  replace HN := Lib.hid HN.out.drew
  have hbd : Below wa.heap.size wa wa.drew := below_drewN (Below.refl _ _) 1
  replace hkq := own_below hkq hbd
  replace hxq := own_below hxq hbd
  replace HF := Lib.hid (below_step' HF.out hbd)
  clear hbd
  generalize wa.drew = wb at *
  have hS0 : wb.cell? ⟨g, 0, none⟩ = some (.slice (some ⟨gk, 0, none⟩) 5 kc) := HB.out.c 0 _ rfl
  have hS1 : wb.cell? ⟨g, 1, none⟩ = some (.slice (some ⟨gv, 0, none⟩) 5 vc) := HB.out.c 1 _ rfl
  refine stage_take (i := 0) (oi := { dst := some 43, op := Go.Op.move (Go.Operand.tmp 0), type := 67, pos := "btree.go:160", after := #[], guard := none }) (v := ?_) (T := fun _ => True) rfl (by kernel_rfl) (by kernel_rfl) (by kernel_rfl) (by kernel_rfl) (fun _ _ _ h => h) (fun L' w' hW hS => trivial) (fun L' w' hS => ⟨fun h => hS.1 (by rw [getD_set_ne false (by decide)]; exact h), fun h => hS.2 (by rw [getD_set_ne false (by decide)]; exact h)⟩) (Or.inl ⟨by rfl, ?_⟩) trivial (⟨fun _ => hS0, fun _ => hS1⟩) ?_
  rotate_left 1
  · intro w9 _; go_simp; (try with_reducible rfl)
  try simp only [Act.put, List.setIfInBounds_toArray, List.set_cons_zero, List.set_cons_succ]
  refine stage_take (i := 1) (oi := { dst := some 44, op := Go.Op.move (Go.Operand.tmp 0), type := 67, pos := "btree.go:160", after := #[{ on := 18, ground := Go.Ground.gcOnly Go.Departure.lateStores }], guard := none }) (v := ?_) (T := fun _ => True) rfl (by kernel_rfl) (by kernel_rfl) (by kernel_rfl) (by kernel_rfl) (fun _ _ _ h => h) (fun L' w' hW hS => trivial) (fun L' w' hS => ⟨fun h => hS.1 (by rw [getD_set_ne false (by decide)]; exact h), fun h => hS.2 (by rw [getD_set_ne false (by decide)]; exact h)⟩) (Or.inl ⟨by rfl, ?_⟩) trivial (⟨fun _ => hS0, fun _ => hS1⟩) ?_
  rotate_left 1
  · intro w9 _; go_simp; (try with_reducible rfl)
  try simp only [Act.put, List.setIfInBounds_toArray, List.set_cons_zero, List.set_cons_succ]
  refine stage_take (i := 2) (oi := { dst := some 45, op := Go.Op.move (Go.Operand.tmp 0), type := 67, pos := "btree.go:160", after := #[], guard := none }) (v := ?_) (T := fun _ => True) rfl (by kernel_rfl) (by kernel_rfl) (by kernel_rfl) (by kernel_rfl) (fun _ _ _ h => h) (fun L' w' hW hS => trivial) (fun L' w' hS => ⟨fun h => hS.1 (by rw [getD_set_ne false (by decide)]; exact h), fun h => hS.2 (by rw [getD_set_ne false (by decide)]; exact h)⟩) (Or.inl ⟨by rfl, ?_⟩) trivial (⟨fun _ => hS0, fun _ => hS1⟩) ?_
  rotate_left 1
  · intro w9 _; go_simp; (try with_reducible rfl)
  try simp only [Act.put, List.setIfInBounds_toArray, List.set_cons_zero, List.set_cons_succ]
  refine stage_take (i := 3) (oi := { dst := some 46, op := Go.Op.nilCheck (Go.Operand.tmp 45), type := 0, pos := "btree.go:160", after := #[{ on := 2, ground := Go.Ground.data }], guard := none }) (v := ?_) (T := fun _ => True) rfl (by kernel_rfl) (by kernel_rfl) (by kernel_rfl) (by kernel_rfl) (fun _ _ _ h => h) (fun L' w' hW hS => trivial) (fun L' w' hS => ⟨fun h => hS.1 (by rw [getD_set_ne false (by decide)]; exact h), fun h => hS.2 (by rw [getD_set_ne false (by decide)]; exact h)⟩) (Or.inl ⟨by rfl, ?_⟩) trivial (⟨fun _ => hS0, fun _ => hS1⟩) ?_
  rotate_left 1
  · intro w9 _; go_simp; (try with_reducible rfl)
  try simp only [Act.put, List.setIfInBounds_toArray, List.set_cons_zero, List.set_cons_succ]
  refine stage_take (i := 4) (oi := { dst := some 47, op := Go.Op.fieldAddr 73 (Go.Operand.tmp 46) 0, type := 0, pos := "btree.go:160", after := #[{ on := 3, ground := Go.Ground.data }], guard := none }) (v := ?_) (T := fun _ => True) rfl (by kernel_rfl) (by kernel_rfl) (by kernel_rfl) (by kernel_rfl) (fun _ _ _ h => h) (fun L' w' hW hS => trivial) (fun L' w' hS => ⟨fun h => hS.1 (by rw [getD_set_ne false (by decide)]; exact h), fun h => hS.2 (by rw [getD_set_ne false (by decide)]; exact h)⟩) (Or.inl ⟨by rfl, ?_⟩) trivial (⟨fun _ => hS0, fun _ => hS1⟩) ?_
  rotate_left 1
  · intro w9 _; go_simp; (try with_reducible rfl)
  try simp only [Act.put, List.setIfInBounds_toArray, List.set_cons_zero, List.set_cons_succ]
  refine stage_take (i := 5) (oi := { dst := some 48, op := Go.Op.load 57 (Go.Operand.tmp 47), type := 57, pos := "btree.go:160", after := #[{ on := 4, ground := Go.Ground.data }], guard := none }) (v := ?_) (T := fun w' : World => w'.cell? ⟨g, 0, none⟩ = some (.slice (some ⟨gk, 0, none⟩) 5 kc)) rfl (by kernel_rfl) (by kernel_rfl) (by kernel_rfl) (by kernel_rfl) (fun _ _ _ h => h) (fun L' w' hW hS => hS.1 (not_yet hW (by kernel_rfl))) (fun L' w' hS => ⟨fun h => hS.1 (by rw [getD_set_ne false (by decide)]; exact h), fun h => hS.2 (by rw [getD_set_ne false (by decide)]; exact h)⟩) (Or.inl ⟨by rfl, ?_⟩) (hS0) (⟨fun _ => hS0, fun _ => hS1⟩) ?_
  rotate_left 1
  · intro w9 zA; go_simp; (try with_reducible rfl)
  try simp only [Act.put, List.setIfInBounds_toArray, List.set_cons_zero, List.set_cons_succ]
  refine stage_take (i := 6) (oi := { dst := some 49, op := Go.Op.move (Go.Operand.tmp 4), type := 3, pos := "btree.go:160", after := #[], guard := none }) (v := ?_) (T := fun _ => True) rfl (by kernel_rfl) (by kernel_rfl) (by kernel_rfl) (by kernel_rfl) (fun _ _ _ h => h) (fun L' w' hW hS => trivial) (fun L' w' hS => ⟨fun h => hS.1 (by rw [getD_set_ne false (by decide)]; exact h), fun h => hS.2 (by rw [getD_set_ne false (by decide)]; exact h)⟩) (Or.inl ⟨by rfl, ?_⟩) trivial (⟨fun _ => hS0, fun _ => hS1⟩) ?_
  rotate_left 1
  · intro w9 _; go_simp; (try with_reducible rfl)
  try simp only [Act.put, List.setIfInBounds_toArray, List.set_cons_zero, List.set_cons_succ]
  refine stage_take (i := 7) (oi := { dst := some 50, op := Go.Op.move (Go.Operand.tmp 4), type := 3, pos := "btree.go:160", after := #[], guard := none }) (v := ?_) (T := fun _ => True) rfl (by kernel_rfl) (by kernel_rfl) (by kernel_rfl) (by kernel_rfl) (fun _ _ _ h => h) (fun L' w' hW hS => trivial) (fun L' w' hS => ⟨fun h => hS.1 (by rw [getD_set_ne false (by decide)]; exact h), fun h => hS.2 (by rw [getD_set_ne false (by decide)]; exact h)⟩) (Or.inl ⟨by rfl, ?_⟩) trivial (⟨fun _ => hS0, fun _ => hS1⟩) ?_
  rotate_left 1
  · intro w9 _; go_simp; (try with_reducible rfl)
  try simp only [Act.put, List.setIfInBounds_toArray, List.set_cons_zero, List.set_cons_succ]
  refine stage_take (i := 8) (oi := { dst := some 51, op := Go.Op.slice 57 (Go.Operand.tmp 48) none (some (Go.Operand.tmp 49)) (some (Go.Operand.tmp 50)), type := 57, pos := "btree.go:160", after := #[{ on := 5, ground := Go.Ground.data }, { on := 6, ground := Go.Ground.data }, { on := 7, ground := Go.Ground.data }], guard := none }) (v := ?_) (T := fun _ => True) rfl (by kernel_rfl) (by kernel_rfl) (by kernel_rfl) (by kernel_rfl) (fun _ _ _ h => h) (fun L' w' hW hS => trivial) (fun L' w' hS => ⟨fun h => hS.1 (by rw [getD_set_ne false (by decide)]; exact h), fun h => hS.2 (by rw [getD_set_ne false (by decide)]; exact h)⟩) (Or.inl ⟨by rfl, ?_⟩) trivial (⟨fun _ => hS0, fun _ => hS1⟩) ?_
  rotate_left 1
  · intro w9 _; go_simp; (try with_reducible rfl)
  try simp only [Act.put, List.setIfInBounds_toArray, List.set_cons_zero, List.set_cons_succ]
  refine stage_take (i := 9) (oi := { dst := some 52, op := Go.Op.move (Go.Operand.tmp 0), type := 67, pos := "btree.go:160", after := #[], guard := none }) (v := ?_) (T := fun _ => True) rfl (by kernel_rfl) (by kernel_rfl) (by kernel_rfl) (by kernel_rfl) (fun _ _ _ h => h) (fun L' w' hW hS => trivial) (fun L' w' hS => ⟨fun h => hS.1 (by rw [getD_set_ne false (by decide)]; exact h), fun h => hS.2 (by rw [getD_set_ne false (by decide)]; exact h)⟩) (Or.inl ⟨by rfl, ?_⟩) trivial (⟨fun _ => hS0, fun _ => hS1⟩) ?_
  rotate_left 1
  · intro w9 _; go_simp; (try with_reducible rfl)
  try simp only [Act.put, List.setIfInBounds_toArray, List.set_cons_zero, List.set_cons_succ]
  refine stage_take (i := 10) (oi := { dst := some 53, op := Go.Op.nilCheck (Go.Operand.tmp 52), type := 0, pos := "btree.go:160", after := #[{ on := 9, ground := Go.Ground.data }], guard := none }) (v := ?_) (T := fun _ => True) rfl (by kernel_rfl) (by kernel_rfl) (by kernel_rfl) (by kernel_rfl) (fun _ _ _ h => h) (fun L' w' hW hS => trivial) (fun L' w' hS => ⟨fun h => hS.1 (by rw [getD_set_ne false (by decide)]; exact h), fun h => hS.2 (by rw [getD_set_ne false (by decide)]; exact h)⟩) (Or.inl ⟨by rfl, ?_⟩) trivial (⟨fun _ => hS0, fun _ => hS1⟩) ?_
  rotate_left 1
  · intro w9 _; go_simp; (try with_reducible rfl)
  try simp only [Act.put, List.setIfInBounds_toArray, List.set_cons_zero, List.set_cons_succ]
  refine stage_take (i := 11) (oi := { dst := some 54, op := Go.Op.fieldAddr 73 (Go.Operand.tmp 53) 1, type := 0, pos := "btree.go:160", after := #[{ on := 10, ground := Go.Ground.data }], guard := none }) (v := ?_) (T := fun _ => True) rfl (by kernel_rfl) (by kernel_rfl) (by kernel_rfl) (by kernel_rfl) (fun _ _ _ h => h) (fun L' w' hW hS => trivial) (fun L' w' hS => ⟨fun h => hS.1 (by rw [getD_set_ne false (by decide)]; exact h), fun h => hS.2 (by rw [getD_set_ne false (by decide)]; exact h)⟩) (Or.inl ⟨by rfl, ?_⟩) trivial (⟨fun _ => hS0, fun _ => hS1⟩) ?_
  rotate_left 1
  · intro w9 _; go_simp; (try with_reducible rfl)
  try simp only [Act.put, List.setIfInBounds_toArray, List.set_cons_zero, List.set_cons_succ]
  refine stage_take (i := 12) (oi := { dst := some 55, op := Go.Op.load 57 (Go.Operand.tmp 54), type := 57, pos := "btree.go:160", after := #[{ on := 11, ground := Go.Ground.data }], guard := none }) (v := ?_) (T := fun w' : World => w'.cell? ⟨g, 1, none⟩ = some (.slice (some ⟨gv, 0, none⟩) 5 vc)) rfl (by kernel_rfl) (by kernel_rfl) (by kernel_rfl) (by kernel_rfl) (fun _ _ _ h => h) (fun L' w' hW hS => hS.2 (not_yet hW (by kernel_rfl))) (fun L' w' hS => ⟨fun h => hS.1 (by rw [getD_set_ne false (by decide)]; exact h), fun h => hS.2 (by rw [getD_set_ne false (by decide)]; exact h)⟩) (Or.inl ⟨by rfl, ?_⟩) (hS1) (⟨fun _ => hS0, fun _ => hS1⟩) ?_
  rotate_left 1
  · intro w9 zA; go_simp; (try with_reducible rfl)
  try simp only [Act.put, List.setIfInBounds_toArray, List.set_cons_zero, List.set_cons_succ]
  refine stage_take (i := 13) (oi := { dst := some 56, op := Go.Op.move (Go.Operand.tmp 4), type := 3, pos := "btree.go:160", after := #[], guard := none }) (v := ?_) (T := fun _ => True) rfl (by kernel_rfl) (by kernel_rfl) (by kernel_rfl) (by kernel_rfl) (fun _ _ _ h => h) (fun L' w' hW hS => trivial) (fun L' w' hS => ⟨fun h => hS.1 (by rw [getD_set_ne false (by decide)]; exact h), fun h => hS.2 (by rw [getD_set_ne false (by decide)]; exact h)⟩) (Or.inl ⟨by rfl, ?_⟩) trivial (⟨fun _ => hS0, fun _ => hS1⟩) ?_
  rotate_left 1
  · intro w9 _; go_simp; (try with_reducible rfl)
  try simp only [Act.put, List.setIfInBounds_toArray, List.set_cons_zero, List.set_cons_succ]
  refine stage_take (i := 14) (oi := { dst := some 57, op := Go.Op.move (Go.Operand.tmp 4), type := 3, pos := "btree.go:160", after := #[], guard := none }) (v := ?_) (T := fun _ => True) rfl (by kernel_rfl) (by kernel_rfl) (by kernel_rfl) (by kernel_rfl) (fun _ _ _ h => h) (fun L' w' hW hS => trivial) (fun L' w' hS => ⟨fun h => hS.1 (by rw [getD_set_ne false (by decide)]; exact h), fun h => hS.2 (by rw [getD_set_ne false (by decide)]; exact h)⟩) (Or.inl ⟨by rfl, ?_⟩) trivial (⟨fun _ => hS0, fun _ => hS1⟩) ?_
  rotate_left 1
  · intro w9 _; go_simp; (try with_reducible rfl)
  try simp only [Act.put, List.setIfInBounds_toArray, List.set_cons_zero, List.set_cons_succ]
  refine stage_take (i := 15) (oi := { dst := some 58, op := Go.Op.slice 57 (Go.Operand.tmp 55) none (some (Go.Operand.tmp 56)) (some (Go.Operand.tmp 57)), type := 57, pos := "btree.go:160", after := #[{ on := 12, ground := Go.Ground.data }, { on := 13, ground := Go.Ground.data }, { on := 14, ground := Go.Ground.data }], guard := none }) (v := ?_) (T := fun _ => True) rfl (by kernel_rfl) (by kernel_rfl) (by kernel_rfl) (by kernel_rfl) (fun _ _ _ h => h) (fun L' w' hW hS => trivial) (fun L' w' hS => ⟨fun h => hS.1 (by rw [getD_set_ne false (by decide)]; exact h), fun h => hS.2 (by rw [getD_set_ne false (by decide)]; exact h)⟩) (Or.inl ⟨by rfl, ?_⟩) trivial (⟨fun _ => hS0, fun _ => hS1⟩) ?_
  rotate_left 1
  · intro w9 _; go_simp; (try with_reducible rfl)
  try simp only [Act.put, List.setIfInBounds_toArray, List.set_cons_zero, List.set_cons_succ]
  refine stage_all (rs := [16]) (by kernel_rfl) (by simp) (fun i0 hi0 => ?_)
  obtain rfl : i0 = 16 := by simpa using hi0
  refine stage_step (S := fun (L' : Array Bool) (w' : World) => (L'.getD 18 false = false → w'.cell? ⟨g, 0, none⟩ = some (.slice (some ⟨gk, 0, none⟩) 5 kc)) ∧ (L'.getD 21 false = false → w'.cell? ⟨g, 1, none⟩ = some (.slice (some ⟨gv, 0, none⟩) 5 vc))) (o := { dst := some 59, op := Go.Op.nilCheck (Go.Operand.tmp 43), type := 0, pos := "btree.go:160", after := #[{ on := 0, ground := Go.Ground.data }, { on := 0, ground := Go.Ground.phase }, { on := 1, ground := Go.Ground.textOnly Go.Departure.lateStores }, { on := 2, ground := Go.Ground.phase }, { on := 3, ground := Go.Ground.phase }, { on := 4, ground := Go.Ground.phase }, { on := 5, ground := Go.Ground.phase }, { on := 6, ground := Go.Ground.phase }, { on := 7, ground := Go.Ground.phase }, { on := 8, ground := Go.Ground.phase }, { on := 9, ground := Go.Ground.textOnly Go.Departure.lateStores }, { on := 10, ground := Go.Ground.textOnly Go.Departure.lateStoresUnsure }, { on := 11, ground := Go.Ground.textOnly Go.Departure.lateStoresUnsure }, { on := 12, ground := Go.Ground.phase }, { on := 13, ground := Go.Ground.textOnly Go.Departure.lateStores }, { on := 14, ground := Go.Ground.textOnly Go.Departure.lateStores }, { on := 15, ground := Go.Ground.textOnly Go.Departure.lateStoresUnsure }], guard := none }) (by rfl) (fun K2 hK => ?_)
  go_simp
  refine hK.out _ _ (⟨fun _ => hS0, fun _ => hS1⟩) ?_
  clear hK K2
  try simp only [Act.put, List.setIfInBounds_toArray, List.set_cons_zero, List.set_cons_succ]
  refine stage_all (rs := [17]) (by kernel_rfl) (by simp) (fun i0 hi0 => ?_)
  obtain rfl : i0 = 17 := by simpa using hi0
  refine stage_step (S := fun (L' : Array Bool) (w' : World) => (L'.getD 18 false = false → w'.cell? ⟨g, 0, none⟩ = some (.slice (some ⟨gk, 0, none⟩) 5 kc)) ∧ (L'.getD 21 false = false → w'.cell? ⟨g, 1, none⟩ = some (.slice (some ⟨gv, 0, none⟩) 5 vc))) (o := { dst := some 60, op := Go.Op.fieldAddr 73 (Go.Operand.tmp 59) 0, type := 0, pos := "btree.go:160", after := #[{ on := 16, ground := Go.Ground.data }, { on := 0, ground := Go.Ground.phase }, { on := 1, ground := Go.Ground.textOnly Go.Departure.lateStores }, { on := 2, ground := Go.Ground.phase }, { on := 3, ground := Go.Ground.phase }, { on := 4, ground := Go.Ground.phase }, { on := 5, ground := Go.Ground.phase }, { on := 6, ground := Go.Ground.phase }, { on := 7, ground := Go.Ground.phase }, { on := 8, ground := Go.Ground.phase }, { on := 9, ground := Go.Ground.textOnly Go.Departure.lateStores }, { on := 10, ground := Go.Ground.textOnly Go.Departure.lateStoresUnsure }, { on := 11, ground := Go.Ground.textOnly Go.Departure.lateStoresUnsure }, { on := 12, ground := Go.Ground.phase }, { on := 13, ground := Go.Ground.textOnly Go.Departure.lateStores }, { on := 14, ground := Go.Ground.textOnly Go.Departure.lateStores }, { on := 15, ground := Go.Ground.textOnly Go.Departure.lateStoresUnsure }], guard := none }) (by rfl) (fun K2 hK => ?_)
  go_simp
  refine hK.out _ _ (⟨fun _ => hS0, fun _ => hS1⟩) ?_
  clear hK K2
  try simp only [Act.put, List.setIfInBounds_toArray, List.set_cons_zero, List.set_cons_succ]
  have cHB0 := HB.out.c 0 _ rfl; have fHB0 := HB.out.f 0 (by simp); have cHB1 := HB.out.c 1 _ rfl; have fHB1 := HB.out.f 1 (by simp); have cHB2 := HB.out.c 2 _ rfl; have fHB2 := HB.out.f 2 (by simp); have lHB := HB.out.lt
  refine stage_all (rs := [18]) (by kernel_rfl) (by simp) (fun i0 hi0 => ?_)
  obtain rfl : i0 = 18 := by simpa using hi0
  refine stage_step (S := fun (L' : Array Bool) (w' : World) => (L'.getD 18 false = false → w'.cell? ⟨g, 0, none⟩ = some (.slice (some ⟨gk, 0, none⟩) 5 kc)) ∧ (L'.getD 21 false = false → w'.cell? ⟨g, 1, none⟩ = some (.slice (some ⟨gv, 0, none⟩) 5 vc))) (o := { dst := none, op := Go.Op.store 57 (Go.Operand.tmp 60) (Go.Operand.tmp 51), type := 0, pos := "btree.go:160", after := #[{ on := 17, ground := Go.Ground.data }, { on := 8, ground := Go.Ground.data }, { on := 0, ground := Go.Ground.phase }, { on := 1, ground := Go.Ground.textOnly Go.Departure.lateStores }, { on := 2, ground := Go.Ground.phase }, { on := 3, ground := Go.Ground.phase }, { on := 4, ground := Go.Ground.phase }, { on := 5, ground := Go.Ground.phase }, { on := 6, ground := Go.Ground.phase }, { on := 7, ground := Go.Ground.phase }, { on := 8, ground := Go.Ground.phase }, { on := 9, ground := Go.Ground.textOnly Go.Departure.lateStores }, { on := 10, ground := Go.Ground.textOnly Go.Departure.lateStoresUnsure }, { on := 11, ground := Go.Ground.textOnly Go.Departure.lateStoresUnsure }, { on := 12, ground := Go.Ground.phase }, { on := 13, ground := Go.Ground.textOnly Go.Departure.lateStores }, { on := 14, ground := Go.Ground.textOnly Go.Departure.lateStores }, { on := 15, ground := Go.Ground.textOnly Go.Departure.lateStoresUnsure }], guard := none }) (by rfl) (fun K2 hK => ?_)
  go_simp
  clear cHB0 fHB0 cHB1 fHB1 cHB2 fHB2 lHB
  have hB9 := HB.out.set 0 (.slice (some ⟨gk, 0, none⟩) 2 2) (by simp)
  have hN9 := HN.out.other ⟨g, 0, none⟩ (.slice (some ⟨gk, 0, none⟩) 2 2) (by simp; omega)
  have hk9 := own_set hkq ⟨g, 0, none⟩ (.slice (some ⟨gk, 0, none⟩) 2 2) (by simp; omega)
  have hx9 := own_set hxq ⟨g, 0, none⟩ (.slice (some ⟨gk, 0, none⟩) 2 2) (by simp; omega)
  have hK9 := (Kept.of_below (B := fun k => k = g) HF.out (Nat.le_refl _)).set ⟨g, 0, none⟩ (.slice (some ⟨gk, 0, none⟩) 2 2) (.inr rfl)
  have HBn : Hid (Box (wb.setCell ⟨g, 0, none⟩ (.slice (some ⟨gk, 0, none⟩) 2 2)) g [.slice (some ⟨gk, 0, none⟩) 2 2, .slice (some ⟨gv, 0, none⟩) 5 vc, .slice IA 0 ic]) := Lib.hid hB9
  clear HB
  have HB := HBn
  replace HN := Lib.hid hN9
  replace hkq := hk9
  replace hxq := hx9
  have HK := Lib.hid hK9
  clear HBn hB9 hN9 hk9 hx9 hK9 hS0 hS1
  generalize (wb.setCell ⟨g, 0, none⟩ (.slice (some ⟨gk, 0, none⟩) 2 2)) = wc0 at *
  have hS1 : wc0.cell? ⟨g, 1, none⟩ = some (.slice (some ⟨gv, 0, none⟩) 5 vc) := HB.out.c 1 _ rfl
  refine hK.out _ _ (⟨fun h => by simp at h, fun _ => hS1⟩) ?_
  clear hK K2
  try simp only [Act.put, List.setIfInBounds_toArray, List.set_cons_zero, List.set_cons_succ]
  refine stage_all (rs := [19]) (by kernel_rfl) (by simp) (fun i0 hi0 => ?_)
  obtain rfl : i0 = 19 := by simpa using hi0
  refine stage_step (S := fun (L' : Array Bool) (w' : World) => (L'.getD 18 false = false → w'.cell? ⟨g, 0, none⟩ = some (.slice (some ⟨gk, 0, none⟩) 5 kc)) ∧ (L'.getD 21 false = false → w'.cell? ⟨g, 1, none⟩ = some (.slice (some ⟨gv, 0, none⟩) 5 vc))) (o := { dst := some 61, op := Go.Op.nilCheck (Go.Operand.tmp 44), type := 0, pos := "btree.go:160", after := #[{ on := 1, ground := Go.Ground.data }, { on := 0, ground := Go.Ground.phase }, { on := 1, ground := Go.Ground.phase }, { on := 2, ground := Go.Ground.phase }, { on := 3, ground := Go.Ground.phase }, { on := 4, ground := Go.Ground.phase }, { on := 5, ground := Go.Ground.phase }, { on := 6, ground := Go.Ground.phase }, { on := 7, ground := Go.Ground.phase }, { on := 8, ground := Go.Ground.phase }, { on := 9, ground := Go.Ground.phase }, { on := 10, ground := Go.Ground.phase }, { on := 11, ground := Go.Ground.phase }, { on := 12, ground := Go.Ground.phase }, { on := 13, ground := Go.Ground.phase }, { on := 14, ground := Go.Ground.phase }, { on := 15, ground := Go.Ground.phase }, { on := 16, ground := Go.Ground.phase }, { on := 17, ground := Go.Ground.phase }, { on := 18, ground := Go.Ground.phase }], guard := none }) (by rfl) (fun K2 hK => ?_)
  go_simp
  refine hK.out _ _ (⟨fun h => by simp at h, fun _ => hS1⟩) ?_
  clear hK K2
  try simp only [Act.put, List.setIfInBounds_toArray, List.set_cons_zero, List.set_cons_succ]
  refine stage_all (rs := [20]) (by kernel_rfl) (by simp) (fun i0 hi0 => ?_)
  obtain rfl : i0 = 20 := by simpa using hi0
  refine stage_step (S := fun (L' : Array Bool) (w' : World) => (L'.getD 18 false = false → w'.cell? ⟨g, 0, none⟩ = some (.slice (some ⟨gk, 0, none⟩) 5 kc)) ∧ (L'.getD 21 false = false → w'.cell? ⟨g, 1, none⟩ = some (.slice (some ⟨gv, 0, none⟩) 5 vc))) (o := { dst := some 62, op := Go.Op.fieldAddr 73 (Go.Operand.tmp 61) 1, type := 0, pos := "btree.go:160", after := #[{ on := 19, ground := Go.Ground.data }, { on := 0, ground := Go.Ground.phase }, { on := 1, ground := Go.Ground.phase }, { on := 2, ground := Go.Ground.phase }, { on := 3, ground := Go.Ground.phase }, { on := 4, ground := Go.Ground.phase }, { on := 5, ground := Go.Ground.phase }, { on := 6, ground := Go.Ground.phase }, { on := 7, ground := Go.Ground.phase }, { on := 8, ground := Go.Ground.phase }, { on := 9, ground := Go.Ground.phase }, { on := 10, ground := Go.Ground.phase }, { on := 11, ground := Go.Ground.phase }, { on := 12, ground := Go.Ground.phase }, { on := 13, ground := Go.Ground.phase }, { on := 14, ground := Go.Ground.phase }, { on := 15, ground := Go.Ground.phase }, { on := 16, ground := Go.Ground.phase }, { on := 17, ground := Go.Ground.phase }, { on := 18, ground := Go.Ground.phase }], guard := none }) (by rfl) (fun K2 hK => ?_)
  go_simp
  refine hK.out _ _ (⟨fun h => by simp at h, fun _ => hS1⟩) ?_
  clear hK K2
  try simp only [Act.put, List.setIfInBounds_toArray, List.set_cons_zero, List.set_cons_succ]
  have cHB0 := HB.out.c 0 _ rfl; have fHB0 := HB.out.f 0 (by simp); have cHB1 := HB.out.c 1 _ rfl; have fHB1 := HB.out.f 1 (by simp); have cHB2 := HB.out.c 2 _ rfl; have fHB2 := HB.out.f 2 (by simp); have lHB := HB.out.lt
  refine stage_all (rs := [21]) (by kernel_rfl) (by simp) (fun i0 hi0 => ?_)
  obtain rfl : i0 = 21 := by simpa using hi0
  refine stage_step (S := fun (L' : Array Bool) (w' : World) => (L'.getD 18 false = false → w'.cell? ⟨g, 0, none⟩ = some (.slice (some ⟨gk, 0, none⟩) 5 kc)) ∧ (L'.getD 21 false = false → w'.cell? ⟨g, 1, none⟩ = some (.slice (some ⟨gv, 0, none⟩) 5 vc))) (o := { dst := none, op := Go.Op.store 57 (Go.Operand.tmp 62) (Go.Operand.tmp 58), type := 0, pos := "btree.go:160", after := #[{ on := 20, ground := Go.Ground.data }, { on := 15, ground := Go.Ground.data }, { on := 18, ground := Go.Ground.chain }, { on := 0, ground := Go.Ground.phase }, { on := 1, ground := Go.Ground.phase }, { on := 2, ground := Go.Ground.phase }, { on := 3, ground := Go.Ground.phase }, { on := 4, ground := Go.Ground.phase }, { on := 5, ground := Go.Ground.phase }, { on := 6, ground := Go.Ground.phase }, { on := 7, ground := Go.Ground.phase }, { on := 8, ground := Go.Ground.phase }, { on := 9, ground := Go.Ground.phase }, { on := 10, ground := Go.Ground.phase }, { on := 11, ground := Go.Ground.phase }, { on := 12, ground := Go.Ground.phase }, { on := 13, ground := Go.Ground.phase }, { on := 14, ground := Go.Ground.phase }, { on := 15, ground := Go.Ground.phase }, { on := 16, ground := Go.Ground.phase }, { on := 17, ground := Go.Ground.phase }, { on := 18, ground := Go.Ground.phase }], guard := none }) (by rfl) (fun K2 hK => ?_)
  go_simp
  clear cHB0 fHB0 cHB1 fHB1 cHB2 fHB2 lHB
  have hB9 := HB.out.set 1 (.slice (some ⟨gv, 0, none⟩) 2 2) (by simp)
  have hN9 := HN.out.other ⟨g, 1, none⟩ (.slice (some ⟨gv, 0, none⟩) 2 2) (by simp; omega)
  have hk9 := own_set hkq ⟨g, 1, none⟩ (.slice (some ⟨gv, 0, none⟩) 2 2) (by simp; omega)
  have hx9 := own_set hxq ⟨g, 1, none⟩ (.slice (some ⟨gv, 0, none⟩) 2 2) (by simp; omega)
  have hK9 := HK.out.set ⟨g, 1, none⟩ (.slice (some ⟨gv, 0, none⟩) 2 2) (.inr rfl)
  have HBn : Hid (Box (wc0.setCell ⟨g, 1, none⟩ (.slice (some ⟨gv, 0, none⟩) 2 2)) g [.slice (some ⟨gk, 0, none⟩) 2 2, .slice (some ⟨gv, 0, none⟩) 2 2, .slice IA 0 ic]) := Lib.hid hB9
  clear HB
  have HB := HBn
  replace HN := Lib.hid hN9
  replace hkq := hk9
  replace hxq := hx9
  replace HK := Lib.hid hK9
  clear HBn hB9 hN9 hk9 hx9 hK9
  generalize (wc0.setCell ⟨g, 1, none⟩ (.slice (some ⟨gv, 0, none⟩) 2 2)) = wc1 at *
  clear hS1
  refine hK.out _ _ (⟨fun h => by simp at h, fun h => by simp at h⟩) ?_
  clear hK K2
  try simp only [Act.put, List.setIfInBounds_toArray, List.set_cons_zero, List.set_cons_succ]
  refine stage_done (by kernel_rfl) ?_ _
  go_wp2_with fail
  go_ret2
  have hsp : splitT (.mk [k0, k1, k2, k3, k4] [v0, v1, v2, v3, v4] []) = (k2, .mk [k0, k1] [v0, v1] [], .mk [k2, k3, k4] [v2, v3, v4] []) := by simp [splitT]
  rw [hsp]
  refine ⟨g2, rfl, ?_, ?_, Nat.le_trans hzd hz2, HK.out⟩
  · show RdT _ _ g (.mk [k0, k1] [v0, v1] [])
    unfold RdT
    exact ⟨_, _, _, [], HB.out, ((HKR.out.kept HK.out (fun k hk h => HAP.out.1 (hk ▸ h))).take_own 2 (by simp)).mono (fun b _ h => .inl (HPK.out b h)), ((HVR.out.kept HK.out (fun k hk h => HAP.out.2.1 (hk ▸ h))).take_own 2 (by simp)).mono (fun b _ h => .inl (HPV.out b h)), (HIR.out.kept HK.out (fun k hk h => HAP.out.2.2.2.1 (hk ▸ h))).mono (fun b _ h => .inl (HPI.out b h)), .inl hPg, by unfold RdsT; rfl⟩
  · show RdT _ _ g2 (.mk [k2, k3, k4] [v2, v3, v4] [])
    unfold RdT
    exact ⟨_, _, _, [], HN.out, (RowP.of_own encS_len hkq (fun b hb => .inr (Nat.le_trans hzd ((hkq.lt b hb).1)))), (RowP.of_own encS_len hxq (fun b hb => .inr (Nat.le_trans hzd (Nat.le_trans hz0 (hxq.lt b hb).1)))), RowP.nil, .inr (Nat.le_trans hzd hz2), by unfold RdsT; rfl⟩
set_option maxHeartbeats 2000000 in
set_option maxRecDepth 100000 in
theorem split_node (P : Nat → Prop) (g : Nat) (ks vs : List ByteArray) (ts : List Tr) (w : World) (hT : TopAt w P g (.mk ks vs ts)) (hl : ks.length = 5) (h0 : ts.length = 6) (hv0 : vs = []) :
    Calls Try.prog 31 #[.pointer (some ⟨g, 0, none⟩)] w fun e w' => ∃ g2, e = .returned (.tuple #[.string (splitT (.mk ks vs ts)).1, .pointer (some ⟨g2, 0, none⟩)]) ∧ RdT w' (AndNew P w) g (splitT (.mk ks vs ts)).2.1 ∧ RdT w' (AndNew P w) g2 (splitT (.mk ks vs ts)).2.2 ∧ w.heap.size ≤ g2 ∧ Kept w.heap.size (fun k => k = g) w w' := by
  obtain ⟨kv, vv, iv, ps, hB, hk, hv, hi, hPg, hA, hRds⟩ := hT
  subst hv0
  have hpl := hRds.len
  rw [h0] at hpl
  obtain ⟨k0, k1, k2, k3, k4, rfl⟩ : ∃ a b c d e, ks = [a, b, c, d, e] := by
    match ks, hl with
    | [a, b, c, d, e], _ => exact ⟨a, b, c, d, e, rfl⟩
  clear hl
  obtain ⟨p0, p1, p2, p3, p4, p5, rfl⟩ : ∃ a b c d e f, ps = [a, b, c, d, e, f] := by
    match ps, hpl with
    | [a, b, c, d, e, f], _ => exact ⟨a, b, c, d, e, f, rfl⟩
  clear hpl
  obtain ⟨t0, t1, t2, t3, t4, t5, rfl⟩ : ∃ a b c d e f, ts = [a, b, c, d, e, f] := by
    match ts, h0 with
    | [a, b, c, d, e, f], _ => exact ⟨a, b, c, d, e, f, rfl⟩
  clear h0
  have HKR := Lib.hid (hk.row encS_len).at_blocks
  have HVR := Lib.hid (hv.row encS_len).at_blocks
  have HIR := Lib.hid (hi.row encN_len).at_blocks
  obtain ⟨gk, kc, rfl, hkc⟩ := own_pos hk.1 (by simp)
  have hkP := hk.2 gk rfl
  obtain ⟨gi, ic, rfl, hic⟩ := own_pos hi.1 (by simp)
  have hkc3 : ¬ kc = 3 := by have := hkc; simp at this; omega
  have hic3 : ¬ ic = 3 := by have := hic; simp at this; omega
  have hkc5 : 5 ≤ kc := by have := hkc; simp at this; omega
  have hic5 : 5 ≤ ic := by have := hic; simp at this; omega
  have hkci2 : (2 : Int) ≤ (kc : Int) := by omega
  have hkci3 : (3 : Int) ≤ (kc : Int) := by omega
  have hici2 : (2 : Int) ≤ (ic : Int) := by omega
  have hici3 : (3 : Int) ≤ (ic : Int) := by omega
  have hw3 : IntKind.i64.wrap 3 = 3 := rfl
  clear hkc
  clear hic
  replace hB : Box w g [.slice (some ⟨gk, 0, none⟩) 5 kc, vv, .slice (some ⟨gi, 0, none⟩) 6 ic] := hB
  have HB := Lib.hid hB
  have hgl : g < w.heap.size := hB.lt
  have HAP := Lib.hid hA
  have HPK := Lib.hid hk.2
  have HPV := Lib.hid hv.2
  have HPI := Lib.hid hi.2
  have HRD := Lib.hid hRds
  have HC1 : Hid (∀ W, Below w.heap.size w W → Calls Try.prog 49 #[.slice (some ⟨gk, 3, none⟩) 2 (kc - 3)] W fun e w' => ∃ v, e = .returned v ∧ w'.ownsRow W.heap.size 9 1 v 2 ([k3, k4].flatMap encS) ∧ Below W.heap.size W w') := Lib.hid (fun W hW => by
    have hr := HKR.out.rowE
    exact cloneS_own (some ⟨gk, 3, none⟩) (kc - 3) [k3, k4] W ((hr.dropE 3).below hW) (fun h => by cases h) (by simp))
  have HC2 : Hid (∀ W, Below w.heap.size w W → Calls Try.prog 50 #[.slice (some ⟨gi, 3, none⟩) 3 (ic - 3)] W fun e w' => ∃ v, e = .returned v ∧ w'.ownsRow W.heap.size 67 1 v 3 ([p3, p4, p5].flatMap encN) ∧ Below W.heap.size W w') := Lib.hid (fun W hW => by
    have hr := HIR.out.rowE
    exact cloneN_own (some ⟨gi, 3, none⟩) (ic - 3) [p3, p4, p5] W ((hr.dropE 3).below hW) (fun h => by cases h) (by simp))
  have HCELL : Hid (w.cell? ⟨gk, 2, none⟩ = some (.string k2)) := Lib.hid (by
    have hr := HKR.out.rowE
    obtain ⟨b, off, e2, _, hc⟩ := hr 2 k2 rfl
    obtain ⟨rfl, rfl⟩ : gk = b ∧ 0 = off := by simpa using e2
    have := hc 2 k2 rfl 0 _ rfl
    simpa using this)
  clear hB hA hk hv hi hRds
  have xk := HCELL.out
  go_enter Try.func31, Try.ntmps31
  have cHB0 := HB.out.c 0 _ rfl; have fHB0 := HB.out.f 0 (by simp); have cHB1 := HB.out.c 1 _ rfl; have fHB1 := HB.out.f 1 (by simp); have cHB2 := HB.out.c 2 _ rfl; have fHB2 := HB.out.f 2 (by simp); have lHB := HB.out.lt
  go_upto_region 7 with (fail)
  clear xk
  clear cHB0 fHB0 cHB1 fHB1 cHB2 fHB2 lHB
  refine stage_begin (S := fun (L' : Array Bool) (w' : World) => Box w' g [.slice (some ⟨gk, 0, none⟩) 5 kc, vv, .slice (some ⟨gi, 0, none⟩) 6 ic]) (by kernel_rfl) ?_
  replace HB := Lib.hid HB.out.drew
  have hbd : Below w.heap.size w w.drew := below_drewN (Below.refl _ _) 1
  have hS0 : Box w.drew g [.slice (some ⟨gk, 0, none⟩) 5 kc, vv, .slice (some ⟨gi, 0, none⟩) 6 ic] := HB.out
  have HF := Lib.hid hbd
  have hzd : w.heap.size ≤ w.drew.heap.size := hbd.size
  clear hbd
  generalize w.drew = wd at *
  refine stage_take (i := 0) (oi := { dst := some 65, op := Go.Op.move (Go.Operand.tmp 0), type := 67, pos := "btree.go:163", after := #[], guard := none }) (v := ?_) (T := fun _ => True) rfl (by kernel_rfl) (by kernel_rfl) (by kernel_rfl) (by kernel_rfl) (fun _ _ _ h => h) (fun L' w' hW hS => trivial) (fun L' w' hS => hS) (Or.inl ⟨by rfl, ?_⟩) trivial (hS0) ?_
  rotate_left 1
  · intro w9 _; go_simp; (try with_reducible rfl)
  try simp only [Act.put, List.setIfInBounds_toArray, List.set_cons_zero, List.set_cons_succ]
  refine stage_take (i := 1) (oi := { dst := some 66, op := Go.Op.nilCheck (Go.Operand.tmp 65), type := 0, pos := "btree.go:163", after := #[{ on := 0, ground := Go.Ground.data }], guard := none }) (v := ?_) (T := fun _ => True) rfl (by kernel_rfl) (by kernel_rfl) (by kernel_rfl) (by kernel_rfl) (fun _ _ _ h => h) (fun L' w' hW hS => trivial) (fun L' w' hS => hS) (Or.inl ⟨by rfl, ?_⟩) trivial (hS0) ?_
  rotate_left 1
  · intro w9 _; go_simp; (try with_reducible rfl)
  try simp only [Act.put, List.setIfInBounds_toArray, List.set_cons_zero, List.set_cons_succ]
  refine stage_take (i := 2) (oi := { dst := some 67, op := Go.Op.fieldAddr 73 (Go.Operand.tmp 66) 0, type := 0, pos := "btree.go:163", after := #[{ on := 1, ground := Go.Ground.data }], guard := none }) (v := ?_) (T := fun _ => True) rfl (by kernel_rfl) (by kernel_rfl) (by kernel_rfl) (by kernel_rfl) (fun _ _ _ h => h) (fun L' w' hW hS => trivial) (fun L' w' hS => hS) (Or.inl ⟨by rfl, ?_⟩) trivial (hS0) ?_
  rotate_left 1
  · intro w9 _; go_simp; (try with_reducible rfl)
  try simp only [Act.put, List.setIfInBounds_toArray, List.set_cons_zero, List.set_cons_succ]
  refine stage_take (i := 3) (oi := { dst := some 68, op := Go.Op.load 57 (Go.Operand.tmp 67), type := 57, pos := "btree.go:163", after := #[{ on := 2, ground := Go.Ground.data }], guard := none }) (v := ?_) (T := fun w' : World => Box w' g [.slice (some ⟨gk, 0, none⟩) 5 kc, vv, .slice (some ⟨gi, 0, none⟩) 6 ic]) rfl (by kernel_rfl) (by kernel_rfl) (by kernel_rfl) (by kernel_rfl) (fun _ _ _ h => h) (fun L' w' hW hS => hS) (fun L' w' hS => hS) (Or.inl ⟨by rfl, ?_⟩) (hS0) (hS0) ?_
  rotate_left 1
  · intro w9 zA; have z0 := zA.c 0 _ rfl; clear zA; go_simp; (try with_reducible rfl)
  try simp only [Act.put, List.setIfInBounds_toArray, List.set_cons_zero, List.set_cons_succ]
  refine stage_take (i := 4) (oi := { dst := some 69, op := Go.Op.move (Go.Operand.tmp 4), type := 3, pos := "btree.go:163", after := #[], guard := none }) (v := ?_) (T := fun _ => True) rfl (by kernel_rfl) (by kernel_rfl) (by kernel_rfl) (by kernel_rfl) (fun _ _ _ h => h) (fun L' w' hW hS => trivial) (fun L' w' hS => hS) (Or.inl ⟨by rfl, ?_⟩) trivial (hS0) ?_
  rotate_left 1
  · intro w9 _; go_simp; (try with_reducible rfl)
  try simp only [Act.put, List.setIfInBounds_toArray, List.set_cons_zero, List.set_cons_succ]
  refine stage_take (i := 5) (oi := { dst := some 70, op := Go.Op.binOp Go.BinOp.add 3 (Go.Operand.tmp 69) (Go.Operand.const (Go.Value.int Go.IntKind.i64 1)) 3, type := 3, pos := "btree.go:163", after := #[{ on := 4, ground := Go.Ground.data }], guard := none }) (v := ?_) (T := fun _ => True) rfl (by kernel_rfl) (by kernel_rfl) (by kernel_rfl) (by kernel_rfl) (fun _ _ _ h => h) (fun L' w' hW hS => trivial) (fun L' w' hS => hS) (Or.inl ⟨by rfl, ?_⟩) trivial (hS0) ?_
  rotate_left 1
  · intro w9 _; go_simp; (try with_reducible rfl)
  try simp only [Act.put, List.setIfInBounds_toArray, List.set_cons_zero, List.set_cons_succ]
  refine stage_take (i := 6) (oi := { dst := some 71, op := Go.Op.slice 57 (Go.Operand.tmp 68) (some (Go.Operand.tmp 70)) none none, type := 57, pos := "btree.go:163", after := #[{ on := 3, ground := Go.Ground.data }, { on := 5, ground := Go.Ground.data }], guard := none }) (v := ?_) (T := fun _ => True) rfl (by kernel_rfl) (by kernel_rfl) (by kernel_rfl) (by kernel_rfl) (fun _ _ _ h => h) (fun L' w' hW hS => trivial) (fun L' w' hS => hS) (Or.inl ⟨by rfl, ?_⟩) trivial (hS0) ?_
  rotate_left 1
  · intro w9 _; go_simp; (try with_reducible rfl)
  try simp only [Act.put, List.setIfInBounds_toArray, List.set_cons_zero, List.set_cons_succ]
  refine stage_take (i := 8) (oi := { dst := some 73, op := Go.Op.move (Go.Operand.tmp 0), type := 67, pos := "btree.go:163", after := #[], guard := none }) (v := ?_) (T := fun _ => True) rfl (by kernel_rfl) (by kernel_rfl) (by kernel_rfl) (by kernel_rfl) (fun _ _ _ h => h) (fun L' w' hW hS => trivial) (fun L' w' hS => hS) (Or.inl ⟨by rfl, ?_⟩) trivial (hS0) ?_
  rotate_left 1
  · intro w9 _; go_simp; (try with_reducible rfl)
  try simp only [Act.put, List.setIfInBounds_toArray, List.set_cons_zero, List.set_cons_succ]
  refine stage_take (i := 9) (oi := { dst := some 74, op := Go.Op.nilCheck (Go.Operand.tmp 73), type := 0, pos := "btree.go:163", after := #[{ on := 8, ground := Go.Ground.data }], guard := none }) (v := ?_) (T := fun _ => True) rfl (by kernel_rfl) (by kernel_rfl) (by kernel_rfl) (by kernel_rfl) (fun _ _ _ h => h) (fun L' w' hW hS => trivial) (fun L' w' hS => hS) (Or.inl ⟨by rfl, ?_⟩) trivial (hS0) ?_
  rotate_left 1
  · intro w9 _; go_simp; (try with_reducible rfl)
  try simp only [Act.put, List.setIfInBounds_toArray, List.set_cons_zero, List.set_cons_succ]
  refine stage_take (i := 10) (oi := { dst := some 75, op := Go.Op.fieldAddr 73 (Go.Operand.tmp 74) 2, type := 0, pos := "btree.go:163", after := #[{ on := 9, ground := Go.Ground.data }], guard := none }) (v := ?_) (T := fun _ => True) rfl (by kernel_rfl) (by kernel_rfl) (by kernel_rfl) (by kernel_rfl) (fun _ _ _ h => h) (fun L' w' hW hS => trivial) (fun L' w' hS => hS) (Or.inl ⟨by rfl, ?_⟩) trivial (hS0) ?_
  rotate_left 1
  · intro w9 _; go_simp; (try with_reducible rfl)
  try simp only [Act.put, List.setIfInBounds_toArray, List.set_cons_zero, List.set_cons_succ]
  refine stage_take (i := 11) (oi := { dst := some 76, op := Go.Op.load 71 (Go.Operand.tmp 75), type := 71, pos := "btree.go:163", after := #[{ on := 10, ground := Go.Ground.data }], guard := none }) (v := ?_) (T := fun w' : World => Box w' g [.slice (some ⟨gk, 0, none⟩) 5 kc, vv, .slice (some ⟨gi, 0, none⟩) 6 ic]) rfl (by kernel_rfl) (by kernel_rfl) (by kernel_rfl) (by kernel_rfl) (fun _ _ _ h => h) (fun L' w' hW hS => hS) (fun L' w' hS => hS) (Or.inl ⟨by rfl, ?_⟩) (hS0) (hS0) ?_
  rotate_left 1
  · intro w9 zA; have z0 := zA.c 2 _ rfl; clear zA; go_simp; (try with_reducible rfl)
  try simp only [Act.put, List.setIfInBounds_toArray, List.set_cons_zero, List.set_cons_succ]
  refine stage_take (i := 12) (oi := { dst := some 77, op := Go.Op.move (Go.Operand.tmp 4), type := 3, pos := "btree.go:163", after := #[], guard := none }) (v := ?_) (T := fun _ => True) rfl (by kernel_rfl) (by kernel_rfl) (by kernel_rfl) (by kernel_rfl) (fun _ _ _ h => h) (fun L' w' hW hS => trivial) (fun L' w' hS => hS) (Or.inl ⟨by rfl, ?_⟩) trivial (hS0) ?_
  rotate_left 1
  · intro w9 _; go_simp; (try with_reducible rfl)
  try simp only [Act.put, List.setIfInBounds_toArray, List.set_cons_zero, List.set_cons_succ]
  refine stage_take (i := 13) (oi := { dst := some 78, op := Go.Op.binOp Go.BinOp.add 3 (Go.Operand.tmp 77) (Go.Operand.const (Go.Value.int Go.IntKind.i64 1)) 3, type := 3, pos := "btree.go:163", after := #[{ on := 12, ground := Go.Ground.data }], guard := none }) (v := ?_) (T := fun _ => True) rfl (by kernel_rfl) (by kernel_rfl) (by kernel_rfl) (by kernel_rfl) (fun _ _ _ h => h) (fun L' w' hW hS => trivial) (fun L' w' hS => hS) (Or.inl ⟨by rfl, ?_⟩) trivial (hS0) ?_
  rotate_left 1
  · intro w9 _; go_simp; (try with_reducible rfl)
  try simp only [Act.put, List.setIfInBounds_toArray, List.set_cons_zero, List.set_cons_succ]
  refine stage_take (i := 14) (oi := { dst := some 79, op := Go.Op.slice 71 (Go.Operand.tmp 76) (some (Go.Operand.tmp 78)) none none, type := 71, pos := "btree.go:163", after := #[{ on := 11, ground := Go.Ground.data }, { on := 13, ground := Go.Ground.data }], guard := none }) (v := ?_) (T := fun _ => True) rfl (by kernel_rfl) (by kernel_rfl) (by kernel_rfl) (by kernel_rfl) (fun _ _ _ h => h) (fun L' w' hW hS => trivial) (fun L' w' hS => hS) (Or.inl ⟨by rfl, ?_⟩) trivial (hS0) ?_
  rotate_left 1
  · intro w9 _; go_simp; (try with_reducible rfl)
  try simp only [Act.put, List.setIfInBounds_toArray, List.set_cons_zero, List.set_cons_succ]
  refine stage_all (rs := [7]) (by kernel_rfl) (by simp) (fun i0 hi0 => ?_)
  obtain rfl : i0 = 7 := by simpa using hi0
  refine stage_step (S := fun (L' : Array Bool) (w' : World) => Box w' g [.slice (some ⟨gk, 0, none⟩) 5 kc, vv, .slice (some ⟨gi, 0, none⟩) 6 ic]) (o := { dst := some 72, op := Go.Op.call { callee := Go.Callee.value (Go.Operand.func 49), args := #[Go.Operand.tmp 71], argTypes := #[57] }, type := 57, pos := "btree.go:163", after := #[{ on := 6, ground := Go.Ground.data }], guard := none }) (by rfl) (fun K2 hK => ?_)
  go_simp
  go_wp2_with fail
  refine (HC1.out wd HF.out).mono ?_
  rintro e w5 ⟨kq, rfl, hown, hb⟩
  clear hS0
  have hkq := hown
  clear hown
  replace HB := Lib.hid (HB.out.step hb)
  have hz0 := hb.size
  replace HF := Lib.hid (below_step' HF.out hb)
  clear hb
  obtain ⟨B0, d0, rfl, _, _⟩ := own_slice hkq
  have hS0 : Box w5 g [.slice (some ⟨gk, 0, none⟩) 5 kc, vv, .slice (some ⟨gi, 0, none⟩) 6 ic] := HB.out
  refine hK.out _ _ (hS0) ?_
  clear hK K2
  try simp only [Act.put, List.setIfInBounds_toArray, List.set_cons_zero, List.set_cons_succ]
  refine stage_all (rs := [15]) (by kernel_rfl) (by simp) (fun i0 hi0 => ?_)
  obtain rfl : i0 = 15 := by simpa using hi0
  refine stage_step (S := fun (L' : Array Bool) (w' : World) => Box w' g [.slice (some ⟨gk, 0, none⟩) 5 kc, vv, .slice (some ⟨gi, 0, none⟩) 6 ic]) (o := { dst := some 80, op := Go.Op.call { callee := Go.Callee.value (Go.Operand.func 50), args := #[Go.Operand.tmp 79], argTypes := #[71] }, type := 71, pos := "btree.go:163", after := #[{ on := 14, ground := Go.Ground.data }, { on := 7, ground := Go.Ground.chain }], guard := none }) (by rfl) (fun K2 hK => ?_)
  go_simp
  go_wp2_with fail
  refine (HC2.out w5 HF.out).mono ?_
  rintro e w6 ⟨xq, rfl, hown, hb⟩
  clear hS0
  replace hkq := own_below hkq hb
  have hxq := hown
  clear hown
  replace HB := Lib.hid (HB.out.step hb)
  have hz1 := hb.size
  replace HF := Lib.hid (below_step' HF.out hb)
  clear hb
  obtain ⟨B1, d1, rfl, _, _⟩ := own_slice hxq
  have hS0 : Box w6 g [.slice (some ⟨gk, 0, none⟩) 5 kc, vv, .slice (some ⟨gi, 0, none⟩) 6 ic] := HB.out
  refine hK.out _ _ (hS0) ?_
  clear hK K2
  try simp only [Act.put, List.setIfInBounds_toArray, List.set_cons_zero, List.set_cons_succ]
  refine stage_take (i := 16) (oi := { dst := some 81, op := Go.Op.build 73 #[(0, Go.Operand.tmp 72), (2, Go.Operand.tmp 80)], type := 73, pos := "btree.go:163", after := #[{ on := 7, ground := Go.Ground.data }, { on := 15, ground := Go.Ground.data }], guard := none }) (v := ?_) (T := fun _ => True) rfl (by kernel_rfl) (by kernel_rfl) (by kernel_rfl) (by kernel_rfl) (fun _ _ _ h => h) (fun L' w' hW hS => trivial) (fun L' w' hS => hS) (Or.inl ⟨by rfl, ?_⟩) trivial (hS0) ?_
  rotate_left 1
  · intro w9 _; go_simp; (try with_reducible rfl)
  try simp only [Act.put, List.setIfInBounds_toArray, List.set_cons_zero, List.set_cons_succ]
  refine stage_all (rs := [17]) (by kernel_rfl) (by simp) (fun i0 hi0 => ?_)
  obtain rfl : i0 = 17 := by simpa using hi0
  refine stage_step (S := fun (L' : Array Bool) (w' : World) => Box w' g [.slice (some ⟨gk, 0, none⟩) 5 kc, vv, .slice (some ⟨gi, 0, none⟩) 6 ic]) (o := { dst := some 82, op := Go.Op.box 73 (Go.Operand.tmp 81), type := 67, pos := "btree.go:163", after := #[{ on := 16, ground := Go.Ground.data }], guard := none }) (by rfl) (fun K2 hK => ?_)
  go_simp
  have HN := Lib.hid (Box.new w6 #[.slice B0 2 d0, .slice none 0 0, .slice B1 3 d1] 73)
  replace HB := Lib.hid (HB.out.alloc (.cells #[.slice B0 2 d0, .slice none 0 0, .slice B1 3 d1] 73))
  have hb : Below w6.heap.size w6 (w6.alloc (.cells #[.slice B0 2 d0, .slice none 0 0, .slice B1 3 d1] 73)) := (Below.refl _ _).alloc (Nat.le_refl _) _
  replace hkq := own_below hkq hb
  replace hxq := own_below hxq hb
  replace HF := Lib.hid (below_step' HF.out hb)
  have hz2 : wd.heap.size ≤ w6.heap.size := Nat.le_trans hz0 hz1
  clear hS0 hb
  generalize w6.alloc (.cells #[.slice B0 2 d0, .slice none 0 0, .slice B1 3 d1] 73) = wa at *
  generalize w6.heap.size = g2 at *
  have hS0 : Box wa g [.slice (some ⟨gk, 0, none⟩) 5 kc, vv, .slice (some ⟨gi, 0, none⟩) 6 ic] := HB.out
  refine hK.out _ _ (hS0) ?_
  clear hK K2
  try simp only [Act.put, List.setIfInBounds_toArray, List.set_cons_zero, List.set_cons_succ]
  refine stage_all (rs := [18]) (by kernel_rfl) (by simp) (fun i0 hi0 => ?_)
  obtain rfl : i0 = 18 := by simpa using hi0
  refine stage_step (S := fun (L' : Array Bool) (w' : World) => Box w' g [.slice (some ⟨gk, 0, none⟩) 5 kc, vv, .slice (some ⟨gi, 0, none⟩) 6 ic]) (o := { dst := some 7, op := Go.Op.assign (Go.Operand.tmp 82), type := 67, pos := "btree.go:163", after := #[{ on := 17, ground := Go.Ground.data }, { on := 15, ground := Go.Ground.chain }, { on := 0, ground := Go.Ground.phase }, { on := 1, ground := Go.Ground.phase }, { on := 2, ground := Go.Ground.phase }, { on := 3, ground := Go.Ground.phase }, { on := 4, ground := Go.Ground.phase }, { on := 5, ground := Go.Ground.phase }, { on := 6, ground := Go.Ground.phase }, { on := 7, ground := Go.Ground.phase }, { on := 8, ground := Go.Ground.phase }, { on := 9, ground := Go.Ground.phase }, { on := 10, ground := Go.Ground.phase }, { on := 11, ground := Go.Ground.phase }, { on := 12, ground := Go.Ground.phase }, { on := 13, ground := Go.Ground.phase }, { on := 14, ground := Go.Ground.phase }, { on := 15, ground := Go.Ground.phase }, { on := 16, ground := Go.Ground.phase }, { on := 17, ground := Go.Ground.phase }], guard := none }) (by rfl) (fun K2 hK => ?_)
  go_simp
  refine hK.out _ _ (hS0) ?_
  clear hK K2
  try simp only [Act.put, List.setIfInBounds_toArray, List.set_cons_zero, List.set_cons_succ]
  refine stage_done (by kernel_rfl) ?_ _
  go_upto_region 8 with (fail)
  refine stage_begin (S := fun (L' : Array Bool) (w' : World) => (L'.getD 20 false = false → w'.cell? ⟨g, 0, none⟩ = some (.slice (some ⟨gk, 0, none⟩) 5 kc)) ∧ (L'.getD 23 false = false → w'.cell? ⟨g, 2, none⟩ = some (.slice (some ⟨gi, 0, none⟩) 6 ic))) (by kernel_rfl) ?_
  replace HB := Lib.hid HB.out.drew
  replace HN := Lib.hid HN.out.drew
  have hbd : Below wa.heap.size wa wa.drew := below_drewN (Below.refl _ _) 1
  replace hkq := own_below hkq hbd
  replace hxq := own_below hxq hbd
  replace HF := Lib.hid (below_step' HF.out hbd)
  clear hbd
  generalize wa.drew = wb at *
  have hS0 : wb.cell? ⟨g, 0, none⟩ = some (.slice (some ⟨gk, 0, none⟩) 5 kc) := HB.out.c 0 _ rfl
  have hS1 : wb.cell? ⟨g, 2, none⟩ = some (.slice (some ⟨gi, 0, none⟩) 6 ic) := HB.out.c 2 _ rfl
  refine stage_take (i := 0) (oi := { dst := some 83, op := Go.Op.move (Go.Operand.tmp 0), type := 67, pos := "btree.go:164", after := #[], guard := none }) (v := ?_) (T := fun _ => True) rfl (by kernel_rfl) (by kernel_rfl) (by kernel_rfl) (by kernel_rfl) (fun _ _ _ h => h) (fun L' w' hW hS => trivial) (fun L' w' hS => ⟨fun h => hS.1 (by rw [getD_set_ne false (by decide)]; exact h), fun h => hS.2 (by rw [getD_set_ne false (by decide)]; exact h)⟩) (Or.inl ⟨by rfl, ?_⟩) trivial (⟨fun _ => hS0, fun _ => hS1⟩) ?_
  rotate_left 1
  · intro w9 _; go_simp; (try with_reducible rfl)
  try simp only [Act.put, List.setIfInBounds_toArray, List.set_cons_zero, List.set_cons_succ]
  refine stage_take (i := 1) (oi := { dst := some 84, op := Go.Op.move (Go.Operand.tmp 0), type := 67, pos := "btree.go:164", after := #[{ on := 20, ground := Go.Ground.gcOnly Go.Departure.lateStores }], guard := none }) (v := ?_) (T := fun _ => True) rfl (by kernel_rfl) (by kernel_rfl) (by kernel_rfl) (by kernel_rfl) (fun _ _ _ h => h) (fun L' w' hW hS => trivial) (fun L' w' hS => ⟨fun h => hS.1 (by rw [getD_set_ne false (by decide)]; exact h), fun h => hS.2 (by rw [getD_set_ne false (by decide)]; exact h)⟩) (Or.inl ⟨by rfl, ?_⟩) trivial (⟨fun _ => hS0, fun _ => hS1⟩) ?_
  rotate_left 1
  · intro w9 _; go_simp; (try with_reducible rfl)
  try simp only [Act.put, List.setIfInBounds_toArray, List.set_cons_zero, List.set_cons_succ]
  refine stage_take (i := 2) (oi := { dst := some 85, op := Go.Op.move (Go.Operand.tmp 0), type := 67, pos := "btree.go:164", after := #[], guard := none }) (v := ?_) (T := fun _ => True) rfl (by kernel_rfl) (by kernel_rfl) (by kernel_rfl) (by kernel_rfl) (fun _ _ _ h => h) (fun L' w' hW hS => trivial) (fun L' w' hS => ⟨fun h => hS.1 (by rw [getD_set_ne false (by decide)]; exact h), fun h => hS.2 (by rw [getD_set_ne false (by decide)]; exact h)⟩) (Or.inl ⟨by rfl, ?_⟩) trivial (⟨fun _ => hS0, fun _ => hS1⟩) ?_
  rotate_left 1
  · intro w9 _; go_simp; (try with_reducible rfl)
  try simp only [Act.put, List.setIfInBounds_toArray, List.set_cons_zero, List.set_cons_succ]
  refine stage_take (i := 3) (oi := { dst := some 86, op := Go.Op.nilCheck (Go.Operand.tmp 85), type := 0, pos := "btree.go:164", after := #[{ on := 2, ground := Go.Ground.data }], guard := none }) (v := ?_) (T := fun _ => True) rfl (by kernel_rfl) (by kernel_rfl) (by kernel_rfl) (by kernel_rfl) (fun _ _ _ h => h) (fun L' w' hW hS => trivial) (fun L' w' hS => ⟨fun h => hS.1 (by rw [getD_set_ne false (by decide)]; exact h), fun h => hS.2 (by rw [getD_set_ne false (by decide)]; exact h)⟩) (Or.inl ⟨by rfl, ?_⟩) trivial (⟨fun _ => hS0, fun _ => hS1⟩) ?_
  rotate_left 1
  · intro w9 _; go_simp; (try with_reducible rfl)
  try simp only [Act.put, List.setIfInBounds_toArray, List.set_cons_zero, List.set_cons_succ]
  refine stage_take (i := 4) (oi := { dst := some 87, op := Go.Op.fieldAddr 73 (Go.Operand.tmp 86) 0, type := 0, pos := "btree.go:164", after := #[{ on := 3, ground := Go.Ground.data }], guard := none }) (v := ?_) (T := fun _ => True) rfl (by kernel_rfl) (by kernel_rfl) (by kernel_rfl) (by kernel_rfl) (fun _ _ _ h => h) (fun L' w' hW hS => trivial) (fun L' w' hS => ⟨fun h => hS.1 (by rw [getD_set_ne false (by decide)]; exact h), fun h => hS.2 (by rw [getD_set_ne false (by decide)]; exact h)⟩) (Or.inl ⟨by rfl, ?_⟩) trivial (⟨fun _ => hS0, fun _ => hS1⟩) ?_
  rotate_left 1
  · intro w9 _; go_simp; (try with_reducible rfl)
  try simp only [Act.put, List.setIfInBounds_toArray, List.set_cons_zero, List.set_cons_succ]
  refine stage_take (i := 5) (oi := { dst := some 88, op := Go.Op.load 57 (Go.Operand.tmp 87), type := 57, pos := "btree.go:164", after := #[{ on := 4, ground := Go.Ground.data }], guard := none }) (v := ?_) (T := fun w' : World => w'.cell? ⟨g, 0, none⟩ = some (.slice (some ⟨gk, 0, none⟩) 5 kc)) rfl (by kernel_rfl) (by kernel_rfl) (by kernel_rfl) (by kernel_rfl) (fun _ _ _ h => h) (fun L' w' hW hS => hS.1 (not_yet hW (by kernel_rfl))) (fun L' w' hS => ⟨fun h => hS.1 (by rw [getD_set_ne false (by decide)]; exact h), fun h => hS.2 (by rw [getD_set_ne false (by decide)]; exact h)⟩) (Or.inl ⟨by rfl, ?_⟩) (hS0) (⟨fun _ => hS0, fun _ => hS1⟩) ?_
  rotate_left 1
  · intro w9 zA; go_simp; (try with_reducible rfl)
  try simp only [Act.put, List.setIfInBounds_toArray, List.set_cons_zero, List.set_cons_succ]
  refine stage_take (i := 6) (oi := { dst := some 89, op := Go.Op.move (Go.Operand.tmp 4), type := 3, pos := "btree.go:164", after := #[], guard := none }) (v := ?_) (T := fun _ => True) rfl (by kernel_rfl) (by kernel_rfl) (by kernel_rfl) (by kernel_rfl) (fun _ _ _ h => h) (fun L' w' hW hS => trivial) (fun L' w' hS => ⟨fun h => hS.1 (by rw [getD_set_ne false (by decide)]; exact h), fun h => hS.2 (by rw [getD_set_ne false (by decide)]; exact h)⟩) (Or.inl ⟨by rfl, ?_⟩) trivial (⟨fun _ => hS0, fun _ => hS1⟩) ?_
  rotate_left 1
  · intro w9 _; go_simp; (try with_reducible rfl)
  try simp only [Act.put, List.setIfInBounds_toArray, List.set_cons_zero, List.set_cons_succ]
  refine stage_take (i := 7) (oi := { dst := some 90, op := Go.Op.move (Go.Operand.tmp 4), type := 3, pos := "btree.go:164", after := #[], guard := none }) (v := ?_) (T := fun _ => True) rfl (by kernel_rfl) (by kernel_rfl) (by kernel_rfl) (by kernel_rfl) (fun _ _ _ h => h) (fun L' w' hW hS => trivial) (fun L' w' hS => ⟨fun h => hS.1 (by rw [getD_set_ne false (by decide)]; exact h), fun h => hS.2 (by rw [getD_set_ne false (by decide)]; exact h)⟩) (Or.inl ⟨by rfl, ?_⟩) trivial (⟨fun _ => hS0, fun _ => hS1⟩) ?_
  rotate_left 1
  · intro w9 _; go_simp; (try with_reducible rfl)
  try simp only [Act.put, List.setIfInBounds_toArray, List.set_cons_zero, List.set_cons_succ]
  refine stage_take (i := 8) (oi := { dst := some 91, op := Go.Op.slice 57 (Go.Operand.tmp 88) none (some (Go.Operand.tmp 89)) (some (Go.Operand.tmp 90)), type := 57, pos := "btree.go:164", after := #[{ on := 5, ground := Go.Ground.data }, { on := 6, ground := Go.Ground.data }, { on := 7, ground := Go.Ground.data }], guard := none }) (v := ?_) (T := fun _ => True) rfl (by kernel_rfl) (by kernel_rfl) (by kernel_rfl) (by kernel_rfl) (fun _ _ _ h => h) (fun L' w' hW hS => trivial) (fun L' w' hS => ⟨fun h => hS.1 (by rw [getD_set_ne false (by decide)]; exact h), fun h => hS.2 (by rw [getD_set_ne false (by decide)]; exact h)⟩) (Or.inl ⟨by rfl, ?_⟩) trivial (⟨fun _ => hS0, fun _ => hS1⟩) ?_
  rotate_left 1
  · intro w9 _; go_simp; (try with_reducible rfl)
  try simp only [Act.put, List.setIfInBounds_toArray, List.set_cons_zero, List.set_cons_succ]
  refine stage_take (i := 9) (oi := { dst := some 92, op := Go.Op.move (Go.Operand.tmp 0), type := 67, pos := "btree.go:164", after := #[], guard := none }) (v := ?_) (T := fun _ => True) rfl (by kernel_rfl) (by kernel_rfl) (by kernel_rfl) (by kernel_rfl) (fun _ _ _ h => h) (fun L' w' hW hS => trivial) (fun L' w' hS => ⟨fun h => hS.1 (by rw [getD_set_ne false (by decide)]; exact h), fun h => hS.2 (by rw [getD_set_ne false (by decide)]; exact h)⟩) (Or.inl ⟨by rfl, ?_⟩) trivial (⟨fun _ => hS0, fun _ => hS1⟩) ?_
  rotate_left 1
  · intro w9 _; go_simp; (try with_reducible rfl)
  try simp only [Act.put, List.setIfInBounds_toArray, List.set_cons_zero, List.set_cons_succ]
  refine stage_take (i := 10) (oi := { dst := some 93, op := Go.Op.nilCheck (Go.Operand.tmp 92), type := 0, pos := "btree.go:164", after := #[{ on := 9, ground := Go.Ground.data }], guard := none }) (v := ?_) (T := fun _ => True) rfl (by kernel_rfl) (by kernel_rfl) (by kernel_rfl) (by kernel_rfl) (fun _ _ _ h => h) (fun L' w' hW hS => trivial) (fun L' w' hS => ⟨fun h => hS.1 (by rw [getD_set_ne false (by decide)]; exact h), fun h => hS.2 (by rw [getD_set_ne false (by decide)]; exact h)⟩) (Or.inl ⟨by rfl, ?_⟩) trivial (⟨fun _ => hS0, fun _ => hS1⟩) ?_
  rotate_left 1
  · intro w9 _; go_simp; (try with_reducible rfl)
  try simp only [Act.put, List.setIfInBounds_toArray, List.set_cons_zero, List.set_cons_succ]
  refine stage_take (i := 11) (oi := { dst := some 94, op := Go.Op.fieldAddr 73 (Go.Operand.tmp 93) 2, type := 0, pos := "btree.go:164", after := #[{ on := 10, ground := Go.Ground.data }], guard := none }) (v := ?_) (T := fun _ => True) rfl (by kernel_rfl) (by kernel_rfl) (by kernel_rfl) (by kernel_rfl) (fun _ _ _ h => h) (fun L' w' hW hS => trivial) (fun L' w' hS => ⟨fun h => hS.1 (by rw [getD_set_ne false (by decide)]; exact h), fun h => hS.2 (by rw [getD_set_ne false (by decide)]; exact h)⟩) (Or.inl ⟨by rfl, ?_⟩) trivial (⟨fun _ => hS0, fun _ => hS1⟩) ?_
  rotate_left 1
  · intro w9 _; go_simp; (try with_reducible rfl)
  try simp only [Act.put, List.setIfInBounds_toArray, List.set_cons_zero, List.set_cons_succ]
  refine stage_take (i := 12) (oi := { dst := some 95, op := Go.Op.load 71 (Go.Operand.tmp 94), type := 71, pos := "btree.go:164", after := #[{ on := 11, ground := Go.Ground.data }], guard := none }) (v := ?_) (T := fun w' : World => w'.cell? ⟨g, 2, none⟩ = some (.slice (some ⟨gi, 0, none⟩) 6 ic)) rfl (by kernel_rfl) (by kernel_rfl) (by kernel_rfl) (by kernel_rfl) (fun _ _ _ h => h) (fun L' w' hW hS => hS.2 (not_yet hW (by kernel_rfl))) (fun L' w' hS => ⟨fun h => hS.1 (by rw [getD_set_ne false (by decide)]; exact h), fun h => hS.2 (by rw [getD_set_ne false (by decide)]; exact h)⟩) (Or.inl ⟨by rfl, ?_⟩) (hS1) (⟨fun _ => hS0, fun _ => hS1⟩) ?_
  rotate_left 1
  · intro w9 zA; go_simp; (try with_reducible rfl)
  try simp only [Act.put, List.setIfInBounds_toArray, List.set_cons_zero, List.set_cons_succ]
  refine stage_take (i := 13) (oi := { dst := some 96, op := Go.Op.move (Go.Operand.tmp 4), type := 3, pos := "btree.go:164", after := #[], guard := none }) (v := ?_) (T := fun _ => True) rfl (by kernel_rfl) (by kernel_rfl) (by kernel_rfl) (by kernel_rfl) (fun _ _ _ h => h) (fun L' w' hW hS => trivial) (fun L' w' hS => ⟨fun h => hS.1 (by rw [getD_set_ne false (by decide)]; exact h), fun h => hS.2 (by rw [getD_set_ne false (by decide)]; exact h)⟩) (Or.inl ⟨by rfl, ?_⟩) trivial (⟨fun _ => hS0, fun _ => hS1⟩) ?_
  rotate_left 1
  · intro w9 _; go_simp; (try with_reducible rfl)
  try simp only [Act.put, List.setIfInBounds_toArray, List.set_cons_zero, List.set_cons_succ]
  refine stage_take (i := 14) (oi := { dst := some 97, op := Go.Op.binOp Go.BinOp.add 3 (Go.Operand.tmp 96) (Go.Operand.const (Go.Value.int Go.IntKind.i64 1)) 3, type := 3, pos := "btree.go:164", after := #[{ on := 13, ground := Go.Ground.data }], guard := none }) (v := ?_) (T := fun _ => True) rfl (by kernel_rfl) (by kernel_rfl) (by kernel_rfl) (by kernel_rfl) (fun _ _ _ h => h) (fun L' w' hW hS => trivial) (fun L' w' hS => ⟨fun h => hS.1 (by rw [getD_set_ne false (by decide)]; exact h), fun h => hS.2 (by rw [getD_set_ne false (by decide)]; exact h)⟩) (Or.inl ⟨by rfl, ?_⟩) trivial (⟨fun _ => hS0, fun _ => hS1⟩) ?_
  rotate_left 1
  · intro w9 _; go_simp; (try with_reducible rfl)
  try simp only [Act.put, List.setIfInBounds_toArray, List.set_cons_zero, List.set_cons_succ]
  refine stage_take (i := 15) (oi := { dst := some 98, op := Go.Op.move (Go.Operand.tmp 4), type := 3, pos := "btree.go:164", after := #[], guard := none }) (v := ?_) (T := fun _ => True) rfl (by kernel_rfl) (by kernel_rfl) (by kernel_rfl) (by kernel_rfl) (fun _ _ _ h => h) (fun L' w' hW hS => trivial) (fun L' w' hS => ⟨fun h => hS.1 (by rw [getD_set_ne false (by decide)]; exact h), fun h => hS.2 (by rw [getD_set_ne false (by decide)]; exact h)⟩) (Or.inl ⟨by rfl, ?_⟩) trivial (⟨fun _ => hS0, fun _ => hS1⟩) ?_
  rotate_left 1
  · intro w9 _; go_simp; (try with_reducible rfl)
  try simp only [Act.put, List.setIfInBounds_toArray, List.set_cons_zero, List.set_cons_succ]
  refine stage_take (i := 16) (oi := { dst := some 99, op := Go.Op.binOp Go.BinOp.add 3 (Go.Operand.tmp 98) (Go.Operand.const (Go.Value.int Go.IntKind.i64 1)) 3, type := 3, pos := "btree.go:164", after := #[{ on := 15, ground := Go.Ground.data }], guard := none }) (v := ?_) (T := fun _ => True) rfl (by kernel_rfl) (by kernel_rfl) (by kernel_rfl) (by kernel_rfl) (fun _ _ _ h => h) (fun L' w' hW hS => trivial) (fun L' w' hS => ⟨fun h => hS.1 (by rw [getD_set_ne false (by decide)]; exact h), fun h => hS.2 (by rw [getD_set_ne false (by decide)]; exact h)⟩) (Or.inl ⟨by rfl, ?_⟩) trivial (⟨fun _ => hS0, fun _ => hS1⟩) ?_
  rotate_left 1
  · intro w9 _; go_simp; (try with_reducible rfl)
  try simp only [Act.put, List.setIfInBounds_toArray, List.set_cons_zero, List.set_cons_succ]
  refine stage_take (i := 17) (oi := { dst := some 100, op := Go.Op.slice 71 (Go.Operand.tmp 95) none (some (Go.Operand.tmp 97)) (some (Go.Operand.tmp 99)), type := 71, pos := "btree.go:164", after := #[{ on := 12, ground := Go.Ground.data }, { on := 14, ground := Go.Ground.data }, { on := 16, ground := Go.Ground.data }], guard := none }) (v := ?_) (T := fun _ => True) rfl (by kernel_rfl) (by kernel_rfl) (by kernel_rfl) (by kernel_rfl) (fun _ _ _ h => h) (fun L' w' hW hS => trivial) (fun L' w' hS => ⟨fun h => hS.1 (by rw [getD_set_ne false (by decide)]; exact h), fun h => hS.2 (by rw [getD_set_ne false (by decide)]; exact h)⟩) (Or.inl ⟨by rfl, ?_⟩) trivial (⟨fun _ => hS0, fun _ => hS1⟩) ?_
  rotate_left 1
  · intro w9 _; go_simp; (try with_reducible rfl)
  try simp only [Act.put, List.setIfInBounds_toArray, List.set_cons_zero, List.set_cons_succ]
  refine stage_all (rs := [18]) (by kernel_rfl) (by simp) (fun i0 hi0 => ?_)
  obtain rfl : i0 = 18 := by simpa using hi0
  refine stage_step (S := fun (L' : Array Bool) (w' : World) => (L'.getD 20 false = false → w'.cell? ⟨g, 0, none⟩ = some (.slice (some ⟨gk, 0, none⟩) 5 kc)) ∧ (L'.getD 23 false = false → w'.cell? ⟨g, 2, none⟩ = some (.slice (some ⟨gi, 0, none⟩) 6 ic))) (o := { dst := some 101, op := Go.Op.nilCheck (Go.Operand.tmp 83), type := 0, pos := "btree.go:164", after := #[{ on := 0, ground := Go.Ground.data }, { on := 0, ground := Go.Ground.phase }, { on := 1, ground := Go.Ground.textOnly Go.Departure.lateStores }, { on := 2, ground := Go.Ground.phase }, { on := 3, ground := Go.Ground.phase }, { on := 4, ground := Go.Ground.phase }, { on := 5, ground := Go.Ground.phase }, { on := 6, ground := Go.Ground.phase }, { on := 7, ground := Go.Ground.phase }, { on := 8, ground := Go.Ground.phase }, { on := 9, ground := Go.Ground.textOnly Go.Departure.lateStores }, { on := 10, ground := Go.Ground.textOnly Go.Departure.lateStoresUnsure }, { on := 11, ground := Go.Ground.textOnly Go.Departure.lateStoresUnsure }, { on := 12, ground := Go.Ground.phase }, { on := 13, ground := Go.Ground.textOnly Go.Departure.lateStores }, { on := 14, ground := Go.Ground.textOnly Go.Departure.lateStores }, { on := 15, ground := Go.Ground.textOnly Go.Departure.lateStores }, { on := 16, ground := Go.Ground.textOnly Go.Departure.lateStores }, { on := 17, ground := Go.Ground.textOnly Go.Departure.lateStoresUnsure }], guard := none }) (by rfl) (fun K2 hK => ?_)
  go_simp
  refine hK.out _ _ (⟨fun _ => hS0, fun _ => hS1⟩) ?_
  clear hK K2
  try simp only [Act.put, List.setIfInBounds_toArray, List.set_cons_zero, List.set_cons_succ]
  refine stage_all (rs := [19]) (by kernel_rfl) (by simp) (fun i0 hi0 => ?_)
  obtain rfl : i0 = 19 := by simpa using hi0
  refine stage_step (S := fun (L' : Array Bool) (w' : World) => (L'.getD 20 false = false → w'.cell? ⟨g, 0, none⟩ = some (.slice (some ⟨gk, 0, none⟩) 5 kc)) ∧ (L'.getD 23 false = false → w'.cell? ⟨g, 2, none⟩ = some (.slice (some ⟨gi, 0, none⟩) 6 ic))) (o := { dst := some 102, op := Go.Op.fieldAddr 73 (Go.Operand.tmp 101) 0, type := 0, pos := "btree.go:164", after := #[{ on := 18, ground := Go.Ground.data }, { on := 0, ground := Go.Ground.phase }, { on := 1, ground := Go.Ground.textOnly Go.Departure.lateStores }, { on := 2, ground := Go.Ground.phase }, { on := 3, ground := Go.Ground.phase }, { on := 4, ground := Go.Ground.phase }, { on := 5, ground := Go.Ground.phase }, { on := 6, ground := Go.Ground.phase }, { on := 7, ground := Go.Ground.phase }, { on := 8, ground := Go.Ground.phase }, { on := 9, ground := Go.Ground.textOnly Go.Departure.lateStores }, { on := 10, ground := Go.Ground.textOnly Go.Departure.lateStoresUnsure }, { on := 11, ground := Go.Ground.textOnly Go.Departure.lateStoresUnsure }, { on := 12, ground := Go.Ground.phase }, { on := 13, ground := Go.Ground.textOnly Go.Departure.lateStores }, { on := 14, ground := Go.Ground.textOnly Go.Departure.lateStores }, { on := 15, ground := Go.Ground.textOnly Go.Departure.lateStores }, { on := 16, ground := Go.Ground.textOnly Go.Departure.lateStores }, { on := 17, ground := Go.Ground.textOnly Go.Departure.lateStoresUnsure }], guard := none }) (by rfl) (fun K2 hK => ?_)
  go_simp
  refine hK.out _ _ (⟨fun _ => hS0, fun _ => hS1⟩) ?_
  clear hK K2
  try simp only [Act.put, List.setIfInBounds_toArray, List.set_cons_zero, List.set_cons_succ]
  have cHB0 := HB.out.c 0 _ rfl; have fHB0 := HB.out.f 0 (by simp); have cHB1 := HB.out.c 1 _ rfl; have fHB1 := HB.out.f 1 (by simp); have cHB2 := HB.out.c 2 _ rfl; have fHB2 := HB.out.f 2 (by simp); have lHB := HB.out.lt
  refine stage_all (rs := [20]) (by kernel_rfl) (by simp) (fun i0 hi0 => ?_)
  obtain rfl : i0 = 20 := by simpa using hi0
  refine stage_step (S := fun (L' : Array Bool) (w' : World) => (L'.getD 20 false = false → w'.cell? ⟨g, 0, none⟩ = some (.slice (some ⟨gk, 0, none⟩) 5 kc)) ∧ (L'.getD 23 false = false → w'.cell? ⟨g, 2, none⟩ = some (.slice (some ⟨gi, 0, none⟩) 6 ic))) (o := { dst := none, op := Go.Op.store 57 (Go.Operand.tmp 102) (Go.Operand.tmp 91), type := 0, pos := "btree.go:164", after := #[{ on := 19, ground := Go.Ground.data }, { on := 8, ground := Go.Ground.data }, { on := 0, ground := Go.Ground.phase }, { on := 1, ground := Go.Ground.textOnly Go.Departure.lateStores }, { on := 2, ground := Go.Ground.phase }, { on := 3, ground := Go.Ground.phase }, { on := 4, ground := Go.Ground.phase }, { on := 5, ground := Go.Ground.phase }, { on := 6, ground := Go.Ground.phase }, { on := 7, ground := Go.Ground.phase }, { on := 8, ground := Go.Ground.phase }, { on := 9, ground := Go.Ground.textOnly Go.Departure.lateStores }, { on := 10, ground := Go.Ground.textOnly Go.Departure.lateStoresUnsure }, { on := 11, ground := Go.Ground.textOnly Go.Departure.lateStoresUnsure }, { on := 12, ground := Go.Ground.phase }, { on := 13, ground := Go.Ground.textOnly Go.Departure.lateStores }, { on := 14, ground := Go.Ground.textOnly Go.Departure.lateStores }, { on := 15, ground := Go.Ground.textOnly Go.Departure.lateStores }, { on := 16, ground := Go.Ground.textOnly Go.Departure.lateStores }, { on := 17, ground := Go.Ground.textOnly Go.Departure.lateStoresUnsure }], guard := none }) (by rfl) (fun K2 hK => ?_)
  go_simp
  clear cHB0 fHB0 cHB1 fHB1 cHB2 fHB2 lHB
  have hB9 := HB.out.set 0 (.slice (some ⟨gk, 0, none⟩) 2 2) (by simp)
  have hN9 := HN.out.other ⟨g, 0, none⟩ (.slice (some ⟨gk, 0, none⟩) 2 2) (by simp; omega)
  have hk9 := own_set hkq ⟨g, 0, none⟩ (.slice (some ⟨gk, 0, none⟩) 2 2) (by simp; omega)
  have hx9 := own_set hxq ⟨g, 0, none⟩ (.slice (some ⟨gk, 0, none⟩) 2 2) (by simp; omega)
  have hK9 := (Kept.of_below (B := fun k => k = g) HF.out (Nat.le_refl _)).set ⟨g, 0, none⟩ (.slice (some ⟨gk, 0, none⟩) 2 2) (.inr rfl)
  have HBn : Hid (Box (wb.setCell ⟨g, 0, none⟩ (.slice (some ⟨gk, 0, none⟩) 2 2)) g [.slice (some ⟨gk, 0, none⟩) 2 2, vv, .slice (some ⟨gi, 0, none⟩) 6 ic]) := Lib.hid hB9
  clear HB
  have HB := HBn
  replace HN := Lib.hid hN9
  replace hkq := hk9
  replace hxq := hx9
  have HK := Lib.hid hK9
  clear HBn hB9 hN9 hk9 hx9 hK9 hS0 hS1
  generalize (wb.setCell ⟨g, 0, none⟩ (.slice (some ⟨gk, 0, none⟩) 2 2)) = wc0 at *
  have hS1 : wc0.cell? ⟨g, 2, none⟩ = some (.slice (some ⟨gi, 0, none⟩) 6 ic) := HB.out.c 2 _ rfl
  refine hK.out _ _ (⟨fun h => by simp at h, fun _ => hS1⟩) ?_
  clear hK K2
  try simp only [Act.put, List.setIfInBounds_toArray, List.set_cons_zero, List.set_cons_succ]
  refine stage_all (rs := [21]) (by kernel_rfl) (by simp) (fun i0 hi0 => ?_)
  obtain rfl : i0 = 21 := by simpa using hi0
  refine stage_step (S := fun (L' : Array Bool) (w' : World) => (L'.getD 20 false = false → w'.cell? ⟨g, 0, none⟩ = some (.slice (some ⟨gk, 0, none⟩) 5 kc)) ∧ (L'.getD 23 false = false → w'.cell? ⟨g, 2, none⟩ = some (.slice (some ⟨gi, 0, none⟩) 6 ic))) (o := { dst := some 103, op := Go.Op.nilCheck (Go.Operand.tmp 84), type := 0, pos := "btree.go:164", after := #[{ on := 1, ground := Go.Ground.data }, { on := 0, ground := Go.Ground.phase }, { on := 1, ground := Go.Ground.phase }, { on := 2, ground := Go.Ground.phase }, { on := 3, ground := Go.Ground.phase }, { on := 4, ground := Go.Ground.phase }, { on := 5, ground := Go.Ground.phase }, { on := 6, ground := Go.Ground.phase }, { on := 7, ground := Go.Ground.phase }, { on := 8, ground := Go.Ground.phase }, { on := 9, ground := Go.Ground.phase }, { on := 10, ground := Go.Ground.phase }, { on := 11, ground := Go.Ground.phase }, { on := 12, ground := Go.Ground.phase }, { on := 13, ground := Go.Ground.phase }, { on := 14, ground := Go.Ground.phase }, { on := 15, ground := Go.Ground.phase }, { on := 16, ground := Go.Ground.phase }, { on := 17, ground := Go.Ground.phase }, { on := 18, ground := Go.Ground.phase }, { on := 19, ground := Go.Ground.phase }, { on := 20, ground := Go.Ground.phase }], guard := none }) (by rfl) (fun K2 hK => ?_)
  go_simp
  refine hK.out _ _ (⟨fun h => by simp at h, fun _ => hS1⟩) ?_
  clear hK K2
  try simp only [Act.put, List.setIfInBounds_toArray, List.set_cons_zero, List.set_cons_succ]
  refine stage_all (rs := [22]) (by kernel_rfl) (by simp) (fun i0 hi0 => ?_)
  obtain rfl : i0 = 22 := by simpa using hi0
  refine stage_step (S := fun (L' : Array Bool) (w' : World) => (L'.getD 20 false = false → w'.cell? ⟨g, 0, none⟩ = some (.slice (some ⟨gk, 0, none⟩) 5 kc)) ∧ (L'.getD 23 false = false → w'.cell? ⟨g, 2, none⟩ = some (.slice (some ⟨gi, 0, none⟩) 6 ic))) (o := { dst := some 104, op := Go.Op.fieldAddr 73 (Go.Operand.tmp 103) 2, type := 0, pos := "btree.go:164", after := #[{ on := 21, ground := Go.Ground.data }, { on := 0, ground := Go.Ground.phase }, { on := 1, ground := Go.Ground.phase }, { on := 2, ground := Go.Ground.phase }, { on := 3, ground := Go.Ground.phase }, { on := 4, ground := Go.Ground.phase }, { on := 5, ground := Go.Ground.phase }, { on := 6, ground := Go.Ground.phase }, { on := 7, ground := Go.Ground.phase }, { on := 8, ground := Go.Ground.phase }, { on := 9, ground := Go.Ground.phase }, { on := 10, ground := Go.Ground.phase }, { on := 11, ground := Go.Ground.phase }, { on := 12, ground := Go.Ground.phase }, { on := 13, ground := Go.Ground.phase }, { on := 14, ground := Go.Ground.phase }, { on := 15, ground := Go.Ground.phase }, { on := 16, ground := Go.Ground.phase }, { on := 17, ground := Go.Ground.phase }, { on := 18, ground := Go.Ground.phase }, { on := 19, ground := Go.Ground.phase }, { on := 20, ground := Go.Ground.phase }], guard := none }) (by rfl) (fun K2 hK => ?_)
  go_simp
  refine hK.out _ _ (⟨fun h => by simp at h, fun _ => hS1⟩) ?_
  clear hK K2
  try simp only [Act.put, List.setIfInBounds_toArray, List.set_cons_zero, List.set_cons_succ]
  have cHB0 := HB.out.c 0 _ rfl; have fHB0 := HB.out.f 0 (by simp); have cHB1 := HB.out.c 1 _ rfl; have fHB1 := HB.out.f 1 (by simp); have cHB2 := HB.out.c 2 _ rfl; have fHB2 := HB.out.f 2 (by simp); have lHB := HB.out.lt
  refine stage_all (rs := [23]) (by kernel_rfl) (by simp) (fun i0 hi0 => ?_)
  obtain rfl : i0 = 23 := by simpa using hi0
  refine stage_step (S := fun (L' : Array Bool) (w' : World) => (L'.getD 20 false = false → w'.cell? ⟨g, 0, none⟩ = some (.slice (some ⟨gk, 0, none⟩) 5 kc)) ∧ (L'.getD 23 false = false → w'.cell? ⟨g, 2, none⟩ = some (.slice (some ⟨gi, 0, none⟩) 6 ic))) (o := { dst := none, op := Go.Op.store 71 (Go.Operand.tmp 104) (Go.Operand.tmp 100), type := 0, pos := "btree.go:164", after := #[{ on := 22, ground := Go.Ground.data }, { on := 17, ground := Go.Ground.data }, { on := 20, ground := Go.Ground.chain }, { on := 0, ground := Go.Ground.phase }, { on := 1, ground := Go.Ground.phase }, { on := 2, ground := Go.Ground.phase }, { on := 3, ground := Go.Ground.phase }, { on := 4, ground := Go.Ground.phase }, { on := 5, ground := Go.Ground.phase }, { on := 6, ground := Go.Ground.phase }, { on := 7, ground := Go.Ground.phase }, { on := 8, ground := Go.Ground.phase }, { on := 9, ground := Go.Ground.phase }, { on := 10, ground := Go.Ground.phase }, { on := 11, ground := Go.Ground.phase }, { on := 12, ground := Go.Ground.phase }, { on := 13, ground := Go.Ground.phase }, { on := 14, ground := Go.Ground.phase }, { on := 15, ground := Go.Ground.phase }, { on := 16, ground := Go.Ground.phase }, { on := 17, ground := Go.Ground.phase }, { on := 18, ground := Go.Ground.phase }, { on := 19, ground := Go.Ground.phase }, { on := 20, ground := Go.Ground.phase }], guard := none }) (by rfl) (fun K2 hK => ?_)
  go_simp
  clear cHB0 fHB0 cHB1 fHB1 cHB2 fHB2 lHB
  have hB9 := HB.out.set 2 (.slice (some ⟨gi, 0, none⟩) 3 3) (by simp)
  have hN9 := HN.out.other ⟨g, 2, none⟩ (.slice (some ⟨gi, 0, none⟩) 3 3) (by simp; omega)
  have hk9 := own_set hkq ⟨g, 2, none⟩ (.slice (some ⟨gi, 0, none⟩) 3 3) (by simp; omega)
  have hx9 := own_set hxq ⟨g, 2, none⟩ (.slice (some ⟨gi, 0, none⟩) 3 3) (by simp; omega)
  have hK9 := HK.out.set ⟨g, 2, none⟩ (.slice (some ⟨gi, 0, none⟩) 3 3) (.inr rfl)
  have HBn : Hid (Box (wc0.setCell ⟨g, 2, none⟩ (.slice (some ⟨gi, 0, none⟩) 3 3)) g [.slice (some ⟨gk, 0, none⟩) 2 2, vv, .slice (some ⟨gi, 0, none⟩) 3 3]) := Lib.hid hB9
  clear HB
  have HB := HBn
  replace HN := Lib.hid hN9
  replace hkq := hk9
  replace hxq := hx9
  replace HK := Lib.hid hK9
  clear HBn hB9 hN9 hk9 hx9 hK9
  generalize (wc0.setCell ⟨g, 2, none⟩ (.slice (some ⟨gi, 0, none⟩) 3 3)) = wc1 at *
  clear hS1
  refine hK.out _ _ (⟨fun h => by simp at h, fun h => by simp at h⟩) ?_
  clear hK K2
  try simp only [Act.put, List.setIfInBounds_toArray, List.set_cons_zero, List.set_cons_succ]
  refine stage_done (by kernel_rfl) ?_ _
  go_wp2_with fail
  go_ret2
  have hsp : splitT (.mk [k0, k1, k2, k3, k4] [] [t0, t1, t2, t3, t4, t5]) = (k2, .mk [k0, k1] [] [t0, t1, t2], .mk [k3, k4] [] [t3, t4, t5]) := by simp [splitT]
  rw [hsp]
  have hrd := (HRD.out.kept HK.out (fun k hk h => h.2.1 hk)).mono (P' := AndNew P w) (fun b _ h => .inl h.1)
  refine ⟨g2, rfl, ?_, ?_, Nat.le_trans hzd hz2, HK.out⟩
  · show RdT _ _ g (.mk [k0, k1] [] [t0, t1, t2])
    unfold RdT
    exact ⟨_, _, _, [p0, p1, p2], HB.out, ((HKR.out.kept HK.out (fun k hk h => HAP.out.1 (hk ▸ h))).take_own 2 (by simp)).mono (fun b _ h => .inl (HPK.out b h)), (HVR.out.kept HK.out (fun k hk h => HAP.out.2.1 (hk ▸ h))).mono (fun b _ h => .inl (HPV.out b h)), ((HIR.out.kept HK.out (fun k hk h => HAP.out.2.2.2.1 (hk ▸ h))).take_own 3 (by simp)).mono (fun b _ h => .inl (HPI.out b h)), .inl hPg, hrd.take 3⟩
  · show RdT _ _ g2 (.mk [k3, k4] [] [t3, t4, t5])
    unfold RdT
    exact ⟨_, _, _, [p3, p4, p5], HN.out, (RowP.of_own encS_len hkq (fun b hb => .inr (Nat.le_trans hzd ((hkq.lt b hb).1)))), RowP.nil, (RowP.of_own encN_len hxq (fun b hb => .inr (Nat.le_trans hzd (Nat.le_trans hz0 (hxq.lt b hb).1)))), .inr (Nat.le_trans hzd hz2), hrd.drop 3⟩
end Go.Proofs.Ytkecbghnapjecaa
