/- Package btree: lay's closure. -/
import Derived.Test.YtkecbghnapjecaaLayL
import Derived.Test.YtkecbghnapjecaaStage
import Derived.Shelf.Abstract
namespace Go.Proofs.Ytkecbghnapjecaa
open Go.RowKit
set_option linter.unusedVariables false
set_option linter.unusedSimpArgs false
/-- Nodes laid, their rows in blocks of Q. -/
def LaidQ (Q : Nat → Prop) (w : World) (M : List V3) (s : List Nd) : Prop := M.length = s.length ∧ ∀ (i : Nat) (x : V3) (n : Nd), M[i]? = some x → s[i]? = some n → NdP Q w x n
theorem LaidQ.kept {Q B : Nat → Prop} {w w' : World} {M : List V3} {s : List Nd} (h : LaidQ Q w M s) (hk : Kept w.heap.size B w w') (hB : ∀ k, B k → ¬ Q k) : LaidQ Q w' M s := ⟨h.1, fun i x n h1 h2 => (h.2 i x n h1 h2).kept hk hB⟩
theorem LaidQ.below {Q : Nat → Prop} {w w' : World} {M : List V3} {s : List Nd} (h : LaidQ Q w M s) (hb : Below w.heap.size w w') : LaidQ Q w' M s := h.kept (B := fun _ => False) (Kept.of_below hb (Nat.le_refl _)) (fun _ h => h.elim)
theorem LaidQ.mono {Q Q' : Nat → Prop} {w : World} {M : List V3} {s : List Nd} (h : LaidQ Q w M s) (hQ : ∀ b, b < w.heap.size → Q b → Q' b) : LaidQ Q' w M s := ⟨h.1, fun i x n h1 h2 => (h.2 i x n h1 h2).mono hQ⟩
theorem LaidQ.nil {Q : Nat → Prop} {w : World} : LaidQ Q w [] [] := ⟨rfl, fun i x n h => by simp at h⟩
theorem LaidQ.append {Q : Nat → Prop} {w : World} {M M' : List V3} {s s' : List Nd} (h : LaidQ Q w M s) (h' : LaidQ Q w M' s') : LaidQ Q w (M ++ M') (s ++ s') := ⟨by simp [h.1, h'.1], fun i x n h1 h2 => by
  have hl := h.1
  by_cases hi : i < M.length
  · rw [List.getElem?_append_left hi] at h1
    rw [List.getElem?_append_left (by omega)] at h2
    exact h.2 i x n h1 h2
  · rw [List.getElem?_append_right (by omega)] at h1
    rw [List.getElem?_append_right (by omega), ← hl] at h2
    exact h'.2 _ x n h1 h2⟩
theorem LaidQ.cons {Q : Nat → Prop} {w : World} {x : V3} {M : List V3} {n : Nd} {s : List Nd} (h : NdP Q w x n) (h' : LaidQ Q w M s) : LaidQ Q w (x :: M) (n :: s) := LaidQ.append (M := [x]) (s := [n]) ⟨rfl, fun i y m h1 h2 => by
  cases i with
  | zero =>
    obtain rfl : x = y := by simpa using h1
    obtain rfl : n = m := by simpa using h2
    exact h
  | succ i => simp at h1⟩ h'
/-- Behind a row that has grown, or is a new one. -/
theorem LaidQ.grow {Q : Nat → Prop} {w w' : World} {v v' : Value} {M : List V3} {s : List Nd} (h : LaidQ (fun b => Q b ∧ v.ownBlock ≠ some b) w M s) (hk : Kept w.heap.size (fun k => v.ownBlock = some k) w w') (hn : v'.ownBlock = v.ownBlock ∨ ∀ b, v'.ownBlock = some b → w.heap.size ≤ b) : LaidQ (fun b => Q b ∧ v'.ownBlock ≠ some b) w' M s :=
  ((h.mono (Q' := fun b => (Q b ∧ v.ownBlock ≠ some b) ∧ v'.ownBlock ≠ some b) (fun b hb h => ⟨h, fun e => by
    rcases hn with hn | hn
    · exact h.2 (hn ▸ e)
    · have := hn b e; omega⟩)).kept hk (fun k hk h => h.1.2 hk)).mono (fun b _ h => ⟨h.1.1, h.2⟩)
structure LayOk (w : World) (N1 sb pb : Nat) (root : Int) (v : Value) (L : List V3) (P : Nat → Prop) (g : Nat) (t : Tr) : Prop where
  rd : RdT w P g t
  pn : ∀ b, P b → b < N1
  sn : N1 ≤ sb
  pbn : N1 ≤ pb
  ne : sb ≠ pb
  bs : Box w sb [v, .int .i64 root]
  bp : Box w pb [.func (.func 44) #[] #[.pointer (some ⟨sb, 0, none⟩), .pointer (some ⟨pb, 0, none⟩)]]
  own : w.ownsRow N1 66 3 v L.length (L.flatMap enc3)
  vs : v.ownBlock ≠ some sb
  vp : v.ownBlock ≠ some pb
  sz : (L.length + szT t) * 72 ≤ 140737488351232
  nw : N1 ≤ w.heap.size
def LayGo (t : Tr) : Prop := ∀ (w : World) (N1 sb pb : Nat) (root : Int) (v : Value) (L : List V3) (P : Nat → Prop) (g : Nat), LayOk w N1 sb pb root v L P g t →
  Calls Try.prog 44 #[.pointer (some ⟨g, 0, none⟩), .pointer (some ⟨sb, 0, none⟩), .pointer (some ⟨pb, 0, none⟩)] w fun e w' => ∃ (v' : Value) (M : List V3), e = .returned (.int .i64 L.length) ∧ w'.ownsRow N1 66 3 v' (L.length + szT t) ((L ++ M).flatMap enc3) ∧ LaidQ (fun b => (P b ∨ w.heap.size ≤ b) ∧ v'.ownBlock ≠ some b) w' M (layT L.length t) ∧
    Box w' sb [v', .int .i64 root] ∧ Kept w.heap.size (fun k => k = sb ∨ v.ownBlock = some k) w w' ∧ (v'.ownBlock = v.ownBlock ∨ ∀ b, v'.ownBlock = some b → w.heap.size ≤ b)
set_option maxHeartbeats 4000000 in
set_option maxRecDepth 100000 in
theorem lay_node (ks vs : List ByteArray) (ts : List Tr) (IH : ∀ t ∈ ts, LayGo t) : LayGo (.mk ks vs ts) := by
  intro w N1 sb pb root v L P g h
  obtain ⟨iN, hn0, hn1, hn2, hn3⟩ := info_parts (show (Try.prog.info? 66).map (fun i => (i.zero, i.size, i.bytes)) = some (some (.agg #[.slice none 0 0, .slice none 0 0, .slice none 0 0]), 3, 72) by kernel_rfl)
  obtain ⟨iI, hj0, hj1, hj2, hj3⟩ := info_parts (show (Try.prog.info? 3).map (fun i => (i.zero, i.size, i.bytes)) = some (some (.int .i64 0), 1, 8) by kernel_rfl)
  have eg : ∀ args w, (callFunc 44 args).run Try.prog w = .ok (.enter 44 args) w := enters_of Try.func44 (by kernel_rfl) rfl
  have hrd := h.rd
  unfold RdT at hrd
  obtain ⟨kv, vv, iv, ps, hG, hkr, hvr, hir, hPg, hrd⟩ := hrd
  have hpl := hrd.len
  obtain ⟨KA, kc, rfl, _, _, _, _⟩ := id hkr
  obtain ⟨VVA, vvc, rfl, _, _, _, _⟩ := id hvr
  obtain ⟨IA, ic, rfl, _, _, _, _⟩ := id hir
  rw [hpl] at hG hir
  obtain ⟨VA, vc, rfl, _, _⟩ := own_slice h.own
  have hpn := h.pn; have hsn := h.sn; have hpbn := h.pbn; have hne := h.ne; have hvs := h.vs; have hvp := h.vp; have hszb := h.sz; have hnw := h.nw
  have HG := Lib.hid hG
  have HS := Lib.hid h.bs
  have HPB := Lib.hid h.bp
  have HO := Lib.hid h.own
  have HRD := Lib.hid hrd
  have HKR := Lib.hid hkr
  have HVR := Lib.hid hvr
  have HIR := Lib.hid hir
  have HPL := Lib.hid hpl
  have hsbw : sb < w.heap.size := h.bs.lt
  have hpbw : pb < w.heap.size := h.bp.lt
  have hst1 : szT (.mk ks vs ts) = szTs ts + 1 := by conv => lhs; unfold szT
  rw [hst1] at hszb
  have hlt1 := szTs_len ts
  have hly : layT L.length (.mk ks vs ts) = ⟨ks, vs, (layTs (L.length + 1) ts).1⟩ :: (layTs (L.length + 1) ts).2 := by conv => lhs; unfold layT
  rw [hly, hst1]
  have HIH := Lib.hid IH
  clear h hG hrd hkr hvr hir hpl hst1 hly IH
  go_enter Try.func44, Try.ntmps44
  have cHS0 := HS.out.c 0 _ rfl; have fHS0 := HS.out.f 0 (by simp); have cHS1 := HS.out.c 1 _ rfl; have fHS1 := HS.out.f 1 (by simp); have lHS := HS.out.lt
  go_upto_region 2 with (fail)
  clear cHS0 fHS0 cHS1 fHS1 lHS
  refine stage_begin (S := fun (L' : Array Bool) (w' : World) => (Box w' g [.slice KA ks.length kc, .slice VVA vs.length vvc, .slice IA ts.length ic]) ∧ (L'.getD 14 false = false → Box w' sb [.slice VA L.length vc, .int .i64 root])) (by kernel_rfl) ?_
  have hdr : Below w.heap.size w w.drew := below_drewN (Below.refl _ _) 1
  replace HG := Lib.hid HG.out.drew
  replace HS := Lib.hid HS.out.drew
  replace HPB := Lib.hid HPB.out.drew
  replace HO := Lib.hid (own_below HO.out hdr)
  replace HRD := Lib.hid (HRD.out.below hdr)
  replace HKR := Lib.hid (HKR.out.below hdr)
  replace HVR := Lib.hid (HVR.out.below hdr)
  replace HIR := Lib.hid (HIR.out.below hdr)
  have hK0 := Kept.of_below (B := fun k => k = sb ∨ (Value.slice VA L.length vc).ownBlock = some k) hdr (Nat.le_refl _)
  have HK := Lib.hid hK0
  have hsz : w.heap.size ≤ w.drew.heap.size := hdr.size
  clear hdr hK0
  generalize w.drew = wd at *
  have hS0 : Box wd g [.slice KA ks.length kc, .slice VVA vs.length vvc, .slice IA ts.length ic] := HG.out
  have hS1 : Box wd sb [.slice VA L.length vc, .int .i64 root] := HS.out
  refine stage_take (i := 0) (oi := { dst := some 12, op := Go.Op.fieldAddr 27 (Go.Operand.tmp 1) 0, type := 0, pos := "btree.go:120", after := #[], guard := none }) (v := ?_) (T := fun _ => True) rfl (by kernel_rfl) (by kernel_rfl) (by kernel_rfl) (by kernel_rfl) (fun _ _ _ h => h) (fun L' w' hW hS => trivial) (fun L' w' hS => ⟨hS.1, fun h => hS.2 (by rw [getD_set_ne false (by decide)]; exact h)⟩) (Or.inl ⟨by rfl, ?_⟩) trivial (⟨hS0, fun _ => hS1⟩) ?_
  rotate_left 1
  · intro w9 _; go_simp; (try with_reducible rfl)
  try simp only [Act.put, List.setIfInBounds_toArray, List.set_cons_zero, List.set_cons_succ]
  refine stage_take (i := 1) (oi := { dst := some 13, op := Go.Op.load 25 (Go.Operand.tmp 12), type := 25, pos := "btree.go:120", after := #[{ on := 0, ground := Go.Ground.data }], guard := none }) (v := ?_) (T := fun w' : World => Box w' sb [.slice VA L.length vc, .int .i64 root]) rfl (by kernel_rfl) (by kernel_rfl) (by kernel_rfl) (by kernel_rfl) (fun _ _ _ h => h) (fun L' w' hW hS => hS.2 (not_yet hW (by kernel_rfl))) (fun L' w' hS => ⟨hS.1, fun h => hS.2 (by rw [getD_set_ne false (by decide)]; exact h)⟩) (Or.inl ⟨by rfl, ?_⟩) (hS1) (⟨hS0, fun _ => hS1⟩) ?_
  rotate_left 1
  · intro w9 zA; have z0 := zA.c 0 _ rfl; clear zA; go_simp; (try with_reducible rfl)
  try simp only [Act.put, List.setIfInBounds_toArray, List.set_cons_zero, List.set_cons_succ]
  refine stage_take (i := 2) (oi := { dst := some 14, op := Go.Op.move (Go.Operand.tmp 0), type := 67, pos := "btree.go:120", after := #[], guard := none }) (v := ?_) (T := fun _ => True) rfl (by kernel_rfl) (by kernel_rfl) (by kernel_rfl) (by kernel_rfl) (fun _ _ _ h => h) (fun L' w' hW hS => trivial) (fun L' w' hS => ⟨hS.1, fun h => hS.2 (by rw [getD_set_ne false (by decide)]; exact h)⟩) (Or.inl ⟨by rfl, ?_⟩) trivial (⟨hS0, fun _ => hS1⟩) ?_
  rotate_left 1
  · intro w9 _; go_simp; (try with_reducible rfl)
  try simp only [Act.put, List.setIfInBounds_toArray, List.set_cons_zero, List.set_cons_succ]
  refine stage_take (i := 3) (oi := { dst := some 15, op := Go.Op.nilCheck (Go.Operand.tmp 14), type := 0, pos := "btree.go:120", after := #[{ on := 2, ground := Go.Ground.data }], guard := none }) (v := ?_) (T := fun _ => True) rfl (by kernel_rfl) (by kernel_rfl) (by kernel_rfl) (by kernel_rfl) (fun _ _ _ h => h) (fun L' w' hW hS => trivial) (fun L' w' hS => ⟨hS.1, fun h => hS.2 (by rw [getD_set_ne false (by decide)]; exact h)⟩) (Or.inl ⟨by rfl, ?_⟩) trivial (⟨hS0, fun _ => hS1⟩) ?_
  rotate_left 1
  · intro w9 _; go_simp; (try with_reducible rfl)
  try simp only [Act.put, List.setIfInBounds_toArray, List.set_cons_zero, List.set_cons_succ]
  refine stage_take (i := 4) (oi := { dst := some 16, op := Go.Op.fieldAddr 73 (Go.Operand.tmp 15) 0, type := 0, pos := "btree.go:120", after := #[{ on := 3, ground := Go.Ground.data }], guard := none }) (v := ?_) (T := fun _ => True) rfl (by kernel_rfl) (by kernel_rfl) (by kernel_rfl) (by kernel_rfl) (fun _ _ _ h => h) (fun L' w' hW hS => trivial) (fun L' w' hS => ⟨hS.1, fun h => hS.2 (by rw [getD_set_ne false (by decide)]; exact h)⟩) (Or.inl ⟨by rfl, ?_⟩) trivial (⟨hS0, fun _ => hS1⟩) ?_
  rotate_left 1
  · intro w9 _; go_simp; (try with_reducible rfl)
  try simp only [Act.put, List.setIfInBounds_toArray, List.set_cons_zero, List.set_cons_succ]
  refine stage_take (i := 5) (oi := { dst := some 17, op := Go.Op.load 57 (Go.Operand.tmp 16), type := 57, pos := "btree.go:120", after := #[{ on := 4, ground := Go.Ground.data }], guard := none }) (v := ?_) (T := fun w' : World => Box w' g [.slice KA ks.length kc, .slice VVA vs.length vvc, .slice IA ts.length ic]) rfl (by kernel_rfl) (by kernel_rfl) (by kernel_rfl) (by kernel_rfl) (fun _ _ _ h => h) (fun L' w' hW hS => hS.1) (fun L' w' hS => ⟨hS.1, fun h => hS.2 (by rw [getD_set_ne false (by decide)]; exact h)⟩) (Or.inl ⟨by rfl, ?_⟩) (hS0) (⟨hS0, fun _ => hS1⟩) ?_
  rotate_left 1
  · intro w9 zA; have z0 := zA.c 0 _ rfl; clear zA; go_simp; (try with_reducible rfl)
  try simp only [Act.put, List.setIfInBounds_toArray, List.set_cons_zero, List.set_cons_succ]
  refine stage_take (i := 6) (oi := { dst := some 18, op := Go.Op.move (Go.Operand.tmp 0), type := 67, pos := "btree.go:120", after := #[], guard := none }) (v := ?_) (T := fun _ => True) rfl (by kernel_rfl) (by kernel_rfl) (by kernel_rfl) (by kernel_rfl) (fun _ _ _ h => h) (fun L' w' hW hS => trivial) (fun L' w' hS => ⟨hS.1, fun h => hS.2 (by rw [getD_set_ne false (by decide)]; exact h)⟩) (Or.inl ⟨by rfl, ?_⟩) trivial (⟨hS0, fun _ => hS1⟩) ?_
  rotate_left 1
  · intro w9 _; go_simp; (try with_reducible rfl)
  try simp only [Act.put, List.setIfInBounds_toArray, List.set_cons_zero, List.set_cons_succ]
  refine stage_take (i := 7) (oi := { dst := some 19, op := Go.Op.nilCheck (Go.Operand.tmp 18), type := 0, pos := "btree.go:120", after := #[{ on := 6, ground := Go.Ground.data }], guard := none }) (v := ?_) (T := fun _ => True) rfl (by kernel_rfl) (by kernel_rfl) (by kernel_rfl) (by kernel_rfl) (fun _ _ _ h => h) (fun L' w' hW hS => trivial) (fun L' w' hS => ⟨hS.1, fun h => hS.2 (by rw [getD_set_ne false (by decide)]; exact h)⟩) (Or.inl ⟨by rfl, ?_⟩) trivial (⟨hS0, fun _ => hS1⟩) ?_
  rotate_left 1
  · intro w9 _; go_simp; (try with_reducible rfl)
  try simp only [Act.put, List.setIfInBounds_toArray, List.set_cons_zero, List.set_cons_succ]
  refine stage_take (i := 8) (oi := { dst := some 20, op := Go.Op.fieldAddr 73 (Go.Operand.tmp 19) 1, type := 0, pos := "btree.go:120", after := #[{ on := 7, ground := Go.Ground.data }], guard := none }) (v := ?_) (T := fun _ => True) rfl (by kernel_rfl) (by kernel_rfl) (by kernel_rfl) (by kernel_rfl) (fun _ _ _ h => h) (fun L' w' hW hS => trivial) (fun L' w' hS => ⟨hS.1, fun h => hS.2 (by rw [getD_set_ne false (by decide)]; exact h)⟩) (Or.inl ⟨by rfl, ?_⟩) trivial (⟨hS0, fun _ => hS1⟩) ?_
  rotate_left 1
  · intro w9 _; go_simp; (try with_reducible rfl)
  try simp only [Act.put, List.setIfInBounds_toArray, List.set_cons_zero, List.set_cons_succ]
  refine stage_take (i := 9) (oi := { dst := some 21, op := Go.Op.load 57 (Go.Operand.tmp 20), type := 57, pos := "btree.go:120", after := #[{ on := 8, ground := Go.Ground.data }], guard := none }) (v := ?_) (T := fun w' : World => Box w' g [.slice KA ks.length kc, .slice VVA vs.length vvc, .slice IA ts.length ic]) rfl (by kernel_rfl) (by kernel_rfl) (by kernel_rfl) (by kernel_rfl) (fun _ _ _ h => h) (fun L' w' hW hS => hS.1) (fun L' w' hS => ⟨hS.1, fun h => hS.2 (by rw [getD_set_ne false (by decide)]; exact h)⟩) (Or.inl ⟨by rfl, ?_⟩) (hS0) (⟨hS0, fun _ => hS1⟩) ?_
  rotate_left 1
  · intro w9 zA; have z0 := zA.c 1 _ rfl; clear zA; go_simp; (try with_reducible rfl)
  try simp only [Act.put, List.setIfInBounds_toArray, List.set_cons_zero, List.set_cons_succ]
  refine stage_take (i := 10) (oi := { dst := some 22, op := Go.Op.build 66 #[(0, Go.Operand.tmp 17), (1, Go.Operand.tmp 21)], type := 66, pos := "btree.go:120", after := #[{ on := 5, ground := Go.Ground.data }, { on := 9, ground := Go.Ground.data }], guard := none }) (v := ?_) (T := fun _ => True) rfl (by kernel_rfl) (by kernel_rfl) (by kernel_rfl) (by kernel_rfl) (fun _ _ _ h => h) (fun L' w' hW hS => trivial) (fun L' w' hS => ⟨hS.1, fun h => hS.2 (by rw [getD_set_ne false (by decide)]; exact h)⟩) (Or.inl ⟨by rfl, ?_⟩) trivial (⟨hS0, fun _ => hS1⟩) ?_
  rotate_left 1
  · intro w9 _; go_simp; (try with_reducible rfl)
  try simp only [Act.put, List.setIfInBounds_toArray, List.set_cons_zero, List.set_cons_succ]
  refine stage_all (rs := [11]) (by kernel_rfl) (by simp) (fun i0 hi0 => ?_)
  obtain rfl : i0 = 11 := by simpa using hi0
  refine stage_step (S := fun (L' : Array Bool) (w' : World) => (Box w' g [.slice KA ks.length kc, .slice VVA vs.length vvc, .slice IA ts.length ic]) ∧ (L'.getD 14 false = false → Box w' sb [.slice VA L.length vc, .int .i64 root])) (o := { dst := some 23, op := Go.Op.buildSlice 25 1 #[(0, Go.Operand.tmp 22)], type := 25, pos := "btree.go:120", after := #[{ on := 10, ground := Go.Ground.data }], guard := none }) (by rfl) (fun K2 hK => ?_)
  go_simp
  clear hS0 hS1
  have hal : Below wd.heap.size wd (wd.alloc (.cells #[.slice KA ks.length kc, .slice VVA vs.length vvc, .slice none 0 0] 66)) := (Below.refl _ _).alloc (Nat.le_refl _) _
  have HNW : Hid (∀ jj u, (enc3 (.slice KA ks.length kc, .slice VVA vs.length vvc, .slice none 0 0))[jj]? = some u → (wd.alloc (.cells #[.slice KA ks.length kc, .slice VVA vs.length vvc, .slice none 0 0] 66)).cell? ((⟨wd.heap.size, 0, none⟩ : Addr).add jj) = some u) := Lib.hid (fun jj u hu => by rw [Addr.add_lit, Nat.zero_add]; exact (Box.new wd #[.slice KA ks.length kc, .slice VVA vs.length vvc, .slice none 0 0] 66).c jj u hu)
  replace HG := Lib.hid (HG.out.step hal)
  replace HS := Lib.hid (HS.out.step hal)
  replace HPB := Lib.hid (HPB.out.step hal)
  replace HO := Lib.hid (own_below HO.out hal)
  replace HRD := Lib.hid (HRD.out.below hal)
  replace HKR := Lib.hid (HKR.out.below hal)
  replace HVR := Lib.hid (HVR.out.below hal)
  replace HIR := Lib.hid (HIR.out.below hal)
  replace HK := Lib.hid (HK.out.trans (Kept.of_below hal HK.out.size))
  replace hsz := Nat.le_trans hsz hal.size
  clear hal
  generalize wd.alloc (.cells #[.slice KA ks.length kc, .slice VVA vs.length vvc, .slice none 0 0] 66) = wa at *
  generalize wd.heap.size = gq at *
  have hS0 : Box wa g [.slice KA ks.length kc, .slice VVA vs.length vvc, .slice IA ts.length ic] := HG.out
  have hS1 : Box wa sb [.slice VA L.length vc, .int .i64 root] := HS.out
  refine hK.out _ _ (⟨hS0, fun _ => hS1⟩) ?_
  clear hK K2
  try simp only [Act.put, List.setIfInBounds_toArray, List.set_cons_zero, List.set_cons_succ]
  refine stage_all (rs := [12]) (by kernel_rfl) (by simp) (fun i0 hi0 => ?_)
  obtain rfl : i0 = 12 := by simpa using hi0
  refine stage_step (S := fun (L' : Array Bool) (w' : World) => (Box w' g [.slice KA ks.length kc, .slice VVA vs.length vvc, .slice IA ts.length ic]) ∧ (L'.getD 14 false = false → Box w' sb [.slice VA L.length vc, .int .i64 root])) (o := { dst := some 24, op := Go.Op.call { callee := Go.Callee.builtin Go.Builtin.append, args := #[Go.Operand.tmp 13, Go.Operand.tmp 23], argTypes := #[25, 25] }, type := 25, pos := "btree.go:120", after := #[{ on := 1, ground := Go.Ground.data }, { on := 11, ground := Go.Ground.data }], guard := none }) (by rfl) (fun K2 hK => ?_)
  have hml : L.length + 1 ≤ maxLen := by simp only [maxLen]; omega
  have hmb : (L.length + 1) * 72 ≤ 140737488355328 := by omega
  have hone : ∀ u ∈ enc3 (.slice KA ks.length kc, .slice VVA vs.length vvc, .slice none 0 0), u.oneCell' = true := fun u hu => by simp [enc3] at hu; rcases hu with rfl | rfl | rfl <;> rfl
  have hbase : N1 ≤ wa.heap.size := by omega
  refine step_append_own2 rfl _ _ 25 rfl N1 66 iN (.agg #[.slice none 0 0, .slice none 0 0, .slice none 0 0]) 3 72 Try.underlying25 hn0 hn1 hn2 hn3 rfl (by decide) (.slice VA L.length vc) L.length _ rfl HO.out ⟨gq, 0, none⟩ 1 1 (enc3 (.slice KA ks.length kc, .slice VVA vs.length vvc, .slice none 0 0)) rfl rfl HNW.out hone hml hmb hbase (fun v' w9 hown hgrow hnew => ?_)
  clear hS0 hS1
  have hkg : Kept wa.heap.size (fun k => (Value.slice VA L.length vc).ownBlock = some k) wa w9 := (Kept.refl _ _ wa).grown hgrow (Nat.le_refl _) (fun k hk => .inr hk)
  have hol : ∀ b, (Value.slice VA L.length vc).ownBlock = some b → N1 ≤ b := fun b hb => (HO.out.lt b hb).1
  replace HG := Lib.hid (HG.out.kept hkg HG.out.lt (fun h => by have := hol _ h; have := hpn g hPg; omega))
  replace HS := Lib.hid (HS.out.kept hkg HS.out.lt hvs)
  replace HPB := Lib.hid (HPB.out.kept hkg HPB.out.lt hvp)
  have hdis : ∀ k, (Value.slice VA L.length vc).ownBlock = some k → ¬ P k := fun k hk h => by have := hol _ hk; have := hpn k h; omega
  replace HRD := Lib.hid (HRD.out.kept hkg hdis)
  replace HKR := Lib.hid (HKR.out.kept hkg hdis)
  replace HVR := Lib.hid (HVR.out.kept hkg hdis)
  replace HIR := Lib.hid (HIR.out.kept hkg hdis)
  replace HK := Lib.hid (HK.out.trans (kept_less hkg hsz (fun k _ hk => .inr hk)))
  have hnew2 : v'.ownBlock = (Value.slice VA L.length vc).ownBlock ∨ ∀ b, v'.ownBlock = some b → w.heap.size ≤ b := hnew.imp id (fun h b hb => Nat.le_trans hsz (h b hb))
  have hvsn : v'.ownBlock ≠ some sb := fun e => by rcases hnew2 with h | h; exact hvs (h ▸ e); have := h sb e; omega
  have hvpn : v'.ownBlock ≠ some pb := fun e => by rcases hnew2 with h | h; exact hvp (h ▸ e); have := h pb e; omega
  have HO9 : Hid (w9.ownsRow N1 66 3 v' (L.length + 1) ((L ++ [((.slice KA ks.length kc, .slice VVA vs.length vvc, .slice none 0 0) : V3)]).flatMap enc3)) := Lib.hid (by rw [List.flatMap_append]; simpa using hown)
  replace hsz := Nat.le_trans hsz hkg.size
  clear hown hgrow hnew hkg hol hdis hml hmb hone hbase HNW HO
  have hS0 : Box w9 g [.slice KA ks.length kc, .slice VVA vs.length vvc, .slice IA ts.length ic] := HG.out
  have hS1 : Box w9 sb [.slice VA L.length vc, .int .i64 root] := HS.out
  refine hK.out _ _ (⟨hS0, fun _ => hS1⟩) ?_
  clear hK K2
  try simp only [Act.put, List.setIfInBounds_toArray, List.set_cons_zero, List.set_cons_succ]
  refine stage_all (rs := [13]) (by kernel_rfl) (by simp) (fun i0 hi0 => ?_)
  obtain rfl : i0 = 13 := by simpa using hi0
  refine stage_step (S := fun (L' : Array Bool) (w' : World) => (Box w' g [.slice KA ks.length kc, .slice VVA vs.length vvc, .slice IA ts.length ic]) ∧ (L'.getD 14 false = false → Box w' sb [.slice VA L.length vc, .int .i64 root])) (o := { dst := some 25, op := Go.Op.fieldAddr 27 (Go.Operand.tmp 1) 0, type := 0, pos := "btree.go:120", after := #[{ on := 0, ground := Go.Ground.phase }, { on := 1, ground := Go.Ground.phase }, { on := 2, ground := Go.Ground.phase }, { on := 3, ground := Go.Ground.phase }, { on := 4, ground := Go.Ground.phase }, { on := 5, ground := Go.Ground.phase }, { on := 6, ground := Go.Ground.phase }, { on := 7, ground := Go.Ground.phase }, { on := 8, ground := Go.Ground.phase }, { on := 9, ground := Go.Ground.phase }, { on := 10, ground := Go.Ground.phase }, { on := 11, ground := Go.Ground.phase }, { on := 12, ground := Go.Ground.phase }], guard := none }) (by rfl) (fun K2 hK => ?_)
  go_simp
  refine hK.out _ _ (⟨hS0, fun _ => hS1⟩) ?_
  clear hK K2
  try simp only [Act.put, List.setIfInBounds_toArray, List.set_cons_zero, List.set_cons_succ]
  obtain ⟨A9, c9, rfl, _, _⟩ := own_slice HO9.out
  clear hS0 hS1
  have cHS0 := HS.out.c 0 _ rfl; have fHS0 := HS.out.f 0 (by simp); have cHS1 := HS.out.c 1 _ rfl; have fHS1 := HS.out.f 1 (by simp); have lHS := HS.out.lt
  refine stage_all (rs := [14]) (by kernel_rfl) (by simp) (fun i0 hi0 => ?_)
  obtain rfl : i0 = 14 := by simpa using hi0
  refine stage_step (S := fun (L' : Array Bool) (w' : World) => (Box w' g [.slice KA ks.length kc, .slice VVA vs.length vvc, .slice IA ts.length ic]) ∧ (L'.getD 14 false = false → Box w' sb [.slice VA L.length vc, .int .i64 root])) (o := { dst := none, op := Go.Op.store 25 (Go.Operand.tmp 25) (Go.Operand.tmp 24), type := 0, pos := "btree.go:120", after := #[{ on := 13, ground := Go.Ground.data }, { on := 12, ground := Go.Ground.data }, { on := 12, ground := Go.Ground.chain }, { on := 0, ground := Go.Ground.phase }, { on := 1, ground := Go.Ground.phase }, { on := 2, ground := Go.Ground.phase }, { on := 3, ground := Go.Ground.phase }, { on := 4, ground := Go.Ground.phase }, { on := 5, ground := Go.Ground.phase }, { on := 6, ground := Go.Ground.phase }, { on := 7, ground := Go.Ground.phase }, { on := 8, ground := Go.Ground.phase }, { on := 9, ground := Go.Ground.phase }, { on := 10, ground := Go.Ground.phase }, { on := 11, ground := Go.Ground.phase }, { on := 12, ground := Go.Ground.phase }], guard := none }) (by rfl) (fun K2 hK => ?_)
  go_simp
  clear cHS0 fHS0 cHS1 fHS1 lHS
  generalize hv9 : Value.slice A9 (L.length + 1) c9 = v9 at *
  clear hv9
  have hset : Kept w9.heap.size (fun k => k = sb) w9 (w9.setCell ⟨sb, 0, none⟩ v9) := (Kept.refl _ _ _).set _ _ (.inr rfl)
  have hS9 := HS.out.set 0 v9 (by simp)
  have HS9 : Hid (Box (w9.setCell ⟨sb, 0, none⟩ v9) sb [v9, .int .i64 root]) := Lib.hid hS9
  replace HG := Lib.hid (HG.out.kept hset HG.out.lt (fun h => by have := hpn g hPg; omega))
  replace HPB := Lib.hid (HPB.out.kept hset HPB.out.lt (fun h => hne h.symm))
  replace HO9 := Lib.hid (hset.own HO9.out (fun b hb => ⟨(HO9.out.lt b hb).2, fun e => hvsn (e ▸ hb)⟩))
  have hdis : ∀ k, k = sb → ¬ P k := fun k hk h => by have := hpn k h; omega
  replace HRD := Lib.hid (HRD.out.kept hset hdis)
  replace HKR := Lib.hid (HKR.out.kept hset hdis)
  replace HVR := Lib.hid (HVR.out.kept hset hdis)
  replace HIR := Lib.hid (HIR.out.kept hset hdis)
  replace HK := Lib.hid (HK.out.trans (kept_less hset hsz (fun k _ hk => .inl hk)))
  replace hsz := Nat.le_trans hsz hset.size
  clear hset hS9 hdis HS
  generalize (w9.setCell ⟨sb, 0, none⟩ v9) = w10 at *
  have hS0 : Box w10 g [.slice KA ks.length kc, .slice VVA vs.length vvc, .slice IA ts.length ic] := HG.out
  refine hK.out _ _ (⟨hS0, fun h => by simp at h⟩) ?_
  clear hK K2
  try simp only [Act.put, List.setIfInBounds_toArray, List.set_cons_zero, List.set_cons_succ]
  refine stage_done (by kernel_rfl) ?_ _
  clear hS0
  generalize hv0 : Value.slice VA L.length vc = v0 at *
  have HV0 := Lib.hid hv0
  clear hv0
  obtain ⟨w2, hw2⟩ : ∃ w2, w10 = w2 := ⟨_, rfl⟩
  subst hw2
  have cHG0 := HG.out.c 0 _ rfl; have fHG0 := HG.out.f 0 (by simp); have cHG1 := HG.out.c 1 _ rfl; have fHG1 := HG.out.f 1 (by simp); have cHG2 := HG.out.c 2 _ rfl; have fHG2 := HG.out.f 2 (by simp); have lHG := HG.out.lt
  go_wp2_with fail
  clear cHG0 fHG0 cHG1 fHG1 cHG2 fHG2 lHG
  have hJ0 : w10.ownsRow w.heap.size 3 1 (.slice none 0 0) 0 (([] : List Int).flatMap encI) := World.ownsRow_nil _ _ _ _
  have HJ := Lib.hid hJ0
  clear hJ0
  go_loopw [31] (fun i wr => ∃ (j : Nat) (vj jv : Value) (M : List V3) (js : List Int), j ≤ ts.length ∧ i = .int .i64 j ∧ js.length = j ∧ M.length = szTs (ts.take j) ∧ Hid (js = (layTs (L.length + 1) (ts.take j)).1) ∧ Hid (wr.ownsRow N1 66 3 vj (L.length + 1 + M.length) ((L ++ (.slice KA ks.length kc, .slice VVA vs.length vvc, jv) :: M).flatMap enc3)) ∧
    Hid (LaidQ (fun b => ((P b ∨ w.heap.size ≤ b) ∧ vj.ownBlock ≠ some b) ∧ jv.ownBlock ≠ some b) wr M (layTs (L.length + 1) (ts.take j)).2) ∧ Hid (wr.ownsRow w.heap.size 3 1 jv j (js.flatMap encI)) ∧ (∀ b, jv.ownBlock = some b → vj.ownBlock ≠ some b) ∧
    Hid (Box wr g [.slice KA ks.length kc, .slice VVA vs.length vvc, .slice IA ts.length ic]) ∧ Hid (Box wr sb [vj, .int .i64 root]) ∧ Hid (Box wr pb [.func (.func 44) #[] #[.pointer (some ⟨sb, 0, none⟩), .pointer (some ⟨pb, 0, none⟩)]]) ∧ Hid (RdsT wr P ps ts) ∧ Hid (RowP encS P wr (.slice KA ks.length kc) ks) ∧ Hid (RowP encS P wr (.slice VVA vs.length vvc) vs) ∧ Hid (RowP encN P wr (.slice IA ts.length ic) ps) ∧
    Hid (Kept w.heap.size (fun k => k = sb ∨ v0.ownBlock = some k) w wr) ∧ (vj.ownBlock = v0.ownBlock ∨ ∀ b, vj.ownBlock = some b → w.heap.size ≤ b) ∧ vj.ownBlock ≠ some sb ∧ vj.ownBlock ≠ some pb) (fun i _ => ts.length - (Lib.intOf i).toNat)
  case atStart => exact ⟨0, v9, .slice none 0 0, [], [], Nat.zero_le _, rfl, rfl, rfl, Lib.hid (by simp [layTs]), Lib.hid (by simpa using HO9.out), Lib.hid (by simp only [List.take_zero]; unfold layTs; exact LaidQ.nil), HJ, fun b hb => by simp [Value.ownBlock] at hb, HG, HS9, HPB, HRD, HKR, HVR, HIR, HK, hnew2, hvsn, hvpn⟩
  case round =>
  clear HG HS9 HPB HO9 HRD HKR HVR HIR HK HJ hnew2 hvsn hvpn hsz
  obtain ⟨j, vj, jv, M, js, hj, rfl, hjs, hMl, HJS, HO, HLD, HJ, hjvj, HG, HS, HPB, HRD, HKR, HVR, HIR, HK, hvj0, hvjs, hvjp⟩ := hrel
  by_cases hlt : j < ts.length
  · obtain ⟨t, ht⟩ : ∃ t, ts[j]? = some t := ⟨_, List.getElem?_eq_getElem hlt⟩
    obtain ⟨p, hp, hrt⟩ := HRD.out.get ht
    obtain ⟨bI, oI, ic', hiv, hbI, hcI⟩ := HIR.out.cell hp rfl (Below.refl _ _)
    have HJL := Lib.hid hjs
    have hsum := szTs_take ts j t ht
    have hszr := HK.out.size
    have hll : (L ++ (.slice KA ks.length kc, .slice VVA vs.length vvc, jv) :: M).length = L.length + 1 + M.length := by simp; omega
    have hIHt := HIH.out t (List.mem_of_getElem? ht) wr N1 sb pb root vj (L ++ (.slice KA ks.length kc, .slice VVA vs.length vvc, jv) :: M) P p ⟨hrt, hpn, hsn, hpbn, hne, HS.out, HPB.out, by rw [hll]; exact HO.out, hvjs, hvjp, by rw [hll]; omega, by omega⟩
    rw [hll] at hIHt
    have HIT := Lib.hid hIHt
    have htk : ts.take (j + 1) = ts.take j ++ [t] := by rw [List.take_add_one, ht]; rfl
    have HTK := Lib.hid htk
    clear hIHt hp hrt ht htk
    injection hiv with e1 e2 e3
    subst e1
    clear e2 e3
    have cHPB0 := HPB.out.c 0 _ rfl; have fHPB0 := HPB.out.f 0 (by simp); have lHPB := HPB.out.lt
    go_wp2_with (go_at_fn 44; (with_reducible refine HIT.out.mono ?_))
    rintro e w8 ⟨v8, M8, rfl, hown8, hld8, hs8, hk8, hn8⟩
    clear cHPB0 fHPB0 lHPB
    clear HIT HS
    have hvN : ∀ b, vj.ownBlock = some b → N1 ≤ b := fun b hb => (HO.out.lt b hb).1
    have hjw : ∀ b, jv.ownBlock = some b → w.heap.size ≤ b ∧ b < wr.heap.size := fun b hb => HJ.out.lt b hb
    have hBN : ∀ k, (k = sb ∨ vj.ownBlock = some k) → N1 ≤ k := fun k hk => by
      rcases hk with rfl | hk
      · exact hsn
      · exact hvN k hk
    have hdis : ∀ k, (k = sb ∨ vj.ownBlock = some k) → ¬ P k := fun k hk h => by have := hBN k hk; have := hpn k h; omega
    have hM8 : M8.length = szT t := by rw [hld8.1, layT_len]
    replace HG := Lib.hid (HG.out.kept hk8 HG.out.lt (fun h => by have := hBN g h; have := hpn g hPg; omega))
    replace HPB := Lib.hid (HPB.out.kept hk8 HPB.out.lt (fun h => by rcases h with h | h; exact hne h.symm; exact hvjp h))
    have HS := Lib.hid hs8
    replace HRD := Lib.hid (HRD.out.kept hk8 hdis)
    replace HKR := Lib.hid (HKR.out.kept hk8 hdis)
    replace HVR := Lib.hid (HVR.out.kept hk8 hdis)
    replace HIR := Lib.hid (HIR.out.kept hk8 hdis)
    replace HJ := Lib.hid (hk8.own HJ.out (fun b hb => ⟨(hjw b hb).2, fun h => by
      rcases h with h | h
      · have := (hjw b hb).1; omega
      · exact hjvj b hb h⟩))
    have hld9 : LaidQ (fun b => ((P b ∨ w.heap.size ≤ b) ∧ v8.ownBlock ≠ some b) ∧ jv.ownBlock ≠ some b) w8 M (layTs (L.length + 1) (ts.take j)).2 := ((HLD.out.mono (Q' := fun b => (((P b ∨ w.heap.size ≤ b) ∧ vj.ownBlock ≠ some b) ∧ jv.ownBlock ≠ some b) ∧ v8.ownBlock ≠ some b) (fun b hb h => ⟨h, fun e => by
      rcases hn8 with hn | hn
      · exact h.1.2 (hn ▸ e)
      · have := hn b e; omega⟩)).kept hk8 (fun k hk h => by
        rcases hk with hk | hk
        · subst hk
          rcases h.1.1.1 with h | h
          · have := hpn _ h; omega
          · omega
        · exact h.1.1.2 hk)).mono (fun b _ h => ⟨⟨h.1.1.1, h.2⟩, h.1.2⟩)
    have hld10 : LaidQ (fun b => ((P b ∨ w.heap.size ≤ b) ∧ v8.ownBlock ≠ some b) ∧ jv.ownBlock ≠ some b) w8 M8 (layT (L.length + 1 + M.length) t) := hld8.mono (fun b _ h => ⟨⟨h.1.imp id (fun h => by omega), h.2⟩, fun e => by
      have := hjw b e
      rcases h.1 with h | h
      · have := hpn b h; omega
      · omega⟩)
    have hld11 := hld9.append hld10
    have hidx : (layTs (L.length + 1) (ts.take (j + 1))) = ((layTs (L.length + 1) (ts.take j)).1 ++ [((L.length + 1 + M.length : Nat) : Int)], (layTs (L.length + 1) (ts.take j)).2 ++ layT (L.length + 1 + M.length) t) := by rw [HTK.out, layTs_snoc, hMl]
    have hmlen : (M ++ M8).length = szTs (ts.take (j + 1)) := by rw [HTK.out, szTs_snoc, List.length_append, hMl, hM8]
    have HMLEN := Lib.hid hmlen
    have hjs2 : js ++ [((L.length + 1 + M.length : Nat) : Int)] = (layTs (L.length + 1) (ts.take (j + 1))).1 := by rw [hidx, HJS.out]
    rw [show (layTs (L.length + 1) (ts.take j)).2 ++ layT (L.length + 1 + M.length) t = (layTs (L.length + 1) (ts.take (j + 1))).2 by rw [hidx]] at hld11
    obtain ⟨kx, hkx⟩ : ∃ kx : Int, ((L.length + 1 + M.length : Nat) : Int) = kx := ⟨_, rfl⟩
    rw [hkx] at hjs2
    rw [hkx]
    have HJS2 := Lib.hid hjs2
    replace HLD := Lib.hid hld11
    have hown9 : w8.ownsRow N1 66 3 v8 (L.length + 1 + (M ++ M8).length) ((L ++ (.slice KA ks.length kc, .slice VVA vs.length vvc, jv) :: (M ++ M8)).flatMap enc3) := by
      rw [List.length_append, hM8, ← Nat.add_assoc]
      rw [List.append_assoc] at hown8
      exact hown8
    have hmle : L.length + 1 + (M ++ M8).length ≤ L.length + 1 + szTs ts := by rw [List.length_append, hM8, hMl]; omega
    obtain ⟨m, hm⟩ : ∃ m, L.length + 1 + (M ++ M8).length = m := ⟨_, rfl⟩
    rw [hm] at hown9 hmle
    have HM := Lib.hid hm
    have hLm : L.length < m := by omega
    obtain ⟨gv, mc, rfl, hmc⟩ := own_pos hown9 (by omega)
    generalize M ++ M8 = M9 at *
    have HO9 := Lib.hid hown9
    have HC3 : Hid (∀ W : World, W.ownsRow N1 66 3 (.slice (some ⟨gv, 0, none⟩) m mc) m ((L ++ (.slice KA ks.length kc, .slice VVA vs.length vvc, jv) :: M9).flatMap enc3) → W.cell? ⟨gv, L.length * 3 + 2, none⟩ = some jv) := Lib.hid (fun W h => by
      rw [h.cellAt (L.length * 3 + 2) (by omega)]
      exact enc3_get L M9 _ _ jv)
    have hgvl := (hown9.lt gv rfl)
    have hgvN : N1 ≤ gv := hgvl.1
    have hjv : jv.ownBlock ≠ some gv := fun e => by
      rcases hn8 with h | h
      · exact hjvj gv e (by rw [← h]; rfl)
      · have := h gv rfl; have := (hjw gv e).2; omega
    have hsgv : ¬ sb = gv := fun e => by
      rcases hn8 with h | h
      · exact hvjs (by rw [← h, e]; rfl)
      · have := h gv rfl; omega
    have hpgv : ¬ pb = gv := fun e => by
      rcases hn8 with h | h
      · exact hvjp (by rw [← h, e]; rfl)
      · have := h gv rfl; omega
    have hv80 : (Value.slice (some ⟨gv, 0, none⟩) m mc).ownBlock = v0.ownBlock ∨ ∀ b, (Value.slice (some ⟨gv, 0, none⟩) m mc).ownBlock = some b → w.heap.size ≤ b := by
      rcases hn8 with h | h
      · rw [h]; exact hvj0
      · exact .inr (fun b hb => by have := h b hb; omega)
    have hgvk : w.heap.size ≤ gv ∨ (gv = sb ∨ v0.ownBlock = some gv) := by
      rcases hv80 with h | h
      · exact .inr (.inr (by rw [← h]; rfl))
      · exact .inl (h gv rfl)
    replace HK : Hid (Kept w.heap.size (fun k => k = sb ∨ v0.ownBlock = some k) w w8) := Lib.hid (HK.out.trans (kept_less hk8 hszr (fun k hk h => by
      rcases h with h | h
      · exact .inl h
      · rcases hvj0 with q | q
        · exact .inr (q ▸ h)
        · have := q k h; omega)))
    have hsz8 : w.heap.size ≤ w8.heap.size := HK.out.size
    have HV80 := Lib.hid hv80
    clear hown8 hld8 hs8 hk8 hn8 hvN hjw hBN hdis hM8 hld9 hld10 hld11 hidx hmlen hjs2 hown9 hm hv80 HO HJS hMl hkx hgvl hsum hjvj hvj0 hvjs hvjp hjs HTK hll hszr
    have HO := HO9
    clear HO9
    have hjs : True := trivial
    clear hjs
    go_upto_region 7 with (fail)
    refine stage_begin (S := fun (L' : Array Bool) (w' : World) => (Box w' sb [.slice (some ⟨gv, 0, none⟩) m mc, .int .i64 root]) ∧ (L'.getD 14 false = false → w'.cell? ⟨gv, L.length * 3 + 2, none⟩ = some jv)) (by kernel_rfl) ?_
    have hdr : Below w8.heap.size w8 w8.drew := below_drewN (Below.refl _ _) 1
    replace HG := Lib.hid (HG.out.step hdr)
    replace HS := Lib.hid (HS.out.step hdr)
    replace HPB := Lib.hid (HPB.out.step hdr)
    replace HRD := Lib.hid (HRD.out.below hdr)
    replace HKR := Lib.hid (HKR.out.below hdr)
    replace HVR := Lib.hid (HVR.out.below hdr)
    replace HIR := Lib.hid (HIR.out.below hdr)
    replace HLD := Lib.hid (HLD.out.below hdr)
    replace HO := Lib.hid (own_below HO.out hdr)
    replace HJ := Lib.hid (own_below HJ.out hdr)
    replace HK := Lib.hid (HK.out.trans (Kept.of_below hdr HK.out.size))
    replace hsz8 := Nat.le_trans hsz8 hdr.size
    clear hdr
    generalize w8.drew = wd at *
    have hS0 : Box wd sb [.slice (some ⟨gv, 0, none⟩) m mc, .int .i64 root] := HS.out
    have hS1 : wd.cell? ⟨gv, L.length * 3 + 2, none⟩ = some jv := HC3.out wd HO.out
    refine stage_take (i := 0) (oi := { dst := some 38, op := Go.Op.fieldAddr 27 (Go.Operand.tmp 1) 0, type := 0, pos := "btree.go:123", after := #[], guard := none }) (v := ?_) (T := fun _ => True) rfl (by kernel_rfl) (by kernel_rfl) (by kernel_rfl) (by kernel_rfl) (fun _ _ _ h => h) (fun L' w' hW hS => trivial) (fun L' w' hS => ⟨hS.1, fun h => hS.2 (by rw [getD_set_ne false (by decide)]; exact h)⟩) (Or.inl ⟨by rfl, ?_⟩) trivial (⟨hS0, fun _ => hS1⟩) ?_
    rotate_left 1
    · intro w9 _; go_simp; (try with_reducible rfl)
    try simp only [Act.put, List.setIfInBounds_toArray, List.set_cons_zero, List.set_cons_succ]
    refine stage_take (i := 1) (oi := { dst := some 39, op := Go.Op.load 25 (Go.Operand.tmp 38), type := 25, pos := "btree.go:123", after := #[{ on := 0, ground := Go.Ground.data }], guard := none }) (v := ?_) (T := fun w' : World => Box w' sb [.slice (some ⟨gv, 0, none⟩) m mc, .int .i64 root]) rfl (by kernel_rfl) (by kernel_rfl) (by kernel_rfl) (by kernel_rfl) (fun _ _ _ h => h) (fun L' w' hW hS => hS.1) (fun L' w' hS => ⟨hS.1, fun h => hS.2 (by rw [getD_set_ne false (by decide)]; exact h)⟩) (Or.inl ⟨by rfl, ?_⟩) (hS0) (⟨hS0, fun _ => hS1⟩) ?_
    rotate_left 1
    · intro w9 zA; have z0 := zA.c 0 _ rfl; clear zA; go_simp; (try with_reducible rfl)
    try simp only [Act.put, List.setIfInBounds_toArray, List.set_cons_zero, List.set_cons_succ]
    refine stage_take (i := 2) (oi := { dst := some 40, op := Go.Op.move (Go.Operand.tmp 5), type := 3, pos := "btree.go:123", after := #[], guard := none }) (v := ?_) (T := fun _ => True) rfl (by kernel_rfl) (by kernel_rfl) (by kernel_rfl) (by kernel_rfl) (fun _ _ _ h => h) (fun L' w' hW hS => trivial) (fun L' w' hS => ⟨hS.1, fun h => hS.2 (by rw [getD_set_ne false (by decide)]; exact h)⟩) (Or.inl ⟨by rfl, ?_⟩) trivial (⟨hS0, fun _ => hS1⟩) ?_
    rotate_left 1
    · intro w9 _; go_simp; (try with_reducible rfl)
    try simp only [Act.put, List.setIfInBounds_toArray, List.set_cons_zero, List.set_cons_succ]
    refine stage_take (i := 3) (oi := { dst := some 41, op := Go.Op.fieldAddr 27 (Go.Operand.tmp 1) 0, type := 0, pos := "btree.go:123", after := #[], guard := none }) (v := ?_) (T := fun _ => True) rfl (by kernel_rfl) (by kernel_rfl) (by kernel_rfl) (by kernel_rfl) (fun _ _ _ h => h) (fun L' w' hW hS => trivial) (fun L' w' hS => ⟨hS.1, fun h => hS.2 (by rw [getD_set_ne false (by decide)]; exact h)⟩) (Or.inl ⟨by rfl, ?_⟩) trivial (⟨hS0, fun _ => hS1⟩) ?_
    rotate_left 1
    · intro w9 _; go_simp; (try with_reducible rfl)
    try simp only [Act.put, List.setIfInBounds_toArray, List.set_cons_zero, List.set_cons_succ]
    refine stage_take (i := 4) (oi := { dst := some 42, op := Go.Op.load 25 (Go.Operand.tmp 41), type := 25, pos := "btree.go:123", after := #[{ on := 3, ground := Go.Ground.data }], guard := none }) (v := ?_) (T := fun w' : World => Box w' sb [.slice (some ⟨gv, 0, none⟩) m mc, .int .i64 root]) rfl (by kernel_rfl) (by kernel_rfl) (by kernel_rfl) (by kernel_rfl) (fun _ _ _ h => h) (fun L' w' hW hS => hS.1) (fun L' w' hS => ⟨hS.1, fun h => hS.2 (by rw [getD_set_ne false (by decide)]; exact h)⟩) (Or.inl ⟨by rfl, ?_⟩) (hS0) (⟨hS0, fun _ => hS1⟩) ?_
    rotate_left 1
    · intro w9 zA; have z0 := zA.c 0 _ rfl; clear zA; go_simp; (try with_reducible rfl)
    try simp only [Act.put, List.setIfInBounds_toArray, List.set_cons_zero, List.set_cons_succ]
    refine stage_take (i := 5) (oi := { dst := some 43, op := Go.Op.move (Go.Operand.tmp 5), type := 3, pos := "btree.go:123", after := #[], guard := none }) (v := ?_) (T := fun _ => True) rfl (by kernel_rfl) (by kernel_rfl) (by kernel_rfl) (by kernel_rfl) (fun _ _ _ h => h) (fun L' w' hW hS => trivial) (fun L' w' hS => ⟨hS.1, fun h => hS.2 (by rw [getD_set_ne false (by decide)]; exact h)⟩) (Or.inl ⟨by rfl, ?_⟩) trivial (⟨hS0, fun _ => hS1⟩) ?_
    rotate_left 1
    · intro w9 _; go_simp; (try with_reducible rfl)
    try simp only [Act.put, List.setIfInBounds_toArray, List.set_cons_zero, List.set_cons_succ]
    refine stage_take (i := 6) (oi := { dst := some 44, op := Go.Op.indexAddr 25 (Go.Operand.tmp 42) (Go.Operand.tmp 43), type := 0, pos := "btree.go:123", after := #[{ on := 4, ground := Go.Ground.data }, { on := 5, ground := Go.Ground.data }], guard := none }) (v := ?_) (T := fun _ => True) rfl (by kernel_rfl) (by kernel_rfl) (by kernel_rfl) (by kernel_rfl) (fun _ _ _ h => h) (fun L' w' hW hS => trivial) (fun L' w' hS => ⟨hS.1, fun h => hS.2 (by rw [getD_set_ne false (by decide)]; exact h)⟩) (Or.inl ⟨by rfl, ?_⟩) trivial (⟨hS0, fun _ => hS1⟩) ?_
    rotate_left 1
    · intro w9 _; go_simp; (try with_reducible rfl)
    try simp only [Act.put, List.setIfInBounds_toArray, List.set_cons_zero, List.set_cons_succ]
    refine stage_take (i := 7) (oi := { dst := some 45, op := Go.Op.fieldAddr 66 (Go.Operand.tmp 44) 2, type := 0, pos := "btree.go:123", after := #[{ on := 6, ground := Go.Ground.data }], guard := none }) (v := ?_) (T := fun _ => True) rfl (by kernel_rfl) (by kernel_rfl) (by kernel_rfl) (by kernel_rfl) (fun _ _ _ h => h) (fun L' w' hW hS => trivial) (fun L' w' hS => ⟨hS.1, fun h => hS.2 (by rw [getD_set_ne false (by decide)]; exact h)⟩) (Or.inl ⟨by rfl, ?_⟩) trivial (⟨hS0, fun _ => hS1⟩) ?_
    rotate_left 1
    · intro w9 _; go_simp; (try with_reducible rfl)
    try simp only [Act.put, List.setIfInBounds_toArray, List.set_cons_zero, List.set_cons_succ]
    refine stage_take (i := 8) (oi := { dst := some 46, op := Go.Op.load 63 (Go.Operand.tmp 45), type := 63, pos := "btree.go:123", after := #[{ on := 7, ground := Go.Ground.data }], guard := none }) (v := ?_) (T := fun w' : World => w'.cell? ⟨gv, L.length * 3 + 2, none⟩ = some jv) rfl (by kernel_rfl) (by kernel_rfl) (by kernel_rfl) (by kernel_rfl) (fun _ _ _ h => h) (fun L' w' hW hS => hS.2 (not_yet hW (by kernel_rfl))) (fun L' w' hS => ⟨hS.1, fun h => hS.2 (by rw [getD_set_ne false (by decide)]; exact h)⟩) (Or.inl ⟨by rfl, ?_⟩) (hS1) (⟨hS0, fun _ => hS1⟩) ?_
    rotate_left 1
    · intro w9 zA; have z0 := zA; clear zA; go_simp; (try with_reducible rfl)
    try simp only [Act.put, List.setIfInBounds_toArray, List.set_cons_zero, List.set_cons_succ]
    refine stage_take (i := 9) (oi := { dst := some 47, op := Go.Op.move (Go.Operand.tmp 8), type := 3, pos := "btree.go:123", after := #[], guard := none }) (v := ?_) (T := fun _ => True) rfl (by kernel_rfl) (by kernel_rfl) (by kernel_rfl) (by kernel_rfl) (fun _ _ _ h => h) (fun L' w' hW hS => trivial) (fun L' w' hS => ⟨hS.1, fun h => hS.2 (by rw [getD_set_ne false (by decide)]; exact h)⟩) (Or.inl ⟨by rfl, ?_⟩) trivial (⟨hS0, fun _ => hS1⟩) ?_
    rotate_left 1
    · intro w9 _; go_simp; (try with_reducible rfl)
    try simp only [Act.put, List.setIfInBounds_toArray, List.set_cons_zero, List.set_cons_succ]
    refine stage_all (rs := [10]) (by kernel_rfl) (by simp) (fun i0 hi0 => ?_)
    obtain rfl : i0 = 10 := by simpa using hi0
    refine stage_step (S := fun (L' : Array Bool) (w' : World) => (Box w' sb [.slice (some ⟨gv, 0, none⟩) m mc, .int .i64 root]) ∧ (L'.getD 14 false = false → w'.cell? ⟨gv, L.length * 3 + 2, none⟩ = some jv)) (o := { dst := some 48, op := Go.Op.buildSlice 63 1 #[(0, Go.Operand.tmp 47)], type := 63, pos := "btree.go:123", after := #[{ on := 9, ground := Go.Ground.data }], guard := none }) (by rfl) (fun K2 hK => ?_)
    go_simp
    clear hS0 hS1
    have hal : Below wd.heap.size wd (wd.alloc (.cells #[.int .i64 kx] 3)) := (Below.refl _ _).alloc (Nat.le_refl _) _
    have HNW : Hid (∀ jj u, (encI kx)[jj]? = some u → (wd.alloc (.cells #[.int .i64 kx] 3)).cell? ((⟨wd.heap.size, 0, none⟩ : Addr).add jj) = some u) := Lib.hid (fun jj u hu => by rw [Addr.add_lit, Nat.zero_add]; exact (Box.new wd #[.int .i64 kx] 3).c jj u hu)
    replace HG := Lib.hid (HG.out.step hal)
    replace HS := Lib.hid (HS.out.step hal)
    replace HPB := Lib.hid (HPB.out.step hal)
    replace HRD := Lib.hid (HRD.out.below hal)
    replace HKR := Lib.hid (HKR.out.below hal)
    replace HVR := Lib.hid (HVR.out.below hal)
    replace HIR := Lib.hid (HIR.out.below hal)
    replace HLD := Lib.hid (HLD.out.below hal)
    replace HO := Lib.hid (own_below HO.out hal)
    replace HJ := Lib.hid (own_below HJ.out hal)
    replace HK := Lib.hid (HK.out.trans (Kept.of_below hal HK.out.size))
    replace hsz8 := Nat.le_trans hsz8 hal.size
    clear hal
    generalize wd.alloc (.cells #[.int .i64 kx] 3) = wa at *
    generalize wd.heap.size = gq at *
    have hS0 : Box wa sb [.slice (some ⟨gv, 0, none⟩) m mc, .int .i64 root] := HS.out
    have hS1 : wa.cell? ⟨gv, L.length * 3 + 2, none⟩ = some jv := HC3.out wa HO.out
    refine hK.out _ _ (⟨hS0, fun _ => hS1⟩) ?_
    clear hK K2
    try simp only [Act.put, List.setIfInBounds_toArray, List.set_cons_zero, List.set_cons_succ]
    refine stage_all (rs := [11]) (by kernel_rfl) (by simp) (fun i0 hi0 => ?_)
    obtain rfl : i0 = 11 := by simpa using hi0
    refine stage_step (S := fun (L' : Array Bool) (w' : World) => (Box w' sb [.slice (some ⟨gv, 0, none⟩) m mc, .int .i64 root]) ∧ (L'.getD 14 false = false → w'.cell? ⟨gv, L.length * 3 + 2, none⟩ = some jv)) (o := { dst := some 49, op := Go.Op.call { callee := Go.Callee.builtin Go.Builtin.append, args := #[Go.Operand.tmp 46, Go.Operand.tmp 48], argTypes := #[63, 63] }, type := 63, pos := "btree.go:123", after := #[{ on := 8, ground := Go.Ground.data }, { on := 10, ground := Go.Ground.data }], guard := none }) (by rfl) (fun K2 hK => ?_)
    have hml : j + 1 ≤ maxLen := by simp only [maxLen]; omega
    have hmb : (j + 1) * 8 ≤ 140737488355328 := by omega
    have hone : ∀ u ∈ encI kx, u.oneCell' = true := fun u hu => by simp [encI] at hu; subst hu; rfl
    refine step_append_own2 rfl _ _ 63 rfl w.heap.size 3 iI (.int .i64 0) 1 8 Try.underlying63 hj0 hj1 hj2 hj3 rfl (by decide) jv j _ rfl HJ.out ⟨gq, 0, none⟩ 1 1 (encI kx) rfl rfl HNW.out hone hml hmb hsz8 (fun v' w9 hown hgrow hnew => ?_)
    clear hS0 hS1
    have hkg : Kept wa.heap.size (fun k => jv.ownBlock = some k) wa w9 := (Kept.refl _ _ wa).grown hgrow (Nat.le_refl _) (fun k hk => .inr hk)
    have hol : ∀ b, jv.ownBlock = some b → w.heap.size ≤ b ∧ b < wa.heap.size := fun b hb => HJ.out.lt b hb
    replace HG := Lib.hid (HG.out.kept hkg HG.out.lt (fun h => by have := (hol _ h).1; have := hpn g hPg; omega))
    replace HS := Lib.hid (HS.out.kept hkg HS.out.lt (fun h => by have := (hol _ h).1; omega))
    replace HPB := Lib.hid (HPB.out.kept hkg HPB.out.lt (fun h => by have := (hol _ h).1; omega))
    have hdis : ∀ k, jv.ownBlock = some k → ¬ P k := fun k hk h => by have := (hol _ hk).1; have := hpn k h; omega
    replace HRD := Lib.hid (HRD.out.kept hkg hdis)
    replace HKR := Lib.hid (HKR.out.kept hkg hdis)
    replace HVR := Lib.hid (HVR.out.kept hkg hdis)
    replace HIR := Lib.hid (HIR.out.kept hkg hdis)
    have hgvl := (HO.out.lt gv rfl).2
    replace HO := Lib.hid (hkg.own HO.out (fun b hb => ⟨(HO.out.lt b hb).2, fun e => by obtain rfl : gv = b := (by simpa [Value.ownBlock] using hb); exact hjv e⟩))
    replace HK := Lib.hid (HK.out.trans (kept_less hkg hsz8 (fun k hk' hk => by have := (hol k hk).1; omega)))
    have hjn : v'.ownBlock ≠ some gv := fun e => by rcases hnew with h | h; exact hjv (h ▸ e); have := h gv e; omega
    have HLD2 := Lib.hid (HLD.out.grow hkg hnew)
    have HJ9 : Hid (w9.ownsRow w.heap.size 3 1 v' (j + 1) ((js ++ [kx]).flatMap encI)) := Lib.hid (by rw [List.flatMap_append]; simpa using hown)
    replace hsz8 := Nat.le_trans hsz8 hkg.size
    clear hown hgrow hkg hol hdis hml hmb hone HNW HJ HLD hgvl hnew
    have hS0 : Box w9 sb [.slice (some ⟨gv, 0, none⟩) m mc, .int .i64 root] := HS.out
    have hS1 : w9.cell? ⟨gv, L.length * 3 + 2, none⟩ = some jv := HC3.out w9 HO.out
    refine hK.out _ _ (⟨hS0, fun _ => hS1⟩) ?_
    clear hK K2
    try simp only [Act.put, List.setIfInBounds_toArray, List.set_cons_zero, List.set_cons_succ]
    refine stage_all (rs := [12]) (by kernel_rfl) (by simp) (fun i0 hi0 => ?_)
    obtain rfl : i0 = 12 := by simpa using hi0
    refine stage_step (S := fun (L' : Array Bool) (w' : World) => (Box w' sb [.slice (some ⟨gv, 0, none⟩) m mc, .int .i64 root]) ∧ (L'.getD 14 false = false → w'.cell? ⟨gv, L.length * 3 + 2, none⟩ = some jv)) (o := { dst := some 50, op := Go.Op.indexAddr 25 (Go.Operand.tmp 39) (Go.Operand.tmp 40), type := 0, pos := "btree.go:123", after := #[{ on := 1, ground := Go.Ground.data }, { on := 2, ground := Go.Ground.data }, { on := 0, ground := Go.Ground.phase }, { on := 1, ground := Go.Ground.phase }, { on := 2, ground := Go.Ground.phase }, { on := 3, ground := Go.Ground.phase }, { on := 4, ground := Go.Ground.phase }, { on := 5, ground := Go.Ground.phase }, { on := 6, ground := Go.Ground.phase }, { on := 7, ground := Go.Ground.phase }, { on := 8, ground := Go.Ground.phase }, { on := 9, ground := Go.Ground.phase }, { on := 10, ground := Go.Ground.phase }, { on := 11, ground := Go.Ground.phase }], guard := none }) (by rfl) (fun K2 hK => ?_)
    go_simp
    refine hK.out _ _ (⟨hS0, fun _ => hS1⟩) ?_
    clear hK K2
    try simp only [Act.put, List.setIfInBounds_toArray, List.set_cons_zero, List.set_cons_succ]
    refine stage_all (rs := [13]) (by kernel_rfl) (by simp) (fun i0 hi0 => ?_)
    obtain rfl : i0 = 13 := by simpa using hi0
    refine stage_step (S := fun (L' : Array Bool) (w' : World) => (Box w' sb [.slice (some ⟨gv, 0, none⟩) m mc, .int .i64 root]) ∧ (L'.getD 14 false = false → w'.cell? ⟨gv, L.length * 3 + 2, none⟩ = some jv)) (o := { dst := some 51, op := Go.Op.fieldAddr 66 (Go.Operand.tmp 50) 2, type := 0, pos := "btree.go:123", after := #[{ on := 12, ground := Go.Ground.data }, { on := 0, ground := Go.Ground.phase }, { on := 1, ground := Go.Ground.phase }, { on := 2, ground := Go.Ground.phase }, { on := 3, ground := Go.Ground.phase }, { on := 4, ground := Go.Ground.phase }, { on := 5, ground := Go.Ground.phase }, { on := 6, ground := Go.Ground.phase }, { on := 7, ground := Go.Ground.phase }, { on := 8, ground := Go.Ground.phase }, { on := 9, ground := Go.Ground.phase }, { on := 10, ground := Go.Ground.phase }, { on := 11, ground := Go.Ground.phase }], guard := none }) (by rfl) (fun K2 hK => ?_)
    go_simp
    refine hK.out _ _ (⟨hS0, fun _ => hS1⟩) ?_
    clear hK K2
    try simp only [Act.put, List.setIfInBounds_toArray, List.set_cons_zero, List.set_cons_succ]
    obtain ⟨JA, jc, rfl, _, _⟩ := own_slice HJ9.out
    have hfr := HO.out.frozenAt (L.length * 3 + 2)
    have hce := HC3.out w9 HO.out
    clear hS1
    refine stage_all (rs := [14]) (by kernel_rfl) (by simp) (fun i0 hi0 => ?_)
    obtain rfl : i0 = 14 := by simpa using hi0
    refine stage_step (S := fun (L' : Array Bool) (w' : World) => (Box w' sb [.slice (some ⟨gv, 0, none⟩) m mc, .int .i64 root]) ∧ (L'.getD 14 false = false → w'.cell? ⟨gv, L.length * 3 + 2, none⟩ = some jv)) (o := { dst := none, op := Go.Op.store 63 (Go.Operand.tmp 51) (Go.Operand.tmp 49), type := 0, pos := "btree.go:123", after := #[{ on := 13, ground := Go.Ground.data }, { on := 11, ground := Go.Ground.data }, { on := 11, ground := Go.Ground.chain }, { on := 0, ground := Go.Ground.phase }, { on := 1, ground := Go.Ground.phase }, { on := 2, ground := Go.Ground.phase }, { on := 3, ground := Go.Ground.phase }, { on := 4, ground := Go.Ground.phase }, { on := 5, ground := Go.Ground.phase }, { on := 6, ground := Go.Ground.phase }, { on := 7, ground := Go.Ground.phase }, { on := 8, ground := Go.Ground.phase }, { on := 9, ground := Go.Ground.phase }, { on := 10, ground := Go.Ground.phase }, { on := 11, ground := Go.Ground.phase }], guard := none }) (by rfl) (fun K2 hK => ?_)
    go_simp
    clear hfr hce
    generalize hv9 : Value.slice JA (j + 1) jc = v9 at *
    clear hv9
    have hset : Kept w9.heap.size (fun k => k = gv) w9 (w9.setCell ⟨gv, L.length * 3 + 2, none⟩ v9) := (Kept.refl _ _ _).set _ _ (.inr rfl)
    have hO9 := own_store3 v9 HO.out (j := L.length * 3 + 2) (by omega)
    rw [enc3_set] at hO9
    replace HO := Lib.hid hO9
    have hgvN := (HO.out.lt gv rfl).1
    replace HG := Lib.hid (HG.out.kept hset HG.out.lt (fun h => by have := hpn g hPg; omega))
    replace HS := Lib.hid (HS.out.kept hset HS.out.lt hsgv)
    replace HPB := Lib.hid (HPB.out.kept hset HPB.out.lt hpgv)
    have hdis : ∀ k, k = gv → ¬ P k := fun k hk h => by have := hpn k h; omega
    replace HRD := Lib.hid (HRD.out.kept hset hdis)
    replace HKR := Lib.hid (HKR.out.kept hset hdis)
    replace HVR := Lib.hid (HVR.out.kept hset hdis)
    replace HIR := Lib.hid (HIR.out.kept hset hdis)
    replace HJ9 := Lib.hid (hset.own HJ9.out (fun b hb => ⟨(HJ9.out.lt b hb).2, fun e => hjn (e ▸ hb)⟩))
    replace HLD2 := Lib.hid (HLD2.out.kept hset (fun k hk h => h.1.2 (by rw [hk]; rfl)))
    replace HK := Lib.hid (HK.out.set ⟨gv, L.length * 3 + 2, none⟩ v9 hgvk)
    replace hsz8 := Nat.le_trans hsz8 hset.size
    clear hset hO9 hdis
    generalize (w9.setCell ⟨gv, L.length * 3 + 2, none⟩ v9) = w10 at *
    have hS0' : Box w10 sb [.slice (some ⟨gv, 0, none⟩) m mc, .int .i64 root] := HS.out
    clear hS0
    refine hK.out _ _ (⟨hS0', fun h => by simp at h⟩) ?_
    clear hK K2
    try simp only [Act.put, List.setIfInBounds_toArray, List.set_cons_zero, List.set_cons_succ]
    refine stage_done (by kernel_rfl) ?_ _
    clear hS0'
    go_wp2_with fail
    go_roundw
    case rel => exact ⟨j + 1, .slice (some ⟨gv, 0, none⟩) m mc, v9, M9, js ++ [kx], by omega, by go_num, by rw [List.length_append, HJL.out]; rfl, HMLEN.out, HJS2, Lib.hid (by rw [HM.out]; exact HO.out), HLD2, HJ9, (fun b hb e => by obtain rfl : gv = b := (by simpa [Value.ownBlock] using e); exact hjn hb), HG, HS, HPB, HRD, HKR, HVR, HIR, HK, HV80.out, (fun e => hsgv (by simpa [Value.ownBlock] using e.symm)), (fun e => hpgv (by simpa [Value.ownBlock] using e.symm))⟩
    case measure => simp [Lib.intOf]; omega
  · obtain rfl : j = ts.length := by omega
    rw [List.take_length] at hMl
    have hjs2 := HJS.out
    have hld2 := HLD.out
    rw [List.take_length] at hjs2 hld2
    have HLD2 := Lib.hid hld2
    have HJS2 := Lib.hid hjs2
    have hvN : ∀ b, vj.ownBlock = some b → N1 ≤ b := fun b hb => (HO.out.lt b hb).1
    clear hjs2 hld2 HJS HLD
    go_wp2
    go_ret
    have hown9 : wr.ownsRow N1 66 3 vj (L.length + (szTs ts + 1)) ((L ++ (.slice KA ks.length kc, .slice VVA vs.length vvc, jv) :: M).flatMap enc3) := by
      rw [← hMl, show L.length + (M.length + 1) = L.length + 1 + M.length by omega]
      exact HO.out
    have hv0 := HV0.out
    subst hv0
    refine ⟨vj, (.slice KA ks.length kc, .slice VVA vs.length vvc, jv) :: M, rfl, hown9, LaidQ.cons ⟨HKR.out.mono (fun b _ h => ⟨.inl h, fun e => by have := hvN b e; have := hpn b h; omega⟩), HVR.out.mono (fun b _ h => ⟨.inl h, fun e => by have := hvN b e; have := hpn b h; omega⟩), ?_⟩ (HLD2.out.mono (fun b _ h => h.1)), HS.out, HK.out, hvj0⟩
    rw [← HJS2.out]
    exact RowP.of_own encI_len HJ.out (fun b hb => ⟨.inr (HJ.out.lt b hb).1, fun e => hjvj b hb e⟩)
end Go.Proofs.Ytkecbghnapjecaa
