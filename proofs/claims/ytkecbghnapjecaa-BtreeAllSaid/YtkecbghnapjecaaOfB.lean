/- The law's Of: a tree's state for the program, in memory of its own. -/
import Derived.Test.YtkecbghnapjecaaRowP
import Derived.Test.YtkecbghnapjecaaAppRow
import Derived.Test.YtkecbghnapjecaaAppOwn2
import Derived.Test.YtkecbghnapjecaaStage
namespace Go.Proofs.Ytkecbghnapjecaa
open Go.RowKit
set_option linter.unusedVariables false
set_option linter.unusedSimpArgs false
theorem encI_one (l : List Int) : ∀ u ∈ l.flatMap encI, u.oneCell' = true := fun u hu => by
  obtain ⟨x, _, hx⟩ := List.mem_flatMap.1 hu
  simp [encI] at hx
  subst hx; rfl
/-- Bounds of a state as an argument. -/
structure StOk (s : List Nd) : Prop where
  len : s.length * 72 ≤ 140737488351232
  hk : ∀ n ∈ s, n.keys.length * 16 ≤ 140737488351232 ∧ n.vals.length * 16 ≤ 140737488351232 ∧ n.kids.length * 8 ≤ 140737488351232 ∧ ∀ x ∈ n.kids, InR x
set_option maxHeartbeats 2000000 in
set_option maxRecDepth 100000 in
theorem of_any (NA : Option Addr) (nc : Nat) (root : Int) (s : List Nd) (w : World) (hs : NodesAt w NA s) (hb : StOk s) :
    Calls Try.prog 8 #[.agg #[.slice NA s.length nc, .int .i64 root]] w fun e w' => ∃ A c, e = .returned (.agg #[.slice A s.length c, .int .i64 root]) ∧ s.length ≤ c ∧ (A = none → c = 0) ∧ NodesAt w' A s ∧ (∀ a, A = some a → w.heap.size ≤ a.block) ∧ Below w.heap.size w w' := by
  obtain ⟨iN, hn0, hn1, hn2, hn3⟩ := info_parts (show (Try.prog.info? 66).map (fun i => (i.zero, i.size, i.bytes)) = some (some (.agg #[.slice none 0 0, .slice none 0 0, .slice none 0 0]), 3, 72) by kernel_rfl)
  obtain ⟨iS, hs0, hs1, hs2, hs3⟩ := info_parts (show (Try.prog.info? 9).map (fun i => (i.zero, i.size, i.bytes)) = some (some (.string ⟨#[]⟩), 1, 16) by kernel_rfl)
  obtain ⟨iI, hj0, hj1, hj2, hj3⟩ := info_parts (show (Try.prog.info? 3).map (fun i => (i.zero, i.size, i.bytes)) = some (some (.int .i64 0), 1, 8) by kernel_rfl)
  have hlen := hb.len
  have HK := Lib.hid hb.hk
  have HS := Lib.hid hs
  clear hb hs
  have HA := Lib.hid (((Box.new w #[.slice NA s.length nc, .int .i64 root] 24).alloc (.cells #[.slice none 0 0, .int .i64 0] 27)).alloc (.cells #[.slice none 0 0, .int .i64 root] 27))
  have HX := Lib.hid ((Box.new (w.alloc (.cells #[.slice NA s.length nc, .int .i64 root] 24)) #[.slice none 0 0, .int .i64 0] 27).alloc (.cells #[.slice none 0 0, .int .i64 root] 27))
  have HT := Lib.hid (Box.new ((w.alloc (.cells #[.slice NA s.length nc, .int .i64 root] 24)).alloc (.cells #[.slice none 0 0, .int .i64 0] 27)) #[.slice none 0 0, .int .i64 root] 27)
  have HF : Hid (Below w.heap.size w (((w.alloc (.cells #[.slice NA s.length nc, .int .i64 root] 24)).alloc (.cells #[.slice none 0 0, .int .i64 0] 27)).alloc (.cells #[.slice none 0 0, .int .i64 root] 27))) := Lib.hid (by (repeat (first | (with_reducible exact Below.refl _ _) | apply below_alloc _ (Nat.le_refl _) | refine below_set ?_ (by first | exact Nat.le_refl _ | omega) | apply below_drewN | refine below_step ?_ HB)))
  have hsz : w.heap.size + 3 ≤ (((w.alloc (.cells #[.slice NA s.length nc, .int .i64 root] 24)).alloc (.cells #[.slice none 0 0, .int .i64 0] 27)).alloc (.cells #[.slice none 0 0, .int .i64 root] 27)).heap.size := by simp
  simp only [World.size_alloc] at HX HT
  go_enter Try.func8, Try.ntmps8
  go_wp2_with fail
  generalize (((w.alloc (.cells #[.slice NA s.length nc, .int .i64 root] 24)).alloc (.cells #[.slice none 0 0, .int .i64 0] 27)).alloc (.cells #[.slice none 0 0, .int .i64 root] 27)) = w3 at *
  go_loopw [4] (fun i wr => ∃ (j : Nat) (v : Value) (L : List V3), j ≤ s.length ∧ i = .int .i64 j ∧ L.length = j ∧ Hid (wr.ownsRow (w.heap.size + 3) 66 3 v j (L.flatMap enc3)) ∧ Hid (∀ (i : Nat) (t : V3) (n : Nd), L[i]? = some t → s[i]? = some n → NdP (fun b => w.heap.size + 3 ≤ b ∧ v.ownBlock ≠ some b) wr t n) ∧
    Hid (Box wr w.heap.size [.slice NA s.length nc, .int .i64 root]) ∧ Hid (Box wr (w.heap.size + 1 + 1) [v, .int .i64 root]) ∧ Hid (Box wr (w.heap.size + 1) [.slice none 0 0, .int .i64 0]) ∧ Hid (Below w.heap.size w wr) ∧ w.heap.size + 3 ≤ wr.heap.size) (fun i _ => s.length - (Lib.intOf i).toNat)
  case atStart => exact ⟨0, .slice none 0 0, [], Nat.zero_le _, rfl, rfl, Lib.hid (World.ownsRow_nil _ _ _ _), Lib.hid (fun i t n h => by simp at h), HA, HT, HX, HF, hsz⟩
  case round =>
  clear HA HT HX HF hsz
  obtain ⟨j, v, L, hj, rfl, hLl, HO, HL, HA, HT, HX, HF, hsz⟩ := hrel
  by_cases hlt : j < s.length
  · obtain ⟨n, hn⟩ : ∃ n, s[j]? = some n := ⟨_, List.getElem?_eq_getElem hlt⟩
    have HNJ := Lib.hid hn
    obtain ⟨bN, oN, cs, rfl, hbN, ⟨KA, kc, VA, vc, IA, ic, rfl, hK, hV, hI, hKn, hVn, hIn, hkc, hvc, hic⟩, hcN⟩ := HS.out j n hn
    obtain ⟨hzk, hzv, hzi, _⟩ := HK.out n (List.mem_of_getElem? hn)
    have HCN := Lib.hid hcN
    have hKr := Lib.hid hK
    have hVr := Lib.hid hV
    have hIr := Lib.hid hI
    clear hcN hn hK hV hI
    have cHA0 := HA.out.c 0 _ rfl; have fHA0 := HA.out.f 0 (by simp); have cHA1 := HA.out.c 1 _ rfl; have fHA1 := HA.out.f 1 (by simp); have lHA := HA.out.lt
    go_upto_region 7 with (fail)
    clear cHA0 fHA0 cHA1 fHA1 lHA
    refine stage_begin (S := fun (L' : Array Bool) (w' : World) => (Below w.heap.size w w' ∧ Box w' w.heap.size [.slice (some ⟨bN, oN, none⟩) s.length nc, .int .i64 root]) ∧ (L'.getD 30 false = false → Box w' (w.heap.size + 1 + 1) [v, .int .i64 root])) (by kernel_rfl) ?_
    replace HA := Lib.hid HA.out.drew
    replace HT := Lib.hid HT.out.drew
    replace HX := Lib.hid HX.out.drew
    replace HF : Hid (Below w.heap.size w wr.drew) := Lib.hid (below_drewN HF.out 1)
    replace HO := Lib.hid HO.out.drew
    replace HL : Hid (∀ i t n, L[i]? = some t → s[i]? = some n → NdP _ wr.drew t n) := Lib.hid (fun i t n h1 h2 => (HL.out i t n h1 h2).kept (B := fun _ => False) (Kept.of_below (below_drewN (Below.refl _ _) 1) (Nat.le_refl _)) (fun _ h => h.elim))
    have hszd : w.heap.size + 3 ≤ wr.drew.heap.size := hsz
    clear hsz
    generalize wr.drew = wd at *
    have hszd0 := hszd
    have hS0 : Below w.heap.size w wd ∧ Box wd w.heap.size [.slice (some ⟨bN, oN, none⟩) s.length nc, .int .i64 root] := ⟨HF.out, HA.out⟩
    have hS1 : Box wd (w.heap.size + 1 + 1) [v, .int .i64 root] := HT.out
    refine stage_take (i := 0) (oi := { dst := some 18, op := Go.Op.fieldAddr 27 (Go.Operand.tmp 3) 0, type := 0, pos := "law.go:19", after := #[], guard := none }) (v := ?_) (T := fun _ => True) rfl (by kernel_rfl) (by kernel_rfl) (by kernel_rfl) (by kernel_rfl) (fun _ _ _ h => h) (fun L' w' hW hS => trivial) (fun L' w' hS => ⟨hS.1, fun h => hS.2 (by rw [getD_set_ne false (by decide)]; exact h)⟩) (Or.inl ⟨by rfl, ?_⟩) trivial (⟨hS0, fun _ => hS1⟩) ?_
    rotate_left 1
    · intro w9 _; go_simp; (try with_reducible rfl)
    try simp only [Act.put, List.setIfInBounds_toArray, List.set_cons_zero, List.set_cons_succ]
    refine stage_take (i := 1) (oi := { dst := some 19, op := Go.Op.load 25 (Go.Operand.tmp 18), type := 25, pos := "law.go:19", after := #[{ on := 0, ground := Go.Ground.data }], guard := none }) (v := ?_) (T := fun w' : World => Box w' (w.heap.size + 1 + 1) [v, .int .i64 root]) rfl (by kernel_rfl) (by kernel_rfl) (by kernel_rfl) (by kernel_rfl) (fun _ _ _ h => h) (fun L' w' hW hS => hS.2 (not_yet hW (by kernel_rfl))) (fun L' w' hS => ⟨hS.1, fun h => hS.2 (by rw [getD_set_ne false (by decide)]; exact h)⟩) (Or.inl ⟨by rfl, ?_⟩) (hS1) (⟨hS0, fun _ => hS1⟩) ?_
    rotate_left 1
    · intro w9 zA; have z0 := zA.c 0 _ rfl; clear zA; go_simp; (try with_reducible rfl)
    try simp only [Act.put, List.setIfInBounds_toArray, List.set_cons_zero, List.set_cons_succ]
    refine stage_take (i := 2) (oi := { dst := some 20, op := Go.Op.move (Go.Operand.tmp 5), type := 57, pos := "law.go:19", after := #[], guard := none }) (v := ?_) (T := fun _ => True) rfl (by kernel_rfl) (by kernel_rfl) (by kernel_rfl) (by kernel_rfl) (fun _ _ _ h => h) (fun L' w' hW hS => trivial) (fun L' w' hS => ⟨hS.1, fun h => hS.2 (by rw [getD_set_ne false (by decide)]; exact h)⟩) (Or.inl ⟨by rfl, ?_⟩) trivial (⟨hS0, fun _ => hS1⟩) ?_
    rotate_left 1
    · intro w9 _; go_simp; (try with_reducible rfl)
    try simp only [Act.put, List.setIfInBounds_toArray, List.set_cons_zero, List.set_cons_succ]
    refine stage_take (i := 3) (oi := { dst := some 21, op := Go.Op.fieldAddr 24 (Go.Operand.tmp 1) 0, type := 0, pos := "law.go:19", after := #[], guard := none }) (v := ?_) (T := fun _ => True) rfl (by kernel_rfl) (by kernel_rfl) (by kernel_rfl) (by kernel_rfl) (fun _ _ _ h => h) (fun L' w' hW hS => trivial) (fun L' w' hS => ⟨hS.1, fun h => hS.2 (by rw [getD_set_ne false (by decide)]; exact h)⟩) (Or.inl ⟨by rfl, ?_⟩) trivial (⟨hS0, fun _ => hS1⟩) ?_
    rotate_left 1
    · intro w9 _; go_simp; (try with_reducible rfl)
    try simp only [Act.put, List.setIfInBounds_toArray, List.set_cons_zero, List.set_cons_succ]
    refine stage_take (i := 4) (oi := { dst := some 22, op := Go.Op.load 22 (Go.Operand.tmp 21), type := 22, pos := "law.go:19", after := #[{ on := 3, ground := Go.Ground.data }], guard := none }) (v := ?_) (T := fun w' : World => Below w.heap.size w w' ∧ Box w' w.heap.size [.slice (some ⟨bN, oN, none⟩) s.length nc, .int .i64 root]) rfl (by kernel_rfl) (by kernel_rfl) (by kernel_rfl) (by kernel_rfl) (fun _ _ _ h => h) (fun L' w' hW hS => hS.1) (fun L' w' hS => ⟨hS.1, fun h => hS.2 (by rw [getD_set_ne false (by decide)]; exact h)⟩) (Or.inl ⟨by rfl, ?_⟩) (hS0) (⟨hS0, fun _ => hS1⟩) ?_
    rotate_left 1
    · intro w9 zA; have z0 := zA.2.c 0 _ rfl; clear zA; go_simp; (try with_reducible rfl)
    try simp only [Act.put, List.setIfInBounds_toArray, List.set_cons_zero, List.set_cons_succ]
    refine stage_take (i := 5) (oi := { dst := some 23, op := Go.Op.move (Go.Operand.tmp 4), type := 3, pos := "law.go:19", after := #[], guard := none }) (v := ?_) (T := fun _ => True) rfl (by kernel_rfl) (by kernel_rfl) (by kernel_rfl) (by kernel_rfl) (fun _ _ _ h => h) (fun L' w' hW hS => trivial) (fun L' w' hS => ⟨hS.1, fun h => hS.2 (by rw [getD_set_ne false (by decide)]; exact h)⟩) (Or.inl ⟨by rfl, ?_⟩) trivial (⟨hS0, fun _ => hS1⟩) ?_
    rotate_left 1
    · intro w9 _; go_simp; (try with_reducible rfl)
    try simp only [Act.put, List.setIfInBounds_toArray, List.set_cons_zero, List.set_cons_succ]
    refine stage_take (i := 6) (oi := { dst := some 24, op := Go.Op.indexAddr 22 (Go.Operand.tmp 22) (Go.Operand.tmp 23), type := 0, pos := "law.go:19", after := #[{ on := 4, ground := Go.Ground.data }, { on := 5, ground := Go.Ground.data }], guard := none }) (v := ?_) (T := fun _ => True) rfl (by kernel_rfl) (by kernel_rfl) (by kernel_rfl) (by kernel_rfl) (fun _ _ _ h => h) (fun L' w' hW hS => trivial) (fun L' w' hS => ⟨hS.1, fun h => hS.2 (by rw [getD_set_ne false (by decide)]; exact h)⟩) (Or.inl ⟨by rfl, ?_⟩) trivial (⟨hS0, fun _ => hS1⟩) ?_
    rotate_left 1
    · intro w9 _; go_simp; (try with_reducible rfl)
    try simp only [Act.put, List.setIfInBounds_toArray, List.set_cons_zero, List.set_cons_succ]
    refine stage_take (i := 7) (oi := { dst := some 25, op := Go.Op.fieldAddr 65 (Go.Operand.tmp 24) 0, type := 0, pos := "law.go:19", after := #[{ on := 6, ground := Go.Ground.data }], guard := none }) (v := ?_) (T := fun _ => True) rfl (by kernel_rfl) (by kernel_rfl) (by kernel_rfl) (by kernel_rfl) (fun _ _ _ h => h) (fun L' w' hW hS => trivial) (fun L' w' hS => ⟨hS.1, fun h => hS.2 (by rw [getD_set_ne false (by decide)]; exact h)⟩) (Or.inl ⟨by rfl, ?_⟩) trivial (⟨hS0, fun _ => hS1⟩) ?_
    rotate_left 1
    · intro w9 _; go_simp; (try with_reducible rfl)
    try simp only [Act.put, List.setIfInBounds_toArray, List.set_cons_zero, List.set_cons_succ]
    refine stage_take (i := 8) (oi := { dst := some 26, op := Go.Op.load 57 (Go.Operand.tmp 25), type := 57, pos := "law.go:19", after := #[{ on := 7, ground := Go.Ground.data }], guard := none }) (v := ?_) (T := fun w' : World => Below w.heap.size w w' ∧ Box w' w.heap.size [.slice (some ⟨bN, oN, none⟩) s.length nc, .int .i64 root]) rfl (by kernel_rfl) (by kernel_rfl) (by kernel_rfl) (by kernel_rfl) (fun _ _ _ h => h) (fun L' w' hW hS => hS.1) (fun L' w' hS => ⟨hS.1, fun h => hS.2 (by rw [getD_set_ne false (by decide)]; exact h)⟩) (Or.inl ⟨by rfl, ?_⟩) (hS0) (⟨hS0, fun _ => hS1⟩) ?_
    rotate_left 1
    · intro w9 zA; have z0 := (zA.1.cell (p := ⟨bN, oN + j * 3, none⟩) hbN).trans (HCN.out 0 _ rfl); clear zA; go_simp; (try with_reducible rfl)
    try simp only [Act.put, List.setIfInBounds_toArray, List.set_cons_zero, List.set_cons_succ]
    refine stage_take (i := 10) (oi := { dst := some 28, op := Go.Op.move (Go.Operand.tmp 6), type := 57, pos := "law.go:19", after := #[], guard := none }) (v := ?_) (T := fun _ => True) rfl (by kernel_rfl) (by kernel_rfl) (by kernel_rfl) (by kernel_rfl) (fun _ _ _ h => h) (fun L' w' hW hS => trivial) (fun L' w' hS => ⟨hS.1, fun h => hS.2 (by rw [getD_set_ne false (by decide)]; exact h)⟩) (Or.inl ⟨by rfl, ?_⟩) trivial (⟨hS0, fun _ => hS1⟩) ?_
    rotate_left 1
    · intro w9 _; go_simp; (try with_reducible rfl)
    try simp only [Act.put, List.setIfInBounds_toArray, List.set_cons_zero, List.set_cons_succ]
    refine stage_take (i := 11) (oi := { dst := some 29, op := Go.Op.fieldAddr 24 (Go.Operand.tmp 1) 0, type := 0, pos := "law.go:19", after := #[], guard := none }) (v := ?_) (T := fun _ => True) rfl (by kernel_rfl) (by kernel_rfl) (by kernel_rfl) (by kernel_rfl) (fun _ _ _ h => h) (fun L' w' hW hS => trivial) (fun L' w' hS => ⟨hS.1, fun h => hS.2 (by rw [getD_set_ne false (by decide)]; exact h)⟩) (Or.inl ⟨by rfl, ?_⟩) trivial (⟨hS0, fun _ => hS1⟩) ?_
    rotate_left 1
    · intro w9 _; go_simp; (try with_reducible rfl)
    try simp only [Act.put, List.setIfInBounds_toArray, List.set_cons_zero, List.set_cons_succ]
    refine stage_take (i := 12) (oi := { dst := some 30, op := Go.Op.load 22 (Go.Operand.tmp 29), type := 22, pos := "law.go:19", after := #[{ on := 11, ground := Go.Ground.data }], guard := none }) (v := ?_) (T := fun w' : World => Below w.heap.size w w' ∧ Box w' w.heap.size [.slice (some ⟨bN, oN, none⟩) s.length nc, .int .i64 root]) rfl (by kernel_rfl) (by kernel_rfl) (by kernel_rfl) (by kernel_rfl) (fun _ _ _ h => h) (fun L' w' hW hS => hS.1) (fun L' w' hS => ⟨hS.1, fun h => hS.2 (by rw [getD_set_ne false (by decide)]; exact h)⟩) (Or.inl ⟨by rfl, ?_⟩) (hS0) (⟨hS0, fun _ => hS1⟩) ?_
    rotate_left 1
    · intro w9 zA; have z0 := zA.2.c 0 _ rfl; clear zA; go_simp; (try with_reducible rfl)
    try simp only [Act.put, List.setIfInBounds_toArray, List.set_cons_zero, List.set_cons_succ]
    refine stage_take (i := 13) (oi := { dst := some 31, op := Go.Op.move (Go.Operand.tmp 4), type := 3, pos := "law.go:19", after := #[], guard := none }) (v := ?_) (T := fun _ => True) rfl (by kernel_rfl) (by kernel_rfl) (by kernel_rfl) (by kernel_rfl) (fun _ _ _ h => h) (fun L' w' hW hS => trivial) (fun L' w' hS => ⟨hS.1, fun h => hS.2 (by rw [getD_set_ne false (by decide)]; exact h)⟩) (Or.inl ⟨by rfl, ?_⟩) trivial (⟨hS0, fun _ => hS1⟩) ?_
    rotate_left 1
    · intro w9 _; go_simp; (try with_reducible rfl)
    try simp only [Act.put, List.setIfInBounds_toArray, List.set_cons_zero, List.set_cons_succ]
    refine stage_take (i := 14) (oi := { dst := some 32, op := Go.Op.indexAddr 22 (Go.Operand.tmp 30) (Go.Operand.tmp 31), type := 0, pos := "law.go:19", after := #[{ on := 12, ground := Go.Ground.data }, { on := 13, ground := Go.Ground.data }], guard := none }) (v := ?_) (T := fun _ => True) rfl (by kernel_rfl) (by kernel_rfl) (by kernel_rfl) (by kernel_rfl) (fun _ _ _ h => h) (fun L' w' hW hS => trivial) (fun L' w' hS => ⟨hS.1, fun h => hS.2 (by rw [getD_set_ne false (by decide)]; exact h)⟩) (Or.inl ⟨by rfl, ?_⟩) trivial (⟨hS0, fun _ => hS1⟩) ?_
    rotate_left 1
    · intro w9 _; go_simp; (try with_reducible rfl)
    try simp only [Act.put, List.setIfInBounds_toArray, List.set_cons_zero, List.set_cons_succ]
    refine stage_take (i := 15) (oi := { dst := some 33, op := Go.Op.fieldAddr 65 (Go.Operand.tmp 32) 1, type := 0, pos := "law.go:19", after := #[{ on := 14, ground := Go.Ground.data }], guard := none }) (v := ?_) (T := fun _ => True) rfl (by kernel_rfl) (by kernel_rfl) (by kernel_rfl) (by kernel_rfl) (fun _ _ _ h => h) (fun L' w' hW hS => trivial) (fun L' w' hS => ⟨hS.1, fun h => hS.2 (by rw [getD_set_ne false (by decide)]; exact h)⟩) (Or.inl ⟨by rfl, ?_⟩) trivial (⟨hS0, fun _ => hS1⟩) ?_
    rotate_left 1
    · intro w9 _; go_simp; (try with_reducible rfl)
    try simp only [Act.put, List.setIfInBounds_toArray, List.set_cons_zero, List.set_cons_succ]
    refine stage_take (i := 16) (oi := { dst := some 34, op := Go.Op.load 57 (Go.Operand.tmp 33), type := 57, pos := "law.go:19", after := #[{ on := 15, ground := Go.Ground.data }], guard := none }) (v := ?_) (T := fun w' : World => Below w.heap.size w w' ∧ Box w' w.heap.size [.slice (some ⟨bN, oN, none⟩) s.length nc, .int .i64 root]) rfl (by kernel_rfl) (by kernel_rfl) (by kernel_rfl) (by kernel_rfl) (fun _ _ _ h => h) (fun L' w' hW hS => hS.1) (fun L' w' hS => ⟨hS.1, fun h => hS.2 (by rw [getD_set_ne false (by decide)]; exact h)⟩) (Or.inl ⟨by rfl, ?_⟩) (hS0) (⟨hS0, fun _ => hS1⟩) ?_
    rotate_left 1
    · intro w9 zA; have z0 := (zA.1.cell (p := ⟨bN, oN + j * 3 + 1, none⟩) hbN).trans (HCN.out 1 _ rfl); clear zA; go_simp; (try with_reducible rfl)
    try simp only [Act.put, List.setIfInBounds_toArray, List.set_cons_zero, List.set_cons_succ]
    refine stage_take (i := 18) (oi := { dst := some 36, op := Go.Op.move (Go.Operand.tmp 7), type := 63, pos := "law.go:19", after := #[], guard := none }) (v := ?_) (T := fun _ => True) rfl (by kernel_rfl) (by kernel_rfl) (by kernel_rfl) (by kernel_rfl) (fun _ _ _ h => h) (fun L' w' hW hS => trivial) (fun L' w' hS => ⟨hS.1, fun h => hS.2 (by rw [getD_set_ne false (by decide)]; exact h)⟩) (Or.inl ⟨by rfl, ?_⟩) trivial (⟨hS0, fun _ => hS1⟩) ?_
    rotate_left 1
    · intro w9 _; go_simp; (try with_reducible rfl)
    try simp only [Act.put, List.setIfInBounds_toArray, List.set_cons_zero, List.set_cons_succ]
    refine stage_take (i := 19) (oi := { dst := some 37, op := Go.Op.fieldAddr 24 (Go.Operand.tmp 1) 0, type := 0, pos := "law.go:19", after := #[], guard := none }) (v := ?_) (T := fun _ => True) rfl (by kernel_rfl) (by kernel_rfl) (by kernel_rfl) (by kernel_rfl) (fun _ _ _ h => h) (fun L' w' hW hS => trivial) (fun L' w' hS => ⟨hS.1, fun h => hS.2 (by rw [getD_set_ne false (by decide)]; exact h)⟩) (Or.inl ⟨by rfl, ?_⟩) trivial (⟨hS0, fun _ => hS1⟩) ?_
    rotate_left 1
    · intro w9 _; go_simp; (try with_reducible rfl)
    try simp only [Act.put, List.setIfInBounds_toArray, List.set_cons_zero, List.set_cons_succ]
    refine stage_take (i := 20) (oi := { dst := some 38, op := Go.Op.load 22 (Go.Operand.tmp 37), type := 22, pos := "law.go:19", after := #[{ on := 19, ground := Go.Ground.data }], guard := none }) (v := ?_) (T := fun w' : World => Below w.heap.size w w' ∧ Box w' w.heap.size [.slice (some ⟨bN, oN, none⟩) s.length nc, .int .i64 root]) rfl (by kernel_rfl) (by kernel_rfl) (by kernel_rfl) (by kernel_rfl) (fun _ _ _ h => h) (fun L' w' hW hS => hS.1) (fun L' w' hS => ⟨hS.1, fun h => hS.2 (by rw [getD_set_ne false (by decide)]; exact h)⟩) (Or.inl ⟨by rfl, ?_⟩) (hS0) (⟨hS0, fun _ => hS1⟩) ?_
    rotate_left 1
    · intro w9 zA; have z0 := zA.2.c 0 _ rfl; clear zA; go_simp; (try with_reducible rfl)
    try simp only [Act.put, List.setIfInBounds_toArray, List.set_cons_zero, List.set_cons_succ]
    refine stage_take (i := 21) (oi := { dst := some 39, op := Go.Op.move (Go.Operand.tmp 4), type := 3, pos := "law.go:19", after := #[], guard := none }) (v := ?_) (T := fun _ => True) rfl (by kernel_rfl) (by kernel_rfl) (by kernel_rfl) (by kernel_rfl) (fun _ _ _ h => h) (fun L' w' hW hS => trivial) (fun L' w' hS => ⟨hS.1, fun h => hS.2 (by rw [getD_set_ne false (by decide)]; exact h)⟩) (Or.inl ⟨by rfl, ?_⟩) trivial (⟨hS0, fun _ => hS1⟩) ?_
    rotate_left 1
    · intro w9 _; go_simp; (try with_reducible rfl)
    try simp only [Act.put, List.setIfInBounds_toArray, List.set_cons_zero, List.set_cons_succ]
    refine stage_take (i := 22) (oi := { dst := some 40, op := Go.Op.indexAddr 22 (Go.Operand.tmp 38) (Go.Operand.tmp 39), type := 0, pos := "law.go:19", after := #[{ on := 20, ground := Go.Ground.data }, { on := 21, ground := Go.Ground.data }], guard := none }) (v := ?_) (T := fun _ => True) rfl (by kernel_rfl) (by kernel_rfl) (by kernel_rfl) (by kernel_rfl) (fun _ _ _ h => h) (fun L' w' hW hS => trivial) (fun L' w' hS => ⟨hS.1, fun h => hS.2 (by rw [getD_set_ne false (by decide)]; exact h)⟩) (Or.inl ⟨by rfl, ?_⟩) trivial (⟨hS0, fun _ => hS1⟩) ?_
    rotate_left 1
    · intro w9 _; go_simp; (try with_reducible rfl)
    try simp only [Act.put, List.setIfInBounds_toArray, List.set_cons_zero, List.set_cons_succ]
    refine stage_take (i := 23) (oi := { dst := some 41, op := Go.Op.fieldAddr 65 (Go.Operand.tmp 40) 2, type := 0, pos := "law.go:19", after := #[{ on := 22, ground := Go.Ground.data }], guard := none }) (v := ?_) (T := fun _ => True) rfl (by kernel_rfl) (by kernel_rfl) (by kernel_rfl) (by kernel_rfl) (fun _ _ _ h => h) (fun L' w' hW hS => trivial) (fun L' w' hS => ⟨hS.1, fun h => hS.2 (by rw [getD_set_ne false (by decide)]; exact h)⟩) (Or.inl ⟨by rfl, ?_⟩) trivial (⟨hS0, fun _ => hS1⟩) ?_
    rotate_left 1
    · intro w9 _; go_simp; (try with_reducible rfl)
    try simp only [Act.put, List.setIfInBounds_toArray, List.set_cons_zero, List.set_cons_succ]
    refine stage_take (i := 24) (oi := { dst := some 42, op := Go.Op.load 63 (Go.Operand.tmp 41), type := 63, pos := "law.go:19", after := #[{ on := 23, ground := Go.Ground.data }], guard := none }) (v := ?_) (T := fun w' : World => Below w.heap.size w w' ∧ Box w' w.heap.size [.slice (some ⟨bN, oN, none⟩) s.length nc, .int .i64 root]) rfl (by kernel_rfl) (by kernel_rfl) (by kernel_rfl) (by kernel_rfl) (fun _ _ _ h => h) (fun L' w' hW hS => hS.1) (fun L' w' hS => ⟨hS.1, fun h => hS.2 (by rw [getD_set_ne false (by decide)]; exact h)⟩) (Or.inl ⟨by rfl, ?_⟩) (hS0) (⟨hS0, fun _ => hS1⟩) ?_
    rotate_left 1
    · intro w9 zA; have z0 := (zA.1.cell (p := ⟨bN, oN + j * 3 + 2, none⟩) hbN).trans (HCN.out 2 _ rfl); clear zA; go_simp; (try with_reducible rfl)
    try simp only [Act.put, List.setIfInBounds_toArray, List.set_cons_zero, List.set_cons_succ]
    have hvd0 : ∀ b, v.ownBlock = some b → b < wd.heap.size := fun b hb => (HO.out.lt b hb).2
    refine stage_all (rs := [9]) (by kernel_rfl) (by simp) (fun i0 hi0 => ?_)
    obtain rfl : i0 = 9 := by simpa using hi0
    refine stage_step (S := fun (L' : Array Bool) (w' : World) => (Below w.heap.size w w' ∧ Box w' w.heap.size [.slice (some ⟨bN, oN, none⟩) s.length nc, .int .i64 root]) ∧ (L'.getD 30 false = false → Box w' (w.heap.size + 1 + 1) [v, .int .i64 root])) (o := { dst := some 27, op := Go.Op.call { callee := Go.Callee.builtin Go.Builtin.append, args := #[Go.Operand.tmp 20, Go.Operand.tmp 26], argTypes := #[57, 57] }, type := 57, pos := "law.go:19", after := #[{ on := 2, ground := Go.Ground.data }, { on := 8, ground := Go.Ground.data }], guard := none }) (by rfl) (fun K2 hK => ?_)
    refine step_append_row rfl _ _ 57 rfl wd.heap.size 9 iS (.string ⟨#[]⟩) 1 16 Try.underlying57 hs0 hs1 hs2 hs3 rfl (by decide) encS_len encS_one _ 0 [] rfl (World.ownsRow_nil _ _ _ _) KA n.keys kc rfl hKn (hKr.out.below HF.out) (by simp only [maxLen]; omega) (by omega) (Nat.le_refl _) (fun vl w5 hown hgrow => ?_)
    clear hS0 hS1
    replace hgrow : wd.grownBy w5 none := hgrow
    have hb9 : Below wd.heap.size wd w5 := (Below.refl _ _).grown hgrow (Nat.le_refl _) (by intro k hk; cases hk)
    simp only [Nat.zero_add, List.nil_append] at hown
    have hKq := Lib.hid (RowP.of_own (enc := encS) (P := fun b => wd.heap.size ≤ b) encS_len hown (fun b hb => (hown.lt b hb).1))
    have hz9 : w.heap.size + 3 ≤ w5.heap.size := Nat.le_trans hszd hb9.size
    replace HA := Lib.hid (HA.out.below hb9 HA.out.lt)
    replace HT := Lib.hid (HT.out.below hb9 HT.out.lt)
    replace HX := Lib.hid (HX.out.below hb9 HX.out.lt)
    replace HF := Lib.hid (below_step' HF.out hb9)
    replace HO := Lib.hid (own_below HO.out hb9)
    replace HL := Lib.hid (fun i t n h1 h2 => (HL.out i t n h1 h2).kept (B := fun _ => False) (Kept.of_below hb9 (Nat.le_refl _)) (fun _ h => h.elim))
    obtain ⟨hKA, hKc, rfl, _, _⟩ := own_slice hown
    clear hown hgrow
    have hvd : ∀ b, v.ownBlock = some b → b < wd.heap.size := fun b hb => hvd0 b hb
    have hm9 := hb9.size
    clear hb9 hszd
    have hszd := hz9
    clear hz9
    have hS0 : Below w.heap.size w w5 ∧ Box w5 w.heap.size [.slice (some ⟨bN, oN, none⟩) s.length nc, .int .i64 root] := ⟨HF.out, HA.out⟩
    have hS1 : Box w5 (w.heap.size + 1 + 1) [v, .int .i64 root] := HT.out
    refine hK.out _ _ (⟨hS0, fun _ => hS1⟩) ?_
    clear hK K2
    try simp only [Act.put, List.setIfInBounds_toArray, List.set_cons_zero, List.set_cons_succ]
    refine stage_all (rs := [17]) (by kernel_rfl) (by simp) (fun i0 hi0 => ?_)
    obtain rfl : i0 = 17 := by simpa using hi0
    refine stage_step (S := fun (L' : Array Bool) (w' : World) => (Below w.heap.size w w' ∧ Box w' w.heap.size [.slice (some ⟨bN, oN, none⟩) s.length nc, .int .i64 root]) ∧ (L'.getD 30 false = false → Box w' (w.heap.size + 1 + 1) [v, .int .i64 root])) (o := { dst := some 35, op := Go.Op.call { callee := Go.Callee.builtin Go.Builtin.append, args := #[Go.Operand.tmp 28, Go.Operand.tmp 34], argTypes := #[57, 57] }, type := 57, pos := "law.go:19", after := #[{ on := 10, ground := Go.Ground.data }, { on := 16, ground := Go.Ground.data }, { on := 9, ground := Go.Ground.chain }], guard := none }) (by rfl) (fun K2 hK => ?_)
    refine step_append_row rfl _ _ 57 rfl w5.heap.size 9 iS (.string ⟨#[]⟩) 1 16 Try.underlying57 hs0 hs1 hs2 hs3 rfl (by decide) encS_len encS_one _ 0 [] rfl (World.ownsRow_nil _ _ _ _) VA n.vals vc rfl hVn (hVr.out.below HF.out) (by simp only [maxLen]; omega) (by omega) (Nat.le_refl _) (fun vl w6 hown hgrow => ?_)
    clear hS0 hS1
    replace hgrow : w5.grownBy w6 none := hgrow
    have hb9 : Below w5.heap.size w5 w6 := (Below.refl _ _).grown hgrow (Nat.le_refl _) (by intro k hk; cases hk)
    simp only [Nat.zero_add, List.nil_append] at hown
    have hVq := Lib.hid (RowP.of_own (enc := encS) (P := fun b => w5.heap.size ≤ b) encS_len hown (fun b hb => (hown.lt b hb).1))
    have hz17 : w.heap.size + 3 ≤ w6.heap.size := Nat.le_trans hszd hb9.size
    replace HA := Lib.hid (HA.out.below hb9 HA.out.lt)
    replace HT := Lib.hid (HT.out.below hb9 HT.out.lt)
    replace HX := Lib.hid (HX.out.below hb9 HX.out.lt)
    replace HF := Lib.hid (below_step' HF.out hb9)
    replace HO := Lib.hid (own_below HO.out hb9)
    replace HL := Lib.hid (fun i t n h1 h2 => (HL.out i t n h1 h2).kept (B := fun _ => False) (Kept.of_below hb9 (Nat.le_refl _)) (fun _ h => h.elim))
    replace hKq := Lib.hid (hKq.out.below hb9)
    obtain ⟨hVA, hVc, rfl, _, _⟩ := own_slice hown
    clear hown hgrow
    have hm17 := hb9.size
    clear hb9 hszd
    have hszd := hz17
    clear hz17
    have hS0 : Below w.heap.size w w6 ∧ Box w6 w.heap.size [.slice (some ⟨bN, oN, none⟩) s.length nc, .int .i64 root] := ⟨HF.out, HA.out⟩
    have hS1 : Box w6 (w.heap.size + 1 + 1) [v, .int .i64 root] := HT.out
    refine hK.out _ _ (⟨hS0, fun _ => hS1⟩) ?_
    clear hK K2
    try simp only [Act.put, List.setIfInBounds_toArray, List.set_cons_zero, List.set_cons_succ]
    refine stage_all (rs := [25]) (by kernel_rfl) (by simp) (fun i0 hi0 => ?_)
    obtain rfl : i0 = 25 := by simpa using hi0
    refine stage_step (S := fun (L' : Array Bool) (w' : World) => (Below w.heap.size w w' ∧ Box w' w.heap.size [.slice (some ⟨bN, oN, none⟩) s.length nc, .int .i64 root]) ∧ (L'.getD 30 false = false → Box w' (w.heap.size + 1 + 1) [v, .int .i64 root])) (o := { dst := some 43, op := Go.Op.call { callee := Go.Callee.builtin Go.Builtin.append, args := #[Go.Operand.tmp 36, Go.Operand.tmp 42], argTypes := #[63, 63] }, type := 63, pos := "law.go:19", after := #[{ on := 18, ground := Go.Ground.data }, { on := 24, ground := Go.Ground.data }, { on := 17, ground := Go.Ground.chain }], guard := none }) (by rfl) (fun K2 hK => ?_)
    refine step_append_row rfl _ _ 63 rfl w6.heap.size 3 iI (.int .i64 0) 1 8 Try.underlying63 hj0 hj1 hj2 hj3 rfl (by decide) encI_len encI_one _ 0 [] rfl (World.ownsRow_nil _ _ _ _) IA n.kids ic rfl hIn (hIr.out.below HF.out) (by simp only [maxLen]; omega) (by omega) (Nat.le_refl _) (fun vl w7 hown hgrow => ?_)
    clear hS0 hS1
    replace hgrow : w6.grownBy w7 none := hgrow
    have hb9 : Below w6.heap.size w6 w7 := (Below.refl _ _).grown hgrow (Nat.le_refl _) (by intro k hk; cases hk)
    simp only [Nat.zero_add, List.nil_append] at hown
    have hIq := Lib.hid (RowP.of_own (enc := encI) (P := fun b => w6.heap.size ≤ b) encI_len hown (fun b hb => (hown.lt b hb).1))
    have hz25 : w.heap.size + 3 ≤ w7.heap.size := Nat.le_trans hszd hb9.size
    replace HA := Lib.hid (HA.out.below hb9 HA.out.lt)
    replace HT := Lib.hid (HT.out.below hb9 HT.out.lt)
    replace HX := Lib.hid (HX.out.below hb9 HX.out.lt)
    replace HF := Lib.hid (below_step' HF.out hb9)
    replace HO := Lib.hid (own_below HO.out hb9)
    replace HL := Lib.hid (fun i t n h1 h2 => (HL.out i t n h1 h2).kept (B := fun _ => False) (Kept.of_below hb9 (Nat.le_refl _)) (fun _ h => h.elim))
    replace hKq := Lib.hid (hKq.out.below hb9)
    replace hVq := Lib.hid (hVq.out.below hb9)
    obtain ⟨hIA, hIc, rfl, _, _⟩ := own_slice hown
    clear hown hgrow
    have hm25 := hb9.size
    clear hb9 hszd
    have hszd := hz25
    clear hz25
    have hS0 : Below w.heap.size w w7 ∧ Box w7 w.heap.size [.slice (some ⟨bN, oN, none⟩) s.length nc, .int .i64 root] := ⟨HF.out, HA.out⟩
    have hS1 : Box w7 (w.heap.size + 1 + 1) [v, .int .i64 root] := HT.out
    refine hK.out _ _ (⟨hS0, fun _ => hS1⟩) ?_
    clear hK K2
    try simp only [Act.put, List.setIfInBounds_toArray, List.set_cons_zero, List.set_cons_succ]
    refine stage_take (i := 26) (oi := { dst := some 44, op := Go.Op.build 66 #[(0, Go.Operand.tmp 27), (1, Go.Operand.tmp 35), (2, Go.Operand.tmp 43)], type := 66, pos := "law.go:19", after := #[{ on := 9, ground := Go.Ground.data }, { on := 17, ground := Go.Ground.data }, { on := 25, ground := Go.Ground.data }], guard := none }) (v := ?_) (T := fun _ => True) rfl (by kernel_rfl) (by kernel_rfl) (by kernel_rfl) (by kernel_rfl) (fun _ _ _ h => h) (fun L' w' hW hS => trivial) (fun L' w' hS => ⟨hS.1, fun h => hS.2 (by rw [getD_set_ne false (by decide)]; exact h)⟩) (Or.inl ⟨by rfl, ?_⟩) trivial (⟨hS0, fun _ => hS1⟩) ?_
    rotate_left 1
    · intro w9 _; go_simp; (try with_reducible rfl)
    try simp only [Act.put, List.setIfInBounds_toArray, List.set_cons_zero, List.set_cons_succ]
    refine stage_all (rs := [27]) (by kernel_rfl) (by simp) (fun i0 hi0 => ?_)
    obtain rfl : i0 = 27 := by simpa using hi0
    refine stage_step (S := fun (L' : Array Bool) (w' : World) => (Below w.heap.size w w' ∧ Box w' w.heap.size [.slice (some ⟨bN, oN, none⟩) s.length nc, .int .i64 root]) ∧ (L'.getD 30 false = false → Box w' (w.heap.size + 1 + 1) [v, .int .i64 root])) (o := { dst := some 45, op := Go.Op.buildSlice 25 1 #[(0, Go.Operand.tmp 44)], type := 25, pos := "law.go:19", after := #[{ on := 26, ground := Go.Ground.data }], guard := none }) (by rfl) (fun K2 hK => ?_)
    go_simp
    have hNW : Hid (∀ jj u, (enc3 (.slice hKA n.keys.length hKc, .slice hVA n.vals.length hVc, .slice hIA n.kids.length hIc))[jj]? = some u → (w7.alloc (.cells #[.slice hKA n.keys.length hKc, .slice hVA n.vals.length hVc, .slice hIA n.kids.length hIc] 66)).cell? ((⟨w7.heap.size, 0, none⟩ : Addr).add jj) = some u) := Lib.hid (fun jj u hu => by rw [Addr.add_lit, Nat.zero_add]; exact (Box.new w7 #[.slice hKA n.keys.length hKc, .slice hVA n.vals.length hVc, .slice hIA n.kids.length hIc] 66).c jj u hu)
    have hb9 : Below w7.heap.size w7 (w7.alloc (.cells #[.slice hKA n.keys.length hKc, .slice hVA n.vals.length hVc, .slice hIA n.kids.length hIc] 66)) := (Below.refl _ _).alloc (Nat.le_refl _) _
    have HN0 : NdP (fun b => wd.heap.size ≤ b) w7 (.slice hKA n.keys.length hKc, .slice hVA n.vals.length hVc, .slice hIA n.kids.length hIc) n := ⟨hKq.out.mono (fun b _ h => h), hVq.out.mono (fun b _ h => by omega), hIq.out.mono (fun b _ h => by omega)⟩
    have HN := Lib.hid (HN0.kept (B := fun _ => False) (Kept.of_below hb9 (Nat.le_refl _)) (fun _ h => h.elim))
    clear HN0 hKq hVq hIq
    replace HA := Lib.hid (HA.out.below hb9 HA.out.lt)
    replace HT := Lib.hid (HT.out.below hb9 HT.out.lt)
    replace HX := Lib.hid (HX.out.below hb9 HX.out.lt)
    replace HF := Lib.hid (below_step' HF.out hb9)
    replace HO := Lib.hid (own_below HO.out hb9)
    replace HL := Lib.hid (fun i t n h1 h2 => (HL.out i t n h1 h2).kept (B := fun _ => False) (Kept.of_below hb9 (Nat.le_refl _)) (fun _ h => h.elim))
    have hszb : w.heap.size + 3 ≤ (w7.alloc (.cells #[.slice hKA n.keys.length hKc, .slice hVA n.vals.length hVc, .slice hIA n.kids.length hIc] 66)).heap.size := Nat.le_trans hszd hb9.size
    have hm27 : w7.heap.size < (w7.alloc (.cells #[.slice hKA n.keys.length hKc, .slice hVA n.vals.length hVc, .slice hIA n.kids.length hIc] 66)).heap.size := by simp
    clear hb9 hszd hS0 hS1
    generalize w7.alloc (.cells #[.slice hKA n.keys.length hKc, .slice hVA n.vals.length hVc, .slice hIA n.kids.length hIc] 66) = wa at *
    generalize w7.heap.size = gq at *
    have hS0 : Below w.heap.size w wa ∧ Box wa w.heap.size [.slice (some ⟨bN, oN, none⟩) s.length nc, .int .i64 root] := ⟨HF.out, HA.out⟩
    have hS1 : Box wa (w.heap.size + 1 + 1) [v, .int .i64 root] := HT.out
    refine hK.out _ _ (⟨hS0, fun _ => hS1⟩) ?_
    clear hK K2
    try simp only [Act.put, List.setIfInBounds_toArray, List.set_cons_zero, List.set_cons_succ]
    refine stage_all (rs := [28]) (by kernel_rfl) (by simp) (fun i0 hi0 => ?_)
    obtain rfl : i0 = 28 := by simpa using hi0
    refine stage_step (S := fun (L' : Array Bool) (w' : World) => (Below w.heap.size w w' ∧ Box w' w.heap.size [.slice (some ⟨bN, oN, none⟩) s.length nc, .int .i64 root]) ∧ (L'.getD 30 false = false → Box w' (w.heap.size + 1 + 1) [v, .int .i64 root])) (o := { dst := some 46, op := Go.Op.call { callee := Go.Callee.builtin Go.Builtin.append, args := #[Go.Operand.tmp 19, Go.Operand.tmp 45], argTypes := #[25, 25] }, type := 25, pos := "law.go:19", after := #[{ on := 1, ground := Go.Ground.data }, { on := 27, ground := Go.Ground.data }, { on := 25, ground := Go.Ground.chain }], guard := none }) (by rfl) (fun K2 hK => ?_)
    have hml : j + 1 ≤ maxLen := by simp only [maxLen]; omega
    have hmb9 : (j + 1) * 72 ≤ 140737488355328 := by omega
    have hone : ∀ u ∈ enc3 (.slice hKA n.keys.length hKc, .slice hVA n.vals.length hVc, .slice hIA n.kids.length hIc), u.oneCell' = true := fun u hu => by simp [enc3] at hu; rcases hu with rfl | rfl | rfl <;> rfl
    refine step_append_own2 rfl _ _ 25 rfl (w.heap.size + 3) 66 iN (.agg #[.slice none 0 0, .slice none 0 0, .slice none 0 0]) 3 72 Try.underlying25 hn0 hn1 hn2 hn3 rfl (by decide) v j _ rfl HO.out ⟨gq, 0, none⟩ 1 1 (enc3 (.slice hKA n.keys.length hKc, .slice hVA n.vals.length hVc, .slice hIA n.kids.length hIc)) rfl rfl hNW.out hone hml hmb9 hszb (fun v' w9 hown hgrow hnew => ?_)
    clear hS0 hS1
    have hol : ∀ b, v.ownBlock = some b → w.heap.size + 3 ≤ b ∧ b < wa.heap.size := fun b hb => HO.out.lt b hb
    have hkg : Kept wa.heap.size (fun k => v.ownBlock = some k) wa w9 := (Kept.refl _ _ wa).grown hgrow (Nat.le_refl _) (fun k hk => .inr hk)
    have hne : ∀ b, b < w.heap.size + 3 → v.ownBlock ≠ some b := fun b hb e => by have := (hol b e).1; omega
    replace HA := Lib.hid (HA.out.kept hkg HA.out.lt (hne _ (by omega)))
    replace HT := Lib.hid (HT.out.kept hkg HT.out.lt (hne _ (by omega)))
    replace HX := Lib.hid (HX.out.kept hkg HX.out.lt (hne _ (by omega)))
    replace HF := Lib.hid (HF.out.grown hgrow HF.out.size (fun k hk => by have := (hol k hk).1; omega))
    have HL2 : Hid (∀ i t x, (L ++ [((.slice hKA n.keys.length hKc, .slice hVA n.vals.length hVc, .slice hIA n.kids.length hIc) : V3)])[i]? = some t → s[i]? = some x → NdP (fun b => w.heap.size + 3 ≤ b ∧ v'.ownBlock ≠ some b) w9 t x) := Lib.hid (fun i t x h1 h2 => by
      have hsrc : NdP (fun b => w.heap.size + 3 ≤ b ∧ v.ownBlock ≠ some b) wa t x := by
        by_cases hij : i < L.length
        · rw [List.getElem?_append_left hij] at h1
          exact HL.out i t x h1 h2
        · rw [List.getElem?_append_right (by omega)] at h1
          have hi0 : i - L.length = 0 := by
            have := (List.getElem?_eq_some_iff.1 h1).1
            simp at this; omega
          rw [hi0] at h1
          obtain rfl := Option.some.inj h1
          obtain rfl : i = j := by omega
          obtain rfl : n = x := by rw [HNJ.out] at h2; exact Option.some.inj h2
          exact HN.out.mono (fun b _ h => ⟨by omega, fun e => by have := hvd b e; omega⟩)
      have hs2 : NdP (fun b => (w.heap.size + 3 ≤ b ∧ v.ownBlock ≠ some b) ∧ v'.ownBlock ≠ some b) wa t x := hsrc.mono (fun b hb h => ⟨h, fun e => by
        rcases hnew with hn | hn
        · exact h.2 (hn ▸ e)
        · have := hn b e; omega⟩)
      exact (hs2.kept hkg (fun k hk h => h.1.2 hk)).mono (fun b _ h => ⟨h.1.1, h.2⟩))
    have hsz9 : w.heap.size + 3 ≤ w9.heap.size := Nat.le_trans hszb hgrow.size
    have HO9 : Hid (w9.ownsRow (w.heap.size + 3) 66 3 v' (j + 1) ((L ++ [((.slice hKA n.keys.length hKc, .slice hVA n.vals.length hVc, .slice hIA n.kids.length hIc) : V3)]).flatMap enc3)) := Lib.hid (by rw [List.flatMap_append]; simpa using hown)
    clear hkg hne hol hgrow hnew HO hNW hone hml hmb9 hown HL HN hszb hvd hvd0
    have hS0 : Below w.heap.size w w9 ∧ Box w9 w.heap.size [.slice (some ⟨bN, oN, none⟩) s.length nc, .int .i64 root] := ⟨HF.out, HA.out⟩
    have hS1 : Box w9 (w.heap.size + 1 + 1) [v, .int .i64 root] := HT.out
    refine hK.out _ _ (⟨hS0, fun _ => hS1⟩) ?_
    clear hK K2
    try simp only [Act.put, List.setIfInBounds_toArray, List.set_cons_zero, List.set_cons_succ]
    refine stage_all (rs := [29]) (by kernel_rfl) (by simp) (fun i0 hi0 => ?_)
    obtain rfl : i0 = 29 := by simpa using hi0
    refine stage_step (S := fun (L' : Array Bool) (w' : World) => (Below w.heap.size w w' ∧ Box w' w.heap.size [.slice (some ⟨bN, oN, none⟩) s.length nc, .int .i64 root]) ∧ (L'.getD 30 false = false → Box w' (w.heap.size + 1 + 1) [v, .int .i64 root])) (o := { dst := some 47, op := Go.Op.fieldAddr 27 (Go.Operand.tmp 3) 0, type := 0, pos := "law.go:19", after := #[{ on := 0, ground := Go.Ground.phase }, { on := 1, ground := Go.Ground.phase }, { on := 2, ground := Go.Ground.phase }, { on := 3, ground := Go.Ground.phase }, { on := 4, ground := Go.Ground.phase }, { on := 5, ground := Go.Ground.phase }, { on := 6, ground := Go.Ground.phase }, { on := 7, ground := Go.Ground.phase }, { on := 8, ground := Go.Ground.phase }, { on := 9, ground := Go.Ground.phase }, { on := 10, ground := Go.Ground.phase }, { on := 11, ground := Go.Ground.phase }, { on := 12, ground := Go.Ground.phase }, { on := 13, ground := Go.Ground.phase }, { on := 14, ground := Go.Ground.phase }, { on := 15, ground := Go.Ground.phase }, { on := 16, ground := Go.Ground.phase }, { on := 17, ground := Go.Ground.phase }, { on := 18, ground := Go.Ground.phase }, { on := 19, ground := Go.Ground.phase }, { on := 20, ground := Go.Ground.phase }, { on := 21, ground := Go.Ground.phase }, { on := 22, ground := Go.Ground.phase }, { on := 23, ground := Go.Ground.phase }, { on := 24, ground := Go.Ground.phase }, { on := 25, ground := Go.Ground.phase }, { on := 26, ground := Go.Ground.phase }, { on := 27, ground := Go.Ground.phase }, { on := 28, ground := Go.Ground.phase }], guard := none }) (by rfl) (fun K2 hK => ?_)
    go_simp
    refine hK.out _ _ (⟨hS0, fun _ => hS1⟩) ?_
    clear hK K2
    try simp only [Act.put, List.setIfInBounds_toArray, List.set_cons_zero, List.set_cons_succ]
    obtain ⟨A9, c9, rfl, _, _⟩ := own_slice HO9.out
    clear hS1
    have cHT0 := HT.out.c 0 _ rfl; have fHT0 := HT.out.f 0 (by simp); have cHT1 := HT.out.c 1 _ rfl; have fHT1 := HT.out.f 1 (by simp); have lHT := HT.out.lt
    refine stage_all (rs := [30]) (by kernel_rfl) (by simp) (fun i0 hi0 => ?_)
    obtain rfl : i0 = 30 := by simpa using hi0
    refine stage_step (S := fun (L' : Array Bool) (w' : World) => (Below w.heap.size w w' ∧ Box w' w.heap.size [.slice (some ⟨bN, oN, none⟩) s.length nc, .int .i64 root]) ∧ (L'.getD 30 false = false → Box w' (w.heap.size + 1 + 1) [v, .int .i64 root])) (o := { dst := none, op := Go.Op.store 25 (Go.Operand.tmp 47) (Go.Operand.tmp 46), type := 0, pos := "law.go:19", after := #[{ on := 29, ground := Go.Ground.data }, { on := 28, ground := Go.Ground.data }, { on := 28, ground := Go.Ground.chain }, { on := 0, ground := Go.Ground.phase }, { on := 1, ground := Go.Ground.phase }, { on := 2, ground := Go.Ground.phase }, { on := 3, ground := Go.Ground.phase }, { on := 4, ground := Go.Ground.phase }, { on := 5, ground := Go.Ground.phase }, { on := 6, ground := Go.Ground.phase }, { on := 7, ground := Go.Ground.phase }, { on := 8, ground := Go.Ground.phase }, { on := 9, ground := Go.Ground.phase }, { on := 10, ground := Go.Ground.phase }, { on := 11, ground := Go.Ground.phase }, { on := 12, ground := Go.Ground.phase }, { on := 13, ground := Go.Ground.phase }, { on := 14, ground := Go.Ground.phase }, { on := 15, ground := Go.Ground.phase }, { on := 16, ground := Go.Ground.phase }, { on := 17, ground := Go.Ground.phase }, { on := 18, ground := Go.Ground.phase }, { on := 19, ground := Go.Ground.phase }, { on := 20, ground := Go.Ground.phase }, { on := 21, ground := Go.Ground.phase }, { on := 22, ground := Go.Ground.phase }, { on := 23, ground := Go.Ground.phase }, { on := 24, ground := Go.Ground.phase }, { on := 25, ground := Go.Ground.phase }, { on := 26, ground := Go.Ground.phase }, { on := 27, ground := Go.Ground.phase }, { on := 28, ground := Go.Ground.phase }], guard := none }) (by rfl) (fun K2 hK => ?_)
    go_simp
    clear cHT0 fHT0 cHT1 fHT1 lHT
    generalize hv9 : Value.slice A9 (j + 1) c9 = v9 at *
    have HF9 : Hid (Below w.heap.size w (w9.setCell ⟨w.heap.size + 1 + 1, 0, none⟩ v9)) := Lib.hid (HF.out.setCell (p := ⟨w.heap.size + 1 + 1, 0, none⟩) (by simp <;> omega) v9)
    have HA9 := Lib.hid (HA.out.other ⟨w.heap.size + 1 + 1, 0, none⟩ v9 (by simp <;> omega))
    have HX9 := Lib.hid (HX.out.other ⟨w.heap.size + 1 + 1, 0, none⟩ v9 (by simp <;> omega))
    have hT9 := HT.out.set 0 v9 (by simp)
    have HT9 : Hid (Box (w9.setCell ⟨w.heap.size + 1 + 1, 0, none⟩ v9) (w.heap.size + 1 + 1) [v9, .int .i64 root]) := Lib.hid hT9
    have HO10 := Lib.hid (own_set HO9.out ⟨w.heap.size + 1 + 1, 0, none⟩ v9 (by simp <;> omega))
    have HL10 := Lib.hid (fun i t x h1 h2 => (HL2.out i t x h1 h2).kept (w' := (w9.setCell ⟨w.heap.size + 1 + 1, 0, none⟩ v9)) (B := fun k => k = w.heap.size + 1 + 1) ((Kept.refl _ _ w9).set _ _ (.inr rfl)) (fun k hk h => by have := h.1; omega))
    have hsz10 : w.heap.size + 3 ≤ (w9.setCell ⟨w.heap.size + 1 + 1, 0, none⟩ v9).heap.size := by simpa using hsz9
    clear hS0 HF HA HX hT9 HT HO9 HL2 hsz9
    generalize (w9.setCell ⟨w.heap.size + 1 + 1, 0, none⟩ v9) = wz at *
    refine hK.out _ _ (⟨⟨HF9.out, HA9.out⟩, fun h => by simp at h⟩) ?_
    clear hK K2
    try simp only [Act.put, List.setIfInBounds_toArray, List.set_cons_zero, List.set_cons_succ]
    refine stage_done (by kernel_rfl) ?_ _
    go_wp2_with fail
    go_roundw
    case rel => exact ⟨j + 1, v9, L ++ [(.slice hKA n.keys.length hKc, .slice hVA n.vals.length hVc, .slice hIA n.kids.length hIc)], by omega, by go_num, by simp [hLl], HO10, HL10, HA9, HT9, HX9, HF9, hsz10⟩
    case measure => simp [Lib.intOf]; omega
  · obtain rfl : j = s.length := by omega
    have hol : ∀ b, v.ownBlock = some b → w.heap.size + 3 ≤ b := fun b hb => (HO.out.lt b hb).1
    obtain ⟨A, c, rfl, hc1, hc2⟩ := own_slice HO.out
    have cHA0 := HA.out.c 0 _ rfl; have fHA0 := HA.out.f 0 (by simp); have cHA1 := HA.out.c 1 _ rfl; have fHA1 := HA.out.f 1 (by simp); have lHA := HA.out.lt; have cHT0 := HT.out.c 0 _ rfl; have fHT0 := HT.out.f 0 (by simp); have cHT1 := HT.out.c 1 _ rfl; have fHT1 := HT.out.f 1 (by simp); have lHT := HT.out.lt; have cHX0 := HX.out.c 0 _ rfl; have fHX0 := HX.out.f 0 (by simp); have cHX1 := HX.out.c 1 _ rfl; have fHX1 := HX.out.f 1 (by simp); have lHX := HX.out.lt
    go_wp2
    clear cHA0 fHA0 cHA1 fHA1 lHA; clear cHT0 fHT0 cHT1 fHT1 lHT; clear cHX0 fHX0 cHX1 fHX1 lHX
    have hX1 := (HX.out.set 0 (.slice A s.length c) (by simp)).set 1 (.int .i64 root) (by simp)
    have HF9 := (HF.out.setCell (p := ⟨w.heap.size + 1, 0, none⟩) (by simp) (.slice A s.length c)).setCell (p := ⟨w.heap.size + 1, 1, none⟩) (by simp) (.int .i64 root)
    have hk9 : Kept wr.heap.size (fun k => k = w.heap.size + 1) wr ((wr.setCell ⟨w.heap.size + 1, 0, none⟩ (.slice A s.length c)).setCell ⟨w.heap.size + 1, 1, none⟩ (.int .i64 root)) := ((Kept.refl _ (fun k => k = w.heap.size + 1) wr).set ⟨w.heap.size + 1, 0, none⟩ (.slice A s.length c) (.inr rfl)).set ⟨w.heap.size + 1, 1, none⟩ (.int .i64 root) (.inr rfl)
    have hN10 : NodesAt ((wr.setCell ⟨w.heap.size + 1, 0, none⟩ (.slice A s.length c)).setCell ⟨w.heap.size + 1, 1, none⟩ (.int .i64 root)) A s := NodesAt.of_own (P := fun b => w.heap.size + 3 ≤ b ∧ (Value.slice A s.length c).ownBlock ≠ some b) (hk9.own HO.out (fun b hb => ⟨(HO.out.lt b hb).2, fun e => by have := hol b hb; omega⟩)) hLl (fun i t x h1 h2 => (HL.out i t x h1 h2).kept hk9 (fun k hk h => by have := h.1; omega))
    clear hk9
    generalize ((wr.setCell ⟨w.heap.size + 1, 0, none⟩ (.slice A s.length c)).setCell ⟨w.heap.size + 1, 1, none⟩ (.int .i64 root)) = wz at *
    have z0 := hX1.c 0 _ rfl
    have z1 := hX1.c 1 _ rfl
    refine bodyPost_ret (by simp [results, Try.results8, go_sem, z0, z1]; rfl) rfl ?_
    exact ⟨A, c, rfl, hc1, hc2, hN10, fun a ha => by have := hol a.block (by rw [ha]; rfl); omega, HF9⟩
end Go.Proofs.Ytkecbghnapjecaa
