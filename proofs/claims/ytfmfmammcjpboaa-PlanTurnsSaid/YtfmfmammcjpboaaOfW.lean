/- The law's Of: a table for the program, in memory of its own; no indexes. -/
import Derived.Test.YtfmfmammcjpboaaMayW
import Derived.Test.YtfmfmammcjpboaaStage
import Derived.Test.YtfmfmammcjpboaaStep
import Derived.Test.YtfmfmammcjpboaaPuts4
import Derived.Lib.Walk
namespace Go.Proofs.Ytfmfmammcjpboaa
open Go.RowKit
set_option linter.unusedVariables false
set_option linter.unusedSimpArgs false
theorem encC_one (l : List Col) : ∀ u ∈ l.flatMap encC, u.oneCell' = true := fun u hu => by
  obtain ⟨x, _, hx⟩ := List.mem_flatMap.1 hu
  simp [encC] at hx
  rcases hx with rfl | rfl | rfl <;> rfl
theorem SlB.row {α : Type} {enc : α → List Value} {k N n c : Nat} {w : World} {A : Option Addr} {l : List α} (h : SlB enc k N w (.slice A n c) l) : RowE enc k w A l := by
  obtain ⟨A', c', e, _, hr, _⟩ := h
  obtain ⟨rfl, _, _⟩ : A = A' ∧ n = l.length ∧ c = c' := by simpa using e
  exact hr
theorem own_sets4 {w : World} {base g k n : Nat} {e : TypeId} {v : Value} {xs : List Value} (h : w.ownsRow base e k v n xs) (hg : v.ownBlock ≠ some g) (v0 v1 v2 v3 : Value) : ((((w.setCell ⟨g, 0, none⟩ v0).setCell ⟨g, 1, none⟩ v1).setCell ⟨g, 2, none⟩ v2).setCell ⟨g, 3, none⟩ v3).ownsRow base e k v n xs := by
  have h0 := h.kept (grown_set w ⟨g, 0, none⟩ v0) (.inr hg)
  have h1 := h0.kept (grown_set _ ⟨g, 1, none⟩ v1) (.inr hg)
  have h2 := h1.kept (grown_set _ ⟨g, 2, none⟩ v2) (.inr hg)
  exact h2.kept (grown_set _ ⟨g, 3, none⟩ v3) (.inr hg)
theorem rowE_puts4 {α : Type} {enc : α → List Value} {k g : Nat} {w : World} {A : Option Addr} {l : List α} (h : RowE enc k w A l) (hA : ∀ a, A = some a → a.block ≠ g) (v0 v1 v2 v3 : Value) : RowE enc k ((((w.setCell ⟨g, 0, none⟩ v0).setCell ⟨g, 1, none⟩ v1).setCell ⟨g, 2, none⟩ v2).setCell ⟨g, 3, none⟩ v3) A l := fun i x hx => by
  obtain ⟨b, off, rfl, hb, hc⟩ := h i x hx
  have hne : b ≠ g := hA _ rfl
  refine ⟨b, off, rfl, by simpa using hb, fun j v hv q u hu => ?_⟩
  have e : ((((w.setCell ⟨g, 0, none⟩ v0).setCell ⟨g, 1, none⟩ v1).setCell ⟨g, 2, none⟩ v2).setCell ⟨g, 3, none⟩ v3).heap[b]? = w.heap[b]? := by
    rw [heap_setCell_other _ _ _ _ (by show b ≠ g; exact hne), heap_setCell_other _ _ _ _ (by show b ≠ g; exact hne), heap_setCell_other _ _ _ _ (by show b ≠ g; exact hne), heap_setCell_other _ _ _ _ (by show b ≠ g; exact hne)]
  exact (World.cell?_of_block (a := ⟨b, _, none⟩) e).trans (hc j v hv q u hu)
set_option maxHeartbeats 8000000 in
set_option maxRecDepth 100000 in
theorem of06_any (nm : ByteArray) (b off : Nat) (cs : List Col) (c : Nat) (k : Int) (B : Option Addr) (d : Nat) (w : World) (HRow : RowE encC 3 w (some ⟨b, off, none⟩) cs) (h0 : cs ≠ []) (hl : cs.length ≤ 1000) :
    Calls Try.prog 9 #[.agg #[.string nm, .slice (some ⟨b, off, none⟩) cs.length c, .int .i64 k, .slice B 0 d]] w fun e w' => ∃ A1 c1, e = .returned (.agg #[.string nm, .slice A1 cs.length c1, .int .i64 k, .slice none 0 0]) ∧ RowE encC 3 w' A1 cs ∧ Below w.heap.size w w' := by
  obtain ⟨iC, hc1, hc2, hc3, hc4⟩ := info_parts (show (Try.prog.info? 65).map (fun i => (i.zero, i.size, i.bytes)) = some (some (.agg #[.string ⟨#[]⟩, .int .i64 0, .bool false]), 3, 32) by kernel_rfl)
  obtain ⟨b', off', hbe, hb0, hcl⟩ := RowE.cells encC_len (by decide) HRow h0
  obtain ⟨rfl, rfl⟩ : b = b' ∧ off = off' := by simpa using hbe
  have HC : Hid (∀ W, Below w.heap.size w W → ∀ (j : Nat) (u : Value), (cs.flatMap encC)[j]? = some u → W.cell? ⟨b, off + j, none⟩ = some u) := Lib.hid (fun W hW j u hu => (hW.cell (p := ⟨b, _, none⟩) hb0).trans (hcl j u hu))
  clear hcl hbe HRow
  have HA := Lib.hid ((Box.new w #[.string nm, .slice (some ⟨b, off, none⟩) cs.length c, .int .i64 k, .slice B 0 d] 25).alloc (.cells #[.string ⟨#[]⟩, .slice none 0 0, .int .i64 0, .slice none 0 0] 38))
  have HR := Lib.hid (Box.new (w.alloc (.cells #[.string nm, .slice (some ⟨b, off, none⟩) cs.length c, .int .i64 k, .slice B 0 d] 25)) #[.string ⟨#[]⟩, .slice none 0 0, .int .i64 0, .slice none 0 0] 38)
  have HF : Hid (Below w.heap.size w ((w.alloc (.cells #[.string nm, .slice (some ⟨b, off, none⟩) cs.length c, .int .i64 k, .slice B 0 d] 25)).alloc (.cells #[.string ⟨#[]⟩, .slice none 0 0, .int .i64 0, .slice none 0 0] 38))) := Lib.hid (by (repeat (first | (with_reducible exact Below.refl _ _) | apply below_alloc _ (Nat.le_refl _) | refine below_set ?_ (by first | exact Nat.le_refl _ | omega) | apply below_drewN | refine below_step ?_ HB)))
  simp only [World.size_alloc] at HR
  go_enter Try.func9, Try.ntmps9
  go_wp2_with fail
  generalize (w.alloc (.cells #[.string nm, .slice (some ⟨b, off, none⟩) cs.length c, .int .i64 k, .slice B 0 d] 25)).alloc (.cells #[.string ⟨#[]⟩, .slice none 0 0, .int .i64 0, .slice none 0 0] 38) = w2 at *
  go_cut [4] (fun p wx => ∃ g A1 c1, p = .pointer (some ⟨g, 0, none⟩) ∧ Hid (Box wx g [.string nm, .slice A1 cs.length c1, .int .i64 k, .slice none 0 0]) ∧ w.heap.size + 2 ≤ g ∧ Hid (Box wx (w.heap.size + 1) [.string ⟨#[]⟩, .slice none 0 0, .int .i64 0, .slice none 0 0]) ∧ Hid (Below w.heap.size w wx) ∧ Hid (RowE encC 3 wx A1 cs) ∧ Hid (Box wx w.heap.size [.string nm, .slice (some ⟨b, off, none⟩) cs.length c, .int .i64 k, .slice B 0 d]) ∧ (∀ a, A1 = some a → w.heap.size + 2 ≤ a.block))
  case first =>
    refine stage_begin (S := fun (L' : Array Bool) (w' : World) => Box w' w.heap.size [.string nm, .slice (some ⟨b, off, none⟩) cs.length c, .int .i64 k, .slice B 0 d]) (by kernel_rfl) ?_
    replace HA := Lib.hid HA.out.drew
    replace HR := Lib.hid HR.out.drew
    replace HF : Hid (Below w.heap.size w w2.drew) := Lib.hid (below_drewN HF.out 1)
    have hN : w.heap.size + 2 ≤ w2.drew.heap.size := HR.out.lt
    generalize w2.drew = wd at *
    have hS0 : (fun w' : World => Box w' w.heap.size [.string nm, .slice (some ⟨b, off, none⟩) cs.length c, .int .i64 k, .slice B 0 d]) wd := HA.out
    refine stage_take (i := 0) (oi := { dst := some 6, op := Go.Op.fieldAddr 25 (Go.Operand.tmp 1) 0, type := 0, pos := "law.go:16", after := #[], guard := none }) (v := ?_) (T := fun _ => True) rfl (by kernel_rfl) (by kernel_rfl) (by kernel_rfl) (by kernel_rfl) (fun _ _ _ h => h) (fun L' w' hW hS => trivial) (fun L' w' hS => hS) (Or.inl ⟨by rfl, ?_⟩) trivial (hS0) ?_
    rotate_left 1
    · intro w9 _; go_simp; (try with_reducible rfl)
    try simp only [Act.put, List.setIfInBounds_toArray, List.set_cons_zero, List.set_cons_succ]
    refine stage_take (i := 1) (oi := { dst := some 7, op := Go.Op.load 9 (Go.Operand.tmp 6), type := 9, pos := "law.go:16", after := #[{ on := 0, ground := Go.Ground.data }], guard := none }) (v := ?_) (T := fun w' : World => Box w' w.heap.size [.string nm, .slice (some ⟨b, off, none⟩) cs.length c, .int .i64 k, .slice B 0 d]) rfl (by kernel_rfl) (by kernel_rfl) (by kernel_rfl) (by kernel_rfl) (fun _ _ _ h => h) (fun L' w' hW hS => hS) (fun L' w' hS => hS) (Or.inl ⟨by rfl, ?_⟩) (hS0) (hS0) ?_
    rotate_left 1
    · intro w9 hS9; have zA := hS9; have zA0 := zA.c 0 _ rfl; have zA1 := zA.c 1 _ rfl; have zA2 := zA.c 2 _ rfl; have zA3 := zA.c 3 _ rfl; clear zA hS9; go_simp; (try with_reducible rfl)
    try simp only [Act.put, List.setIfInBounds_toArray, List.set_cons_zero, List.set_cons_succ]
    refine stage_take (i := 2) (oi := { dst := some 8, op := Go.Op.move (Go.Operand.tmp 3), type := 22, pos := "law.go:16", after := #[], guard := none }) (v := ?_) (T := fun _ => True) rfl (by kernel_rfl) (by kernel_rfl) (by kernel_rfl) (by kernel_rfl) (fun _ _ _ h => h) (fun L' w' hW hS => trivial) (fun L' w' hS => hS) (Or.inl ⟨by rfl, ?_⟩) trivial (hS0) ?_
    rotate_left 1
    · intro w9 _; go_simp; (try with_reducible rfl)
    try simp only [Act.put, List.setIfInBounds_toArray, List.set_cons_zero, List.set_cons_succ]
    refine stage_take (i := 3) (oi := { dst := some 9, op := Go.Op.fieldAddr 25 (Go.Operand.tmp 1) 1, type := 0, pos := "law.go:16", after := #[], guard := none }) (v := ?_) (T := fun _ => True) rfl (by kernel_rfl) (by kernel_rfl) (by kernel_rfl) (by kernel_rfl) (fun _ _ _ h => h) (fun L' w' hW hS => trivial) (fun L' w' hS => hS) (Or.inl ⟨by rfl, ?_⟩) trivial (hS0) ?_
    rotate_left 1
    · intro w9 _; go_simp; (try with_reducible rfl)
    try simp only [Act.put, List.setIfInBounds_toArray, List.set_cons_zero, List.set_cons_succ]
    refine stage_take (i := 4) (oi := { dst := some 10, op := Go.Op.load 22 (Go.Operand.tmp 9), type := 22, pos := "law.go:16", after := #[{ on := 3, ground := Go.Ground.data }], guard := none }) (v := ?_) (T := fun w' : World => Box w' w.heap.size [.string nm, .slice (some ⟨b, off, none⟩) cs.length c, .int .i64 k, .slice B 0 d]) rfl (by kernel_rfl) (by kernel_rfl) (by kernel_rfl) (by kernel_rfl) (fun _ _ _ h => h) (fun L' w' hW hS => hS) (fun L' w' hS => hS) (Or.inl ⟨by rfl, ?_⟩) (hS0) (hS0) ?_
    rotate_left 1
    · intro w9 hS9; have zA := hS9; have zA0 := zA.c 0 _ rfl; have zA1 := zA.c 1 _ rfl; have zA2 := zA.c 2 _ rfl; have zA3 := zA.c 3 _ rfl; clear zA hS9; go_simp; (try with_reducible rfl)
    try simp only [Act.put, List.setIfInBounds_toArray, List.set_cons_zero, List.set_cons_succ]
    refine stage_take (i := 6) (oi := { dst := some 12, op := Go.Op.fieldAddr 25 (Go.Operand.tmp 1) 2, type := 0, pos := "law.go:16", after := #[], guard := none }) (v := ?_) (T := fun _ => True) rfl (by kernel_rfl) (by kernel_rfl) (by kernel_rfl) (by kernel_rfl) (fun _ _ _ h => h) (fun L' w' hW hS => trivial) (fun L' w' hS => hS) (Or.inl ⟨by rfl, ?_⟩) trivial (hS0) ?_
    rotate_left 1
    · intro w9 _; go_simp; (try with_reducible rfl)
    try simp only [Act.put, List.setIfInBounds_toArray, List.set_cons_zero, List.set_cons_succ]
    refine stage_take (i := 7) (oi := { dst := some 13, op := Go.Op.load 3 (Go.Operand.tmp 12), type := 3, pos := "law.go:16", after := #[{ on := 6, ground := Go.Ground.data }], guard := none }) (v := ?_) (T := fun w' : World => Box w' w.heap.size [.string nm, .slice (some ⟨b, off, none⟩) cs.length c, .int .i64 k, .slice B 0 d]) rfl (by kernel_rfl) (by kernel_rfl) (by kernel_rfl) (by kernel_rfl) (fun _ _ _ h => h) (fun L' w' hW hS => hS) (fun L' w' hS => hS) (Or.inl ⟨by rfl, ?_⟩) (hS0) (hS0) ?_
    rotate_left 1
    · intro w9 hS9; have zA := hS9; have zA0 := zA.c 0 _ rfl; have zA1 := zA.c 1 _ rfl; have zA2 := zA.c 2 _ rfl; have zA3 := zA.c 3 _ rfl; clear zA hS9; go_simp; (try with_reducible rfl)
    try simp only [Act.put, List.setIfInBounds_toArray, List.set_cons_zero, List.set_cons_succ]
    refine stage_all (rs := [5, 9]) (by kernel_rfl) (by simp) (fun i0 hi0 => ?_)
    simp only [List.mem_cons, List.not_mem_nil, or_false] at hi0
    rcases hi0 with rfl | rfl
    · refine stage_step (S := fun (L' : Array Bool) (w' : World) => Box w' w.heap.size [.string nm, .slice (some ⟨b, off, none⟩) cs.length c, .int .i64 k, .slice B 0 d]) (o := { dst := some 11, op := Go.Op.call { callee := Go.Callee.builtin Go.Builtin.append, args := #[Go.Operand.tmp 8, Go.Operand.tmp 10], argTypes := #[22, 22] }, type := 22, pos := "law.go:16", after := #[{ on := 2, ground := Go.Ground.data }, { on := 4, ground := Go.Ground.data }], guard := none }) (by rfl) (fun K2 hK => ?_)
      refine step_append_own rfl _ _ 22 rfl (w.heap.size + 2) 65 iC (.agg #[.string ⟨#[]⟩, .int .i64 0, .bool false]) 3 32 Try.underlying22 hc1 hc2 hc3 hc4 rfl (by decide) _ 0 [] rfl (World.ownsRow_nil _ _ _ _) ⟨b, off, none⟩ cs.length c (cs.flatMap encC) rfl (flat_len encC_len cs) (fun i u hi => by rw [Addr.add_lit]; exact HC.out _ (by first | exact HF.out) i u hi) (fun u hu => encC_one cs u hu) (by simp only [maxLen]; omega) (by omega) hN (fun vl w5 hown hgrow => ?_)
      clear hS0
      replace hgrow : wd.grownBy w5 none := hgrow
      replace HA := Lib.hid (HA.out.grown hgrow (by simp))
      replace HR := Lib.hid (HR.out.grown hgrow (by simp))
      replace HF := Lib.hid (HF.out.grown hgrow (by omega) (by intro k hk; cases hk))
      have hS0 := HA.out
      replace hN : w.heap.size + 2 ≤ w5.heap.size := Nat.le_trans hN hgrow.size
      simp only [Nat.zero_add, List.nil_append] at hown
      have HO := Lib.hid hown
      obtain ⟨A1, c1, rfl, _, _⟩ := own_slice hown
      clear hown hgrow
      refine hK.out _ _ (HA.out) ?_
      clear hK K2
      try simp only [Act.put, List.setIfInBounds_toArray, List.set_cons_zero, List.set_cons_succ]
      have hog0 : ∀ q, (Value.slice A1 cs.length c1).ownBlock = some q → q < w5.heap.size := fun q hq => (HO.out.lt q hq).2
      refine stage_take (i := 8) (oi := { dst := some 14, op := Go.Op.build 38 #[(0, Go.Operand.tmp 7), (1, Go.Operand.tmp 11), (2, Go.Operand.tmp 13)], type := 38, pos := "law.go:16", after := #[{ on := 1, ground := Go.Ground.data }, { on := 5, ground := Go.Ground.data }, { on := 7, ground := Go.Ground.data }], guard := none }) (v := ?_) (T := fun _ => True) rfl (by kernel_rfl) (by kernel_rfl) (by kernel_rfl) (by kernel_rfl) (fun _ _ _ h => h) (fun L' w' hW hS => trivial) (fun L' w' hS => hS) (Or.inl ⟨by rfl, ?_⟩) trivial (hS0) ?_
      rotate_left 1
      · intro w9 _; go_simp; (try with_reducible rfl)
      try simp only [Act.put, List.setIfInBounds_toArray, List.set_cons_zero, List.set_cons_succ]
      refine stage_all (rs := [9]) (by kernel_rfl) (by simp) (fun i0 hi0 => ?_)
      obtain rfl : i0 = 9 := by simpa using hi0
      refine stage_step (S := fun (L' : Array Bool) (w' : World) => Box w' w.heap.size [.string nm, .slice (some ⟨b, off, none⟩) cs.length c, .int .i64 k, .slice B 0 d]) (o := { dst := some 4, op := Go.Op.alloc 38, type := 0, pos := "law.go:16", after := #[], guard := none }) (by rfl) (fun K2 hK => ?_)
      go_simp
      have HP := Lib.hid (Box.new w5 #[.string ⟨#[]⟩, .slice none 0 0, .int .i64 0, .slice none 0 0] 38)
      have hg : w.heap.size + 2 ≤ w5.heap.size := hN
      clear hS0
      replace HA := Lib.hid (HA.out.alloc (.cells #[.string ⟨#[]⟩, .slice none 0 0, .int .i64 0, .slice none 0 0] 38))
      replace HR := Lib.hid (HR.out.alloc (.cells #[.string ⟨#[]⟩, .slice none 0 0, .int .i64 0, .slice none 0 0] 38))
      replace HF := Lib.hid (HF.out.alloc (by omega) (.cells #[.string ⟨#[]⟩, .slice none 0 0, .int .i64 0, .slice none 0 0] 38))
      have hS0 := HA.out
      replace HO := Lib.hid (HO.out.alloc (.cells #[.string ⟨#[]⟩, .slice none 0 0, .int .i64 0, .slice none 0 0] 38))
      replace hN : w.heap.size + 2 ≤ (w5.alloc (.cells #[.string ⟨#[]⟩, .slice none 0 0, .int .i64 0, .slice none 0 0] 38)).heap.size := by simp; omega
      refine hK.out _ _ (HA.out) ?_
      clear hK K2
      try simp only [Act.put, List.setIfInBounds_toArray, List.set_cons_zero, List.set_cons_succ]
      generalize w5.alloc (.cells #[.string ⟨#[]⟩, .slice none 0 0, .int .i64 0, .slice none 0 0] 38) = w6 at *
      generalize w5.heap.size = g at *
      have hog : (Value.slice A1 cs.length c1).ownBlock ≠ some g := fun q => by have := hog0 _ q; omega
      refine stage_all (rs := [10]) (by kernel_rfl) (by simp) (fun i0 hi0 => ?_)
      obtain rfl : i0 = 10 := by simpa using hi0
      refine stage_step (S := fun (L' : Array Bool) (w' : World) => Box w' w.heap.size [.string nm, .slice (some ⟨b, off, none⟩) cs.length c, .int .i64 k, .slice B 0 d]) (o := { dst := none, op := Go.Op.store 38 (Go.Operand.tmp 4) (Go.Operand.tmp 14), type := 0, pos := "law.go:16", after := #[{ on := 9, ground := Go.Ground.data }, { on := 8, ground := Go.Ground.data }, { on := 5, ground := Go.Ground.chain }, { on := 0, ground := Go.Ground.phase }, { on := 1, ground := Go.Ground.phase }, { on := 2, ground := Go.Ground.phase }, { on := 3, ground := Go.Ground.phase }, { on := 4, ground := Go.Ground.phase }, { on := 5, ground := Go.Ground.phase }, { on := 6, ground := Go.Ground.phase }, { on := 7, ground := Go.Ground.phase }, { on := 8, ground := Go.Ground.phase }, { on := 9, ground := Go.Ground.phase }], guard := none }) (by rfl) (fun K2 hK => ?_)
      have cHP0 := HP.out.c 0 _ rfl; have fHP0 := HP.out.f 0 (by simp); have cHP1 := HP.out.c 1 _ rfl; have fHP1 := HP.out.f 1 (by simp); have cHP2 := HP.out.c 2 _ rfl; have fHP2 := HP.out.f 2 (by simp); have cHP3 := HP.out.c 3 _ rfl; have fHP3 := HP.out.f 3 (by simp); have lHP := HP.out.lt
      go_simp
      clear cHP0 fHP0 cHP1 fHP1 cHP2 fHP2 cHP3 fHP3 lHP
      have hP1 := puts4 HP.out (.string nm) (.slice A1 cs.length c1) (.int .i64 k) (.slice none 0 0)
      replace HA := Lib.hid (puts4_other HA.out (show g ≠ w.heap.size by omega) (.string nm) (.slice A1 cs.length c1) (.int .i64 k) (.slice none 0 0))
      replace HR := Lib.hid (puts4_other HR.out (show g ≠ w.heap.size + 1 by omega) (.string nm) (.slice A1 cs.length c1) (.int .i64 k) (.slice none 0 0))
      replace HF := Lib.hid (puts4_below HF.out (show w.heap.size ≤ g by omega) (.string nm) (.slice A1 cs.length c1) (.int .i64 k) (.slice none 0 0))
      have hrow : ∀ a, A1 = some a → w.heap.size + 2 ≤ a.block := fun a ha => by have := (HO.out.lt a.block (by rw [ha]; rfl)).1; omega
      have HOQ := own_sets4 (g := g) HO.out (fun q => hog q) (.string nm) (.slice A1 cs.length c1) (.int .i64 k) (.slice none 0 0)
      have HOF : Hid (RowE encC 3 _ A1 cs) := Lib.hid ((SlB.of_own (N := w.heap.size + 2) encC_len (by decide) (Nat.le_refl _) HOQ).row)
      refine hK.out _ _ (HA.out) ?_
      clear hK K2
      try simp only [Act.put, List.setIfInBounds_toArray, List.set_cons_zero, List.set_cons_succ]
      refine stage_done (by kernel_rfl) ?_ _
      go_wp2_with fail
      go_meet
      exact ⟨g, A1, c1, rfl, Lib.hid (by simpa using hP1), hg, HR, HF, HOF, HA, hrow⟩
    · refine stage_step (S := fun (L' : Array Bool) (w' : World) => Box w' w.heap.size [.string nm, .slice (some ⟨b, off, none⟩) cs.length c, .int .i64 k, .slice B 0 d]) (o := { dst := some 4, op := Go.Op.alloc 38, type := 0, pos := "law.go:16", after := #[], guard := none }) (by rfl) (fun K2 hK => ?_)
      go_simp
      have HP := Lib.hid (Box.new wd #[.string ⟨#[]⟩, .slice none 0 0, .int .i64 0, .slice none 0 0] 38)
      have hg : w.heap.size + 2 ≤ wd.heap.size := hN
      clear hS0
      replace HA := Lib.hid (HA.out.alloc (.cells #[.string ⟨#[]⟩, .slice none 0 0, .int .i64 0, .slice none 0 0] 38))
      replace HR := Lib.hid (HR.out.alloc (.cells #[.string ⟨#[]⟩, .slice none 0 0, .int .i64 0, .slice none 0 0] 38))
      replace HF := Lib.hid (HF.out.alloc (by omega) (.cells #[.string ⟨#[]⟩, .slice none 0 0, .int .i64 0, .slice none 0 0] 38))
      have hS0 := HA.out
      replace hN : w.heap.size + 2 ≤ (wd.alloc (.cells #[.string ⟨#[]⟩, .slice none 0 0, .int .i64 0, .slice none 0 0] 38)).heap.size := by simp; omega
      refine hK.out _ _ (HA.out) ?_
      clear hK K2
      try simp only [Act.put, List.setIfInBounds_toArray, List.set_cons_zero, List.set_cons_succ]
      generalize wd.alloc (.cells #[.string ⟨#[]⟩, .slice none 0 0, .int .i64 0, .slice none 0 0] 38) = w5 at *
      generalize wd.heap.size = g at *
      have hg5 : g + 1 ≤ w5.heap.size := HP.out.lt
      refine stage_all (rs := [5]) (by kernel_rfl) (by simp) (fun i0 hi0 => ?_)
      obtain rfl : i0 = 5 := by simpa using hi0
      refine stage_step (S := fun (L' : Array Bool) (w' : World) => Box w' w.heap.size [.string nm, .slice (some ⟨b, off, none⟩) cs.length c, .int .i64 k, .slice B 0 d]) (o := { dst := some 11, op := Go.Op.call { callee := Go.Callee.builtin Go.Builtin.append, args := #[Go.Operand.tmp 8, Go.Operand.tmp 10], argTypes := #[22, 22] }, type := 22, pos := "law.go:16", after := #[{ on := 2, ground := Go.Ground.data }, { on := 4, ground := Go.Ground.data }], guard := none }) (by rfl) (fun K2 hK => ?_)
      refine step_append_own rfl _ _ 22 rfl (g + 1) 65 iC (.agg #[.string ⟨#[]⟩, .int .i64 0, .bool false]) 3 32 Try.underlying22 hc1 hc2 hc3 hc4 rfl (by decide) _ 0 [] rfl (World.ownsRow_nil _ _ _ _) ⟨b, off, none⟩ cs.length c (cs.flatMap encC) rfl (flat_len encC_len cs) (fun i u hi => by rw [Addr.add_lit]; exact HC.out _ (by first | exact HF.out) i u hi) (fun u hu => encC_one cs u hu) (by simp only [maxLen]; omega) (by omega) hg5 (fun vl w6 hown hgrow => ?_)
      clear hS0
      replace hgrow : w5.grownBy w6 none := hgrow
      replace HA := Lib.hid (HA.out.grown hgrow (by simp))
      replace HR := Lib.hid (HR.out.grown hgrow (by simp))
      replace HF := Lib.hid (HF.out.grown hgrow (by omega) (by intro k hk; cases hk))
      have hS0 := HA.out
      replace HP := Lib.hid (HP.out.grown hgrow (by simp))
      replace hN : w.heap.size + 2 ≤ w6.heap.size := Nat.le_trans hN hgrow.size
      simp only [Nat.zero_add, List.nil_append] at hown
      have HO := Lib.hid hown
      obtain ⟨A1, c1, rfl, _, _⟩ := own_slice hown
      clear hown hgrow
      refine hK.out _ _ (HA.out) ?_
      clear hK K2
      try simp only [Act.put, List.setIfInBounds_toArray, List.set_cons_zero, List.set_cons_succ]
      refine stage_take (i := 8) (oi := { dst := some 14, op := Go.Op.build 38 #[(0, Go.Operand.tmp 7), (1, Go.Operand.tmp 11), (2, Go.Operand.tmp 13)], type := 38, pos := "law.go:16", after := #[{ on := 1, ground := Go.Ground.data }, { on := 5, ground := Go.Ground.data }, { on := 7, ground := Go.Ground.data }], guard := none }) (v := ?_) (T := fun _ => True) rfl (by kernel_rfl) (by kernel_rfl) (by kernel_rfl) (by kernel_rfl) (fun _ _ _ h => h) (fun L' w' hW hS => trivial) (fun L' w' hS => hS) (Or.inl ⟨by rfl, ?_⟩) trivial (hS0) ?_
      rotate_left 1
      · intro w9 _; go_simp; (try with_reducible rfl)
      try simp only [Act.put, List.setIfInBounds_toArray, List.set_cons_zero, List.set_cons_succ]
      have hog : (Value.slice A1 cs.length c1).ownBlock ≠ some g := fun q => by have := (HO.out.lt _ q).1; omega
      replace HO := Lib.hid (own_base HO.out (show w.heap.size + 2 ≤ g + 1 by omega))
      refine stage_all (rs := [10]) (by kernel_rfl) (by simp) (fun i0 hi0 => ?_)
      obtain rfl : i0 = 10 := by simpa using hi0
      refine stage_step (S := fun (L' : Array Bool) (w' : World) => Box w' w.heap.size [.string nm, .slice (some ⟨b, off, none⟩) cs.length c, .int .i64 k, .slice B 0 d]) (o := { dst := none, op := Go.Op.store 38 (Go.Operand.tmp 4) (Go.Operand.tmp 14), type := 0, pos := "law.go:16", after := #[{ on := 9, ground := Go.Ground.data }, { on := 8, ground := Go.Ground.data }, { on := 5, ground := Go.Ground.chain }, { on := 0, ground := Go.Ground.phase }, { on := 1, ground := Go.Ground.phase }, { on := 2, ground := Go.Ground.phase }, { on := 3, ground := Go.Ground.phase }, { on := 4, ground := Go.Ground.phase }, { on := 5, ground := Go.Ground.phase }, { on := 6, ground := Go.Ground.phase }, { on := 7, ground := Go.Ground.phase }, { on := 8, ground := Go.Ground.phase }, { on := 9, ground := Go.Ground.phase }], guard := none }) (by rfl) (fun K2 hK => ?_)
      have cHP0 := HP.out.c 0 _ rfl; have fHP0 := HP.out.f 0 (by simp); have cHP1 := HP.out.c 1 _ rfl; have fHP1 := HP.out.f 1 (by simp); have cHP2 := HP.out.c 2 _ rfl; have fHP2 := HP.out.f 2 (by simp); have cHP3 := HP.out.c 3 _ rfl; have fHP3 := HP.out.f 3 (by simp); have lHP := HP.out.lt
      go_simp
      clear cHP0 fHP0 cHP1 fHP1 cHP2 fHP2 cHP3 fHP3 lHP
      have hP1 := puts4 HP.out (.string nm) (.slice A1 cs.length c1) (.int .i64 k) (.slice none 0 0)
      replace HA := Lib.hid (puts4_other HA.out (show g ≠ w.heap.size by omega) (.string nm) (.slice A1 cs.length c1) (.int .i64 k) (.slice none 0 0))
      replace HR := Lib.hid (puts4_other HR.out (show g ≠ w.heap.size + 1 by omega) (.string nm) (.slice A1 cs.length c1) (.int .i64 k) (.slice none 0 0))
      replace HF := Lib.hid (puts4_below HF.out (show w.heap.size ≤ g by omega) (.string nm) (.slice A1 cs.length c1) (.int .i64 k) (.slice none 0 0))
      have hrow : ∀ a, A1 = some a → w.heap.size + 2 ≤ a.block := fun a ha => by have := (HO.out.lt a.block (by rw [ha]; rfl)).1; omega
      have HOQ := own_sets4 (g := g) HO.out (fun q => hog q) (.string nm) (.slice A1 cs.length c1) (.int .i64 k) (.slice none 0 0)
      have HOF : Hid (RowE encC 3 _ A1 cs) := Lib.hid ((SlB.of_own (N := w.heap.size + 2) encC_len (by decide) (Nat.le_refl _) HOQ).row)
      refine hK.out _ _ (HA.out) ?_
      clear hK K2
      try simp only [Act.put, List.setIfInBounds_toArray, List.set_cons_zero, List.set_cons_succ]
      refine stage_done (by kernel_rfl) ?_ _
      go_wp2_with fail
      go_meet
      exact ⟨g, A1, c1, rfl, Lib.hid (by simpa using hP1), hg, HR, HF, HOF, HA, hrow⟩
  case rest =>
    obtain ⟨g, A1, c1, rfl, HP, hg, HR, HF, HOF, HA, hrow⟩ := hcut
    have a3 := HA.out.c 3 _ rfl
    clear HC
    go_wp2_with fail
    go_loopw [5] (fun i wr => i = .int .i64 0 ∧ wc = wr) (fun i _ => 0)
    case atStart => exact ⟨rfl, rfl⟩
    case round =>
    obtain ⟨rfl, rfl⟩ := hrel
    have cHP0 := HP.out.c 0 _ rfl; have fHP0 := HP.out.f 0 (by simp); have cHP1 := HP.out.c 1 _ rfl; have fHP1 := HP.out.f 1 (by simp); have cHP2 := HP.out.c 2 _ rfl; have fHP2 := HP.out.f 2 (by simp); have cHP3 := HP.out.c 3 _ rfl; have fHP3 := HP.out.f 3 (by simp); have lHP := HP.out.lt; have cHR0 := HR.out.c 0 _ rfl; have fHR0 := HR.out.f 0 (by simp); have cHR1 := HR.out.c 1 _ rfl; have fHR1 := HR.out.f 1 (by simp); have cHR2 := HR.out.c 2 _ rfl; have fHR2 := HR.out.f 2 (by simp); have cHR3 := HR.out.c 3 _ rfl; have fHR3 := HR.out.f 3 (by simp); have lHR := HR.out.lt
    have HFo := HF.out
    have hne : ¬ g = w.heap.size + 1 := by omega
    have hne2 : ¬ w.heap.size + 1 = g := by omega
    go_wp2
    refine bodyPost_ret (by simp [results, Try.results9, go_sem, cHR0, cHR1, cHR2, cHR3, hne, hne2]; rfl) rfl ?_
    refine ⟨A1, c1, rfl, ?_, puts4_below HFo (by omega) _ _ _ _⟩
    exact rowE_puts4 HOF.out (fun a ha => by have := hrow a ha; omega) _ _ _ _
end Go.Proofs.Ytfmfmammcjpboaa
