/- The law's Of: a table for the program, in memory of its own. -/
import Derived.Test.YtfmfmammcjpboaaOfW
import Derived.Test.YtfmfmammcjpboaaAppRow
namespace Go.Proofs.Ytfmfmammcjpboaa
open Go.RowKit
set_option linter.unusedVariables false
set_option linter.unusedSimpArgs false
theorem encX_one (l : List Ixd) : ∀ u ∈ l.flatMap encX, u.oneCell' = true := fun u hu => by
  obtain ⟨x, _, hx⟩ := List.mem_flatMap.1 hu
  simp [encX] at hx
  rcases hx with rfl | rfl <;> rfl
set_option maxHeartbeats 4000000 in
set_option maxRecDepth 100000 in
theorem of06_gen (nm : ByteArray) (A : Option Addr) (cs : List Col) (c : Nat) (k : Int) (B : Option Addr) (xs : List Ixd) (d : Nat) (w : World) (HRow : RowE encC 3 w A cs) (HRx : RowE encX 2 w B xs) (hnA : A = none → c = 0) (hl : cs.length * 32 ≤ 140737488351232) (hlx : xs.length * 24 ≤ 140737488351232) :
    Calls Try.prog 9 #[.agg #[.string nm, .slice A cs.length c, .int .i64 k, .slice B xs.length d]] w fun e w' => ∃ A1 c1 B1 d1, e = .returned (.agg #[.string nm, .slice A1 cs.length c1, .int .i64 k, .slice B1 xs.length d1]) ∧ RowE encC 3 w' A1 cs ∧ RowE encX 2 w' B1 xs ∧ Below w.heap.size w w' := by
  obtain ⟨iC, hc1, hc2, hc3, hc4⟩ := info_parts (show (Try.prog.info? 65).map (fun i => (i.zero, i.size, i.bytes)) = some (some (.agg #[.string ⟨#[]⟩, .int .i64 0, .bool false]), 3, 32) by kernel_rfl)
  obtain ⟨iX, hx1, hx2, hx3, hx4⟩ := info_parts (show (Try.prog.info? 79).map (fun i => (i.zero, i.size, i.bytes)) = some (some (.agg #[.string ⟨#[]⟩, .int .i64 0]), 2, 24) by kernel_rfl)
  have HC : Hid (∀ W, Below w.heap.size w W → RowE encC 3 W A cs) := Lib.hid (fun W hW => HRow.below hW)
  have HX : Hid (∀ W, Below w.heap.size w W → RowE encX 2 W B xs) := Lib.hid (fun W hW => HRx.below hW)
  clear HRow HRx
  have HA := Lib.hid ((Box.new w #[.string nm, .slice A cs.length c, .int .i64 k, .slice B xs.length d] 25).alloc (.cells #[.string ⟨#[]⟩, .slice none 0 0, .int .i64 0, .slice none 0 0] 38))
  have HR := Lib.hid (Box.new (w.alloc (.cells #[.string nm, .slice A cs.length c, .int .i64 k, .slice B xs.length d] 25)) #[.string ⟨#[]⟩, .slice none 0 0, .int .i64 0, .slice none 0 0] 38)
  have HF : Hid (Below w.heap.size w ((w.alloc (.cells #[.string nm, .slice A cs.length c, .int .i64 k, .slice B xs.length d] 25)).alloc (.cells #[.string ⟨#[]⟩, .slice none 0 0, .int .i64 0, .slice none 0 0] 38))) := Lib.hid (by (repeat (first | (with_reducible exact Below.refl _ _) | apply below_alloc _ (Nat.le_refl _) | refine below_set ?_ (by first | exact Nat.le_refl _ | omega) | apply below_drewN | refine below_step ?_ HB)))
  simp only [World.size_alloc] at HR
  go_enter Try.func9, Try.ntmps9
  go_wp2_with fail
  generalize (w.alloc (.cells #[.string nm, .slice A cs.length c, .int .i64 k, .slice B xs.length d] 25)).alloc (.cells #[.string ⟨#[]⟩, .slice none 0 0, .int .i64 0, .slice none 0 0] 38) = w2 at *
  go_cut [4] (fun p wx => ∃ g A1 c1, p = .pointer (some ⟨g, 0, none⟩) ∧ Hid (Box wx g [.string nm, .slice A1 cs.length c1, .int .i64 k, .slice none 0 0]) ∧ w.heap.size + 2 ≤ g ∧ Hid (Box wx (w.heap.size + 1) [.string ⟨#[]⟩, .slice none 0 0, .int .i64 0, .slice none 0 0]) ∧ Hid (Below w.heap.size w wx) ∧ Hid (RowE encC 3 wx A1 cs) ∧ Hid (Box wx w.heap.size [.string nm, .slice A cs.length c, .int .i64 k, .slice B xs.length d]) ∧ Hid (∀ a, A1 = some a → w.heap.size + 2 ≤ a.block ∧ a.block ≠ g ∧ a.block < wx.heap.size))
  case first =>
    refine stage_begin (S := fun (L' : Array Bool) (w' : World) => Box w' w.heap.size [.string nm, .slice A cs.length c, .int .i64 k, .slice B xs.length d]) (by kernel_rfl) ?_
    replace HA := Lib.hid HA.out.drew
    replace HR := Lib.hid HR.out.drew
    replace HF : Hid (Below w.heap.size w w2.drew) := Lib.hid (below_drewN HF.out 1)
    have hN : w.heap.size + 2 ≤ w2.drew.heap.size := HR.out.lt
    generalize w2.drew = wd at *
    have hS0 : (fun w' : World => Box w' w.heap.size [.string nm, .slice A cs.length c, .int .i64 k, .slice B xs.length d]) wd := HA.out
    refine stage_take (i := 0) (oi := { dst := some 6, op := Go.Op.fieldAddr 25 (Go.Operand.tmp 1) 0, type := 0, pos := "law.go:16", after := #[], guard := none }) (v := ?_) (T := fun _ => True) rfl (by kernel_rfl) (by kernel_rfl) (by kernel_rfl) (by kernel_rfl) (fun _ _ _ h => h) (fun L' w' hW hS => trivial) (fun L' w' hS => hS) (Or.inl ⟨by rfl, ?_⟩) trivial (hS0) ?_
    rotate_left 1
    · intro w9 _; go_simp; (try with_reducible rfl)
    try simp only [Act.put, List.setIfInBounds_toArray, List.set_cons_zero, List.set_cons_succ]
    refine stage_take (i := 1) (oi := { dst := some 7, op := Go.Op.load 9 (Go.Operand.tmp 6), type := 9, pos := "law.go:16", after := #[{ on := 0, ground := Go.Ground.data }], guard := none }) (v := ?_) (T := fun w' : World => Box w' w.heap.size [.string nm, .slice A cs.length c, .int .i64 k, .slice B xs.length d]) rfl (by kernel_rfl) (by kernel_rfl) (by kernel_rfl) (by kernel_rfl) (fun _ _ _ h => h) (fun L' w' hW hS => hS) (fun L' w' hS => hS) (Or.inl ⟨by rfl, ?_⟩) (hS0) (hS0) ?_
    rotate_left 1
    · intro w9 hS9; have zA := hS9; have zA0 := zA.c 0 _ rfl; have zA1 := zA.c 1 _ rfl; have zA2 := zA.c 2 _ rfl; have zA3 := zA.c 3 _ rfl; clear zA hS9; go_simp; (try with_reducible rfl)
    try simp only [Act.put, List.setIfInBounds_toArray, List.set_cons_zero, List.set_cons_succ]
    refine stage_take (i := 2) (oi := { dst := some 8, op := Go.Op.move (Go.Operand.tmp 3), type := 22, pos := "law.go:16", after := #[], guard := none }) (v := ?_) (T := fun _ => True) rfl (by kernel_rfl) (by kernel_rfl) (by kernel_rfl) (by kernel_rfl) (fun _ _ _ h => h) (fun L' w' hW hS => trivial) (fun L' w' hS => hS) (Or.inl ⟨by rfl, ?_⟩) trivial (hS0) ?_
    rotate_left 1
    · intro w9 _; go_simp; (try with_reducible rfl)
    try simp only [Act.put, List.setIfInBounds_toArray, List.set_cons_zero, List.set_cons_succ]
    refine stage_take (i := 3) (oi := { dst := some 9, op := Go.Op.fieldAddr 25 (Go.Operand.tmp 1) 1, type := 0, pos := "law.go:16", after := #[], guard := none }) (v := ?_) (T := fun _ => True) rfl (by kernel_rfl) (by kernel_rfl) (by kernel_rfl) (by kernel_rfl) (fun _ _ _ h => h) (fun L' w' hW hS => trivial) (fun L' w' hS => hS) (Or.inl ⟨by rfl, ?_⟩) trivial (hS0) ?_
    rotate_left 1
    · intro w9 _; go_simp; (try with_reducible rfl)
    try simp only [Act.put, List.setIfInBounds_toArray, List.set_cons_zero, List.set_cons_succ]
    refine stage_take (i := 4) (oi := { dst := some 10, op := Go.Op.load 22 (Go.Operand.tmp 9), type := 22, pos := "law.go:16", after := #[{ on := 3, ground := Go.Ground.data }], guard := none }) (v := ?_) (T := fun w' : World => Box w' w.heap.size [.string nm, .slice A cs.length c, .int .i64 k, .slice B xs.length d]) rfl (by kernel_rfl) (by kernel_rfl) (by kernel_rfl) (by kernel_rfl) (fun _ _ _ h => h) (fun L' w' hW hS => hS) (fun L' w' hS => hS) (Or.inl ⟨by rfl, ?_⟩) (hS0) (hS0) ?_
    rotate_left 1
    · intro w9 hS9; have zA := hS9; have zA0 := zA.c 0 _ rfl; have zA1 := zA.c 1 _ rfl; have zA2 := zA.c 2 _ rfl; have zA3 := zA.c 3 _ rfl; clear zA hS9; go_simp; (try with_reducible rfl)
    try simp only [Act.put, List.setIfInBounds_toArray, List.set_cons_zero, List.set_cons_succ]
    refine stage_take (i := 6) (oi := { dst := some 12, op := Go.Op.fieldAddr 25 (Go.Operand.tmp 1) 2, type := 0, pos := "law.go:16", after := #[], guard := none }) (v := ?_) (T := fun _ => True) rfl (by kernel_rfl) (by kernel_rfl) (by kernel_rfl) (by kernel_rfl) (fun _ _ _ h => h) (fun L' w' hW hS => trivial) (fun L' w' hS => hS) (Or.inl ⟨by rfl, ?_⟩) trivial (hS0) ?_
    rotate_left 1
    · intro w9 _; go_simp; (try with_reducible rfl)
    try simp only [Act.put, List.setIfInBounds_toArray, List.set_cons_zero, List.set_cons_succ]
    refine stage_take (i := 7) (oi := { dst := some 13, op := Go.Op.load 3 (Go.Operand.tmp 12), type := 3, pos := "law.go:16", after := #[{ on := 6, ground := Go.Ground.data }], guard := none }) (v := ?_) (T := fun w' : World => Box w' w.heap.size [.string nm, .slice A cs.length c, .int .i64 k, .slice B xs.length d]) rfl (by kernel_rfl) (by kernel_rfl) (by kernel_rfl) (by kernel_rfl) (fun _ _ _ h => h) (fun L' w' hW hS => hS) (fun L' w' hS => hS) (Or.inl ⟨by rfl, ?_⟩) (hS0) (hS0) ?_
    rotate_left 1
    · intro w9 hS9; have zA := hS9; have zA0 := zA.c 0 _ rfl; have zA1 := zA.c 1 _ rfl; have zA2 := zA.c 2 _ rfl; have zA3 := zA.c 3 _ rfl; clear zA hS9; go_simp; (try with_reducible rfl)
    try simp only [Act.put, List.setIfInBounds_toArray, List.set_cons_zero, List.set_cons_succ]
    refine stage_all (rs := [5, 9]) (by kernel_rfl) (by simp) (fun i0 hi0 => ?_)
    simp only [List.mem_cons, List.not_mem_nil, or_false] at hi0
    rcases hi0 with rfl | rfl
    · refine stage_step (S := fun (L' : Array Bool) (w' : World) => Box w' w.heap.size [.string nm, .slice A cs.length c, .int .i64 k, .slice B xs.length d]) (o := { dst := some 11, op := Go.Op.call { callee := Go.Callee.builtin Go.Builtin.append, args := #[Go.Operand.tmp 8, Go.Operand.tmp 10], argTypes := #[22, 22] }, type := 22, pos := "law.go:16", after := #[{ on := 2, ground := Go.Ground.data }, { on := 4, ground := Go.Ground.data }], guard := none }) (by rfl) (fun K2 hK => ?_)
      refine step_append_row rfl _ _ 22 rfl (w.heap.size + 2) 65 iC (.agg #[.string ⟨#[]⟩, .int .i64 0, .bool false]) 3 32 Try.underlying22 hc1 hc2 hc3 hc4 rfl (by decide) encC_len encC_one _ 0 [] rfl (World.ownsRow_nil _ _ _ _) A cs c rfl hnA (HC.out _ (by first | exact HF.out)) (by simp only [maxLen]; omega) (by omega) hN (fun vl w5 hown hgrow => ?_)
      clear hS0
      replace hgrow : wd.grownBy w5 none := hgrow
      replace HA := Lib.hid (HA.out.grown hgrow (by simp))
      replace HR := Lib.hid (HR.out.grown hgrow (by simp))
      replace HF := Lib.hid (HF.out.grown hgrow (by omega) (by intro k hk; cases hk))
      have hS0 := HA.out
      replace hN : w.heap.size + 2 ≤ w5.heap.size := Nat.le_trans hN hgrow.size
      simp only [Nat.zero_add, List.nil_append] at hown
      have HO := Lib.hid hown
      obtain ⟨A1, c1, rfl, _, _⟩ := own_slice hown
      clear hown hgrow
      refine hK.out _ _ (HA.out) ?_
      clear hK K2
      try simp only [Act.put, List.setIfInBounds_toArray, List.set_cons_zero, List.set_cons_succ]
      have hog0 : ∀ q, (Value.slice A1 cs.length c1).ownBlock = some q → q < w5.heap.size := fun q hq => (HO.out.lt q hq).2
      refine stage_take (i := 8) (oi := { dst := some 14, op := Go.Op.build 38 #[(0, Go.Operand.tmp 7), (1, Go.Operand.tmp 11), (2, Go.Operand.tmp 13)], type := 38, pos := "law.go:16", after := #[{ on := 1, ground := Go.Ground.data }, { on := 5, ground := Go.Ground.data }, { on := 7, ground := Go.Ground.data }], guard := none }) (v := ?_) (T := fun _ => True) rfl (by kernel_rfl) (by kernel_rfl) (by kernel_rfl) (by kernel_rfl) (fun _ _ _ h => h) (fun L' w' hW hS => trivial) (fun L' w' hS => hS) (Or.inl ⟨by rfl, ?_⟩) trivial (hS0) ?_
      rotate_left 1
      · intro w9 _; go_simp; (try with_reducible rfl)
      try simp only [Act.put, List.setIfInBounds_toArray, List.set_cons_zero, List.set_cons_succ]
      refine stage_all (rs := [9]) (by kernel_rfl) (by simp) (fun i0 hi0 => ?_)
      obtain rfl : i0 = 9 := by simpa using hi0
      refine stage_step (S := fun (L' : Array Bool) (w' : World) => Box w' w.heap.size [.string nm, .slice A cs.length c, .int .i64 k, .slice B xs.length d]) (o := { dst := some 4, op := Go.Op.alloc 38, type := 0, pos := "law.go:16", after := #[], guard := none }) (by rfl) (fun K2 hK => ?_)
      go_simp
      have HP := Lib.hid (Box.new w5 #[.string ⟨#[]⟩, .slice none 0 0, .int .i64 0, .slice none 0 0] 38)
      have hg : w.heap.size + 2 ≤ w5.heap.size := hN
      clear hS0
      replace HA := Lib.hid (HA.out.alloc (.cells #[.string ⟨#[]⟩, .slice none 0 0, .int .i64 0, .slice none 0 0] 38))
      replace HR := Lib.hid (HR.out.alloc (.cells #[.string ⟨#[]⟩, .slice none 0 0, .int .i64 0, .slice none 0 0] 38))
      replace HF := Lib.hid (HF.out.alloc (by omega) (.cells #[.string ⟨#[]⟩, .slice none 0 0, .int .i64 0, .slice none 0 0] 38))
      have hS0 := HA.out
      replace HO := Lib.hid (HO.out.alloc (.cells #[.string ⟨#[]⟩, .slice none 0 0, .int .i64 0, .slice none 0 0] 38))
      replace hN : w.heap.size + 2 ≤ (w5.alloc (.cells #[.string ⟨#[]⟩, .slice none 0 0, .int .i64 0, .slice none 0 0] 38)).heap.size := by simp; omega
      refine hK.out _ _ (HA.out) ?_
      clear hK K2
      try simp only [Act.put, List.setIfInBounds_toArray, List.set_cons_zero, List.set_cons_succ]
      generalize w5.alloc (.cells #[.string ⟨#[]⟩, .slice none 0 0, .int .i64 0, .slice none 0 0] 38) = w6 at *
      generalize w5.heap.size = g at *
      have hog : (Value.slice A1 cs.length c1).ownBlock ≠ some g := fun q => by have := hog0 _ q; omega
      refine stage_all (rs := [10]) (by kernel_rfl) (by simp) (fun i0 hi0 => ?_)
      obtain rfl : i0 = 10 := by simpa using hi0
      refine stage_step (S := fun (L' : Array Bool) (w' : World) => Box w' w.heap.size [.string nm, .slice A cs.length c, .int .i64 k, .slice B xs.length d]) (o := { dst := none, op := Go.Op.store 38 (Go.Operand.tmp 4) (Go.Operand.tmp 14), type := 0, pos := "law.go:16", after := #[{ on := 9, ground := Go.Ground.data }, { on := 8, ground := Go.Ground.data }, { on := 5, ground := Go.Ground.chain }, { on := 0, ground := Go.Ground.phase }, { on := 1, ground := Go.Ground.phase }, { on := 2, ground := Go.Ground.phase }, { on := 3, ground := Go.Ground.phase }, { on := 4, ground := Go.Ground.phase }, { on := 5, ground := Go.Ground.phase }, { on := 6, ground := Go.Ground.phase }, { on := 7, ground := Go.Ground.phase }, { on := 8, ground := Go.Ground.phase }, { on := 9, ground := Go.Ground.phase }], guard := none }) (by rfl) (fun K2 hK => ?_)
      have cHP0 := HP.out.c 0 _ rfl; have fHP0 := HP.out.f 0 (by simp); have cHP1 := HP.out.c 1 _ rfl; have fHP1 := HP.out.f 1 (by simp); have cHP2 := HP.out.c 2 _ rfl; have fHP2 := HP.out.f 2 (by simp); have cHP3 := HP.out.c 3 _ rfl; have fHP3 := HP.out.f 3 (by simp); have lHP := HP.out.lt
      go_simp
      clear cHP0 fHP0 cHP1 fHP1 cHP2 fHP2 cHP3 fHP3 lHP
      have hP1 := puts4 HP.out (.string nm) (.slice A1 cs.length c1) (.int .i64 k) (.slice none 0 0)
      replace HA := Lib.hid (puts4_other HA.out (show g ≠ w.heap.size by omega) (.string nm) (.slice A1 cs.length c1) (.int .i64 k) (.slice none 0 0))
      replace HR := Lib.hid (puts4_other HR.out (show g ≠ w.heap.size + 1 by omega) (.string nm) (.slice A1 cs.length c1) (.int .i64 k) (.slice none 0 0))
      replace HF := Lib.hid (puts4_below HF.out (show w.heap.size ≤ g by omega) (.string nm) (.slice A1 cs.length c1) (.int .i64 k) (.slice none 0 0))
      have hrow : ∀ a, A1 = some a → w.heap.size + 2 ≤ a.block ∧ a.block ≠ g ∧ a.block < w6.heap.size := fun a ha => by have q := HO.out.lt a.block (by rw [ha]; rfl); exact ⟨by omega, fun e => hog (by rw [ha, ← e]; rfl), q.2⟩
      have HOQ := own_sets4 (g := g) HO.out (fun q => hog q) (.string nm) (.slice A1 cs.length c1) (.int .i64 k) (.slice none 0 0)
      have HOF : Hid (RowE encC 3 _ A1 cs) := Lib.hid ((SlB.of_own (N := w.heap.size + 2) encC_len (by decide) (Nat.le_refl _) HOQ).row)
      refine hK.out _ _ (HA.out) ?_
      clear hK K2
      try simp only [Act.put, List.setIfInBounds_toArray, List.set_cons_zero, List.set_cons_succ]
      refine stage_done (by kernel_rfl) ?_ _
      go_wp2_with fail
      go_meet
      exact ⟨g, A1, c1, rfl, Lib.hid (by simpa using hP1), hg, HR, HF, HOF, HA, Lib.hid (fun a ha => by have q := hrow a ha; exact ⟨q.1, q.2.1, by simpa using q.2.2⟩)⟩
    · refine stage_step (S := fun (L' : Array Bool) (w' : World) => Box w' w.heap.size [.string nm, .slice A cs.length c, .int .i64 k, .slice B xs.length d]) (o := { dst := some 4, op := Go.Op.alloc 38, type := 0, pos := "law.go:16", after := #[], guard := none }) (by rfl) (fun K2 hK => ?_)
      go_simp
      have HP := Lib.hid (Box.new wd #[.string ⟨#[]⟩, .slice none 0 0, .int .i64 0, .slice none 0 0] 38)
      have hg : w.heap.size + 2 ≤ wd.heap.size := hN
      clear hS0
      replace HA := Lib.hid (HA.out.alloc (.cells #[.string ⟨#[]⟩, .slice none 0 0, .int .i64 0, .slice none 0 0] 38))
      replace HR := Lib.hid (HR.out.alloc (.cells #[.string ⟨#[]⟩, .slice none 0 0, .int .i64 0, .slice none 0 0] 38))
      replace HF := Lib.hid (HF.out.alloc (by omega) (.cells #[.string ⟨#[]⟩, .slice none 0 0, .int .i64 0, .slice none 0 0] 38))
      have hS0 := HA.out
      replace hN : w.heap.size + 2 ≤ (wd.alloc (.cells #[.string ⟨#[]⟩, .slice none 0 0, .int .i64 0, .slice none 0 0] 38)).heap.size := by simp; omega
      refine hK.out _ _ (HA.out) ?_
      clear hK K2
      try simp only [Act.put, List.setIfInBounds_toArray, List.set_cons_zero, List.set_cons_succ]
      generalize wd.alloc (.cells #[.string ⟨#[]⟩, .slice none 0 0, .int .i64 0, .slice none 0 0] 38) = w5 at *
      generalize wd.heap.size = g at *
      have hg5 : g + 1 ≤ w5.heap.size := HP.out.lt
      refine stage_all (rs := [5]) (by kernel_rfl) (by simp) (fun i0 hi0 => ?_)
      obtain rfl : i0 = 5 := by simpa using hi0
      refine stage_step (S := fun (L' : Array Bool) (w' : World) => Box w' w.heap.size [.string nm, .slice A cs.length c, .int .i64 k, .slice B xs.length d]) (o := { dst := some 11, op := Go.Op.call { callee := Go.Callee.builtin Go.Builtin.append, args := #[Go.Operand.tmp 8, Go.Operand.tmp 10], argTypes := #[22, 22] }, type := 22, pos := "law.go:16", after := #[{ on := 2, ground := Go.Ground.data }, { on := 4, ground := Go.Ground.data }], guard := none }) (by rfl) (fun K2 hK => ?_)
      refine step_append_row rfl _ _ 22 rfl (g + 1) 65 iC (.agg #[.string ⟨#[]⟩, .int .i64 0, .bool false]) 3 32 Try.underlying22 hc1 hc2 hc3 hc4 rfl (by decide) encC_len encC_one _ 0 [] rfl (World.ownsRow_nil _ _ _ _) A cs c rfl hnA (HC.out _ (by first | exact HF.out)) (by simp only [maxLen]; omega) (by omega) hg5 (fun vl w6 hown hgrow => ?_)
      clear hS0
      replace hgrow : w5.grownBy w6 none := hgrow
      replace HA := Lib.hid (HA.out.grown hgrow (by simp))
      replace HR := Lib.hid (HR.out.grown hgrow (by simp))
      replace HF := Lib.hid (HF.out.grown hgrow (by omega) (by intro k hk; cases hk))
      have hS0 := HA.out
      replace HP := Lib.hid (HP.out.grown hgrow (by simp))
      replace hN : w.heap.size + 2 ≤ w6.heap.size := Nat.le_trans hN hgrow.size
      simp only [Nat.zero_add, List.nil_append] at hown
      have HO := Lib.hid hown
      obtain ⟨A1, c1, rfl, _, _⟩ := own_slice hown
      clear hown hgrow
      refine hK.out _ _ (HA.out) ?_
      clear hK K2
      try simp only [Act.put, List.setIfInBounds_toArray, List.set_cons_zero, List.set_cons_succ]
      refine stage_take (i := 8) (oi := { dst := some 14, op := Go.Op.build 38 #[(0, Go.Operand.tmp 7), (1, Go.Operand.tmp 11), (2, Go.Operand.tmp 13)], type := 38, pos := "law.go:16", after := #[{ on := 1, ground := Go.Ground.data }, { on := 5, ground := Go.Ground.data }, { on := 7, ground := Go.Ground.data }], guard := none }) (v := ?_) (T := fun _ => True) rfl (by kernel_rfl) (by kernel_rfl) (by kernel_rfl) (by kernel_rfl) (fun _ _ _ h => h) (fun L' w' hW hS => trivial) (fun L' w' hS => hS) (Or.inl ⟨by rfl, ?_⟩) trivial (hS0) ?_
      rotate_left 1
      · intro w9 _; go_simp; (try with_reducible rfl)
      try simp only [Act.put, List.setIfInBounds_toArray, List.set_cons_zero, List.set_cons_succ]
      have hog : (Value.slice A1 cs.length c1).ownBlock ≠ some g := fun q => by have := (HO.out.lt _ q).1; omega
      replace HO := Lib.hid (own_base HO.out (show w.heap.size + 2 ≤ g + 1 by omega))
      refine stage_all (rs := [10]) (by kernel_rfl) (by simp) (fun i0 hi0 => ?_)
      obtain rfl : i0 = 10 := by simpa using hi0
      refine stage_step (S := fun (L' : Array Bool) (w' : World) => Box w' w.heap.size [.string nm, .slice A cs.length c, .int .i64 k, .slice B xs.length d]) (o := { dst := none, op := Go.Op.store 38 (Go.Operand.tmp 4) (Go.Operand.tmp 14), type := 0, pos := "law.go:16", after := #[{ on := 9, ground := Go.Ground.data }, { on := 8, ground := Go.Ground.data }, { on := 5, ground := Go.Ground.chain }, { on := 0, ground := Go.Ground.phase }, { on := 1, ground := Go.Ground.phase }, { on := 2, ground := Go.Ground.phase }, { on := 3, ground := Go.Ground.phase }, { on := 4, ground := Go.Ground.phase }, { on := 5, ground := Go.Ground.phase }, { on := 6, ground := Go.Ground.phase }, { on := 7, ground := Go.Ground.phase }, { on := 8, ground := Go.Ground.phase }, { on := 9, ground := Go.Ground.phase }], guard := none }) (by rfl) (fun K2 hK => ?_)
      have cHP0 := HP.out.c 0 _ rfl; have fHP0 := HP.out.f 0 (by simp); have cHP1 := HP.out.c 1 _ rfl; have fHP1 := HP.out.f 1 (by simp); have cHP2 := HP.out.c 2 _ rfl; have fHP2 := HP.out.f 2 (by simp); have cHP3 := HP.out.c 3 _ rfl; have fHP3 := HP.out.f 3 (by simp); have lHP := HP.out.lt
      go_simp
      clear cHP0 fHP0 cHP1 fHP1 cHP2 fHP2 cHP3 fHP3 lHP
      have hP1 := puts4 HP.out (.string nm) (.slice A1 cs.length c1) (.int .i64 k) (.slice none 0 0)
      replace HA := Lib.hid (puts4_other HA.out (show g ≠ w.heap.size by omega) (.string nm) (.slice A1 cs.length c1) (.int .i64 k) (.slice none 0 0))
      replace HR := Lib.hid (puts4_other HR.out (show g ≠ w.heap.size + 1 by omega) (.string nm) (.slice A1 cs.length c1) (.int .i64 k) (.slice none 0 0))
      replace HF := Lib.hid (puts4_below HF.out (show w.heap.size ≤ g by omega) (.string nm) (.slice A1 cs.length c1) (.int .i64 k) (.slice none 0 0))
      have hrow : ∀ a, A1 = some a → w.heap.size + 2 ≤ a.block ∧ a.block ≠ g ∧ a.block < w6.heap.size := fun a ha => by have q := HO.out.lt a.block (by rw [ha]; rfl); exact ⟨by omega, fun e => hog (by rw [ha, ← e]; rfl), q.2⟩
      have HOQ := own_sets4 (g := g) HO.out (fun q => hog q) (.string nm) (.slice A1 cs.length c1) (.int .i64 k) (.slice none 0 0)
      have HOF : Hid (RowE encC 3 _ A1 cs) := Lib.hid ((SlB.of_own (N := w.heap.size + 2) encC_len (by decide) (Nat.le_refl _) HOQ).row)
      refine hK.out _ _ (HA.out) ?_
      clear hK K2
      try simp only [Act.put, List.setIfInBounds_toArray, List.set_cons_zero, List.set_cons_succ]
      refine stage_done (by kernel_rfl) ?_ _
      go_wp2_with fail
      go_meet
      exact ⟨g, A1, c1, rfl, Lib.hid (by simpa using hP1), hg, HR, HF, HOF, HA, Lib.hid (fun a ha => by have q := hrow a ha; exact ⟨q.1, q.2.1, by simpa using q.2.2⟩)⟩
  case rest =>
    obtain ⟨g, A1, c1, rfl, HP, hg, HR, HF, HOF, HA, hrow⟩ := hcut
    generalize wc = w3 at *
    have hg3 : g < w3.heap.size := HP.out.lt
    have hN3 : w.heap.size + 2 ≤ w3.heap.size := by omega
    obtain ⟨NB, hNB⟩ : ∃ NB, w3.heap.size = NB := ⟨_, rfl⟩
    rw [hNB] at hg3 hN3 hrow
    have hNB3 : NB ≤ w3.heap.size := Nat.le_of_eq hNB.symm
    clear hNB HC
    go_wp2_with fail
    go_loopw [5] (fun i wr => ∃ j : Nat, j ≤ xs.length ∧ i = .int .i64 j ∧ Hid (Below w.heap.size w wr) ∧ Hid (Box wr w.heap.size [.string nm, .slice A cs.length c, .int .i64 k, .slice B xs.length d]) ∧ Hid (Box wr (w.heap.size + 1) [.string ⟨#[]⟩, .slice none 0 0, .int .i64 0, .slice none 0 0]) ∧ Hid (RowE encC 3 wr A1 cs) ∧ ∃ v, Hid (Box wr g [.string nm, .slice A1 cs.length c1, .int .i64 k, v]) ∧ Hid (wr.ownsRow NB 79 2 v j ((xs.take j).flatMap encX)) ∧ NB ≤ wr.heap.size) (fun i _ => xs.length - (Lib.intOf i).toNat)
    case atStart => exact ⟨0, Nat.zero_le _, rfl, HF, HA, HR, HOF, .slice none 0 0, HP, Lib.hid (by simpa using World.ownsRow_nil _ _ _ _), hNB3⟩
    case round =>
    clear HF HA HR HOF HP hNB3
    obtain ⟨j, hj, rfl, HF, HA, HR, HOF, v, HP, HO, hsz⟩ := hrel
    by_cases hlt : j < xs.length
    · obtain ⟨x, hx⟩ : ∃ x, xs[j]? = some x := ⟨_, List.getElem?_eq_getElem hlt⟩
      obtain ⟨b0, off, rfl, hb0, hce⟩ := (HX.out w (Below.refl _ _)).atE hx HF.out
      have TK : Hid ((xs.take (j + 1)).flatMap encX = (xs.take j).flatMap encX ++ encX x) := Lib.hid (flat_snoc hx)
      obtain ⟨xn, xc⟩ := x
      have x0 : wr.cell? ⟨b0, off + j * 2, none⟩ = some (.string xn) := hce 0 _ rfl
      have x1 : wr.cell? ⟨b0, off + j * 2 + 1, none⟩ = some (.int .i64 xc) := hce 1 _ rfl
      clear hce hx
      have HOW := Lib.hid ((HO.out.alloc (.cells #[.string xn, .int .i64 xc] 79)).drew)
      have HRX : Hid (RowE encX 2 (wr.alloc (.cells #[.string xn, .int .i64 xc] 79)).drew (some ⟨wr.heap.size, 0, none⟩) [⟨xn, xc⟩]) := Lib.hid (RowE.lit (enc := encX) (k := 2) (l := [⟨xn, xc⟩]) (T := 79) (fr := (0, 0)) (cs := #[.string xn, .int .i64 xc]) encX_len (heap_alloc_new wr _) rfl)
      have hml : j + [(⟨xn, xc⟩ : Ixd)].length ≤ maxLen := by simp only [maxLen, List.length_cons, List.length_nil]; omega
      have hmb : (j + [(⟨xn, xc⟩ : Ixd)].length) * 24 ≤ 140737488355328 := by simp only [List.length_cons, List.length_nil]; omega
      have hsb : NB ≤ (wr.alloc (.cells #[.string xn, .int .i64 xc] 79)).drew.heap.size := by simp; omega
      have NX : Hid (∀ v' w', w'.ownsRow NB 79 2 v' (j + [(⟨xn, xc⟩ : Ixd)].length) ((xs.take j).flatMap encX ++ [(⟨xn, xc⟩ : Ixd)].flatMap encX) → (wr.alloc (.cells #[.string xn, .int .i64 xc] 79)).drew.grownBy w' v.ownBlock → Below w.heap.size w w' ∧ Box w' w.heap.size [.string nm, .slice A cs.length c, .int .i64 k, .slice (some ⟨b0, off, none⟩) xs.length d] ∧ Box w' (w.heap.size + 1) [.string ⟨#[]⟩, .slice none 0 0, .int .i64 0, .slice none 0 0] ∧ RowE encC 3 w' A1 cs ∧ Box w' g [.string nm, .slice A1 cs.length c1, .int .i64 k, v] ∧ NB ≤ w'.heap.size ∧ ∃ A' c', v' = .slice A' (j + 1) c') := Lib.hid (fun v' w' ho hgr => by
        obtain ⟨A', c', hv', _⟩ := own_slice ho
        have hne : ∀ b, b < NB → some b ≠ v.ownBlock := fun b hb e => by have := (HO.out.lt b e.symm).1; omega
        have hz := hgr.size
        simp at hz
        exact ⟨(Below.drew (HF.out.alloc HF.out.size _)).grown hgr (by have := HF.out.size; simp; omega) (fun k hk => by have := (HO.out.lt k hk).1; omega), (HA.out.alloc _).drew.grown hgr (hne _ (by omega)), (HR.out.alloc _).drew.grown hgr (hne _ (by omega)), rowE_grown (RowE.drew (HOF.out.below ((Below.refl _ _).alloc (Nat.le_refl _) (.cells #[.string xn, .int .i64 xc] 79)))) hgr (fun a ha => hne _ (hrow.out a ha).2.2), (HP.out.alloc _).drew.grown hgr (hne _ hg3), by omega, A', c', hv'⟩)
      clear HO HOF HR HF
      have cHA0 := HA.out.c 0 _ rfl; have fHA0 := HA.out.f 0 (by simp); have cHA1 := HA.out.c 1 _ rfl; have fHA1 := HA.out.f 1 (by simp); have cHA2 := HA.out.c 2 _ rfl; have fHA2 := HA.out.f 2 (by simp); have cHA3 := HA.out.c 3 _ rfl; have fHA3 := HA.out.f 3 (by simp); have lHA := HA.out.lt; have cHP0 := HP.out.c 0 _ rfl; have fHP0 := HP.out.f 0 (by simp); have cHP1 := HP.out.c 1 _ rfl; have fHP1 := HP.out.f 1 (by simp); have cHP2 := HP.out.c 2 _ rfl; have fHP2 := HP.out.f 2 (by simp); have cHP3 := HP.out.c 3 _ rfl; have fHP3 := HP.out.f 3 (by simp); have lHP := HP.out.lt
      go_wp2_with fail
      go_region_law (refine step_append_row rfl (.tmp 23) (.tmp 29) 36 rfl NB 79 iX (.agg #[.string ⟨#[]⟩, .int .i64 0]) 2 24 Try.underlying36 hx1 hx2 hx3 hx4 rfl (by decide) encX_len encX_one v j _ (by simp [Act.eval, Act.put]) HOW.out (some ⟨wr.heap.size, 0, none⟩) [⟨xn, xc⟩] 1 (by simp [Act.eval, Act.put]) (fun h => by cases h) HRX.out hml hmb hsb ?_; intro v' w' hown' hgrow; obtain ⟨n1, n2, n3, n4, n5, n6, A', c', rfl⟩ := NX.out v' w' hown' hgrow; have HO' := Lib.hid hown'; have N1 := Lib.hid n1; have N2 := Lib.hid n2; have N3 := Lib.hid n3; have N4 := Lib.hid n4; have N5 := Lib.hid n5; clear hown' hgrow n1 n2 n3 n4 n5; clear cHA0 fHA0 cHA1 fHA1 cHA2 fHA2 cHA3 fHA3 lHA; clear cHP0 fHP0 cHP1 fHP1 cHP2 fHP2 cHP3 fHP3 lHP; have cN50 := N5.out.c 0 _ rfl; have fN50 := N5.out.f 0 (by simp); have cN51 := N5.out.c 1 _ rfl; have fN51 := N5.out.f 1 (by simp); have cN52 := N5.out.c 2 _ rfl; have fN52 := N5.out.f 2 (by simp); have cN53 := N5.out.c 3 _ rfl; have fN53 := N5.out.f 3 (by simp); have lN5 := N5.out.lt)
      all_goals go_wp2
      all_goals go_roundw
      all_goals first | (simp [Lib.intOf]; omega) | exact ⟨j + 1, by omega, by go_num, Lib.hid (Below.setCell N1.out (by simp <;> omega) _), Lib.hid (N2.out.other _ _ (by simp <;> omega)), Lib.hid (N3.out.other _ _ (by simp <;> omega)), Lib.hid (rowE_set N4.out _ _ (fun a ha => (hrow.out a ha).2.1)), _, Lib.hid (N5.out.set 3 _ (by simp)), Lib.hid (by rw [TK.out]; exact own_set HO'.out _ _ (by simp <;> omega)), by simp; omega⟩
    · obtain rfl : j = xs.length := by omega
      have HXX := Lib.hid (SlB.of_own (N := NB) encX_len (by decide) (Nat.le_refl _) (by rw [List.take_length] at HO; exact HO.out))
      obtain ⟨B1, d1, rfl, _, hr1, hn1⟩ := HXX.out
      have cHA0 := HA.out.c 0 _ rfl; have fHA0 := HA.out.f 0 (by simp); have cHA1 := HA.out.c 1 _ rfl; have fHA1 := HA.out.f 1 (by simp); have cHA2 := HA.out.c 2 _ rfl; have fHA2 := HA.out.f 2 (by simp); have cHA3 := HA.out.c 3 _ rfl; have fHA3 := HA.out.f 3 (by simp); have lHA := HA.out.lt; have cHP0 := HP.out.c 0 _ rfl; have fHP0 := HP.out.f 0 (by simp); have cHP1 := HP.out.c 1 _ rfl; have fHP1 := HP.out.f 1 (by simp); have cHP2 := HP.out.c 2 _ rfl; have fHP2 := HP.out.f 2 (by simp); have cHP3 := HP.out.c 3 _ rfl; have fHP3 := HP.out.f 3 (by simp); have lHP := HP.out.lt; have cHR0 := HR.out.c 0 _ rfl; have fHR0 := HR.out.f 0 (by simp); have cHR1 := HR.out.c 1 _ rfl; have fHR1 := HR.out.f 1 (by simp); have cHR2 := HR.out.c 2 _ rfl; have fHR2 := HR.out.f 2 (by simp); have cHR3 := HR.out.c 3 _ rfl; have fHR3 := HR.out.f 3 (by simp); have lHR := HR.out.lt
      go_wp2
      clear cHA0 fHA0 cHA1 fHA1 cHA2 fHA2 cHA3 fHA3 lHA; clear cHP0 fHP0 cHP1 fHP1 cHP2 fHP2 cHP3 fHP3 lHP; clear cHR0 fHR0 cHR1 fHR1 cHR2 fHR2 cHR3 fHR3 lHR
      have HZ := Lib.hid (puts4 HR.out (.string nm) (.slice A1 cs.length c1) (.int .i64 k) (.slice B1 xs.length d1))
      have HF2 := Lib.hid (puts4_below HF.out (show w.heap.size ≤ w.heap.size + 1 by omega) (.string nm) (.slice A1 cs.length c1) (.int .i64 k) (.slice B1 xs.length d1))
      have HO2 := Lib.hid (rowE_puts4 (g := w.heap.size + 1) HOF.out (fun a ha => by have := (hrow.out a ha).1; omega) (.string nm) (.slice A1 cs.length c1) (.int .i64 k) (.slice B1 xs.length d1))
      have HX2 := Lib.hid (rowE_puts4 (g := w.heap.size + 1) hr1 (fun a ha => by have := hn1.2 a ha; omega) (.string nm) (.slice A1 cs.length c1) (.int .i64 k) (.slice B1 xs.length d1))
      clear HR HF HOF HXX HO HA HP hr1 hn1
      generalize ((((wr.setCell ⟨w.heap.size + 1, 0, none⟩ (.string nm)).setCell ⟨w.heap.size + 1, 1, none⟩ (.slice A1 cs.length c1)).setCell ⟨w.heap.size + 1, 2, none⟩ (.int .i64 k)).setCell ⟨w.heap.size + 1, 3, none⟩ (.slice B1 xs.length d1)) = w9 at *
      have cHZ0 := HZ.out.c 0 _ rfl; have fHZ0 := HZ.out.f 0 (by simp); have cHZ1 := HZ.out.c 1 _ rfl; have fHZ1 := HZ.out.f 1 (by simp); have cHZ2 := HZ.out.c 2 _ rfl; have fHZ2 := HZ.out.f 2 (by simp); have cHZ3 := HZ.out.c 3 _ rfl; have fHZ3 := HZ.out.f 3 (by simp); have lHZ := HZ.out.lt
      refine bodyPost_ret (by simp [results, Try.results9, go_sem, cHZ0, cHZ1, cHZ2, cHZ3]; rfl) rfl ?_
      exact ⟨A1, c1, B1, d1, rfl, HO2.out, HX2.out, HF2.out⟩
end Go.Proofs.Ytfmfmammcjpboaa
