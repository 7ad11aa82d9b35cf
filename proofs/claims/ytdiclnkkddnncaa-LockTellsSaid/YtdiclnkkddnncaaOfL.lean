/- The law's own State for the program; num; its example. -/
import Derived.Test.YtdiclnkkddnncaaAddW
import Derived.Test.YtdiclnkkddnncaaStep
namespace Go.Proofs.Ytdiclnkkddnncaa
open Go.RowKit
open Go.Shelf
set_option linter.unusedVariables false
set_option linter.unusedSimpArgs false
theorem cell_three {w : World} {x : Lk} {T : TypeId} {j : Nat} {u : Value} (hj : (encL x)[j]? = some u) : (w.alloc (.cells #[.int .i64 x.tx, .string x.lo, .string x.hi] T)).cell? ((⟨w.heap.size, 0, none⟩ : Addr).add j) = some u := by
  have e : (w.alloc (.cells #[.int .i64 x.tx, .string x.lo, .string x.hi] T)).heap[w.heap.size]? = _ := heap_alloc_new w _
  rw [Addr.add_lit]
  simp only [World.cell?, e, Nat.zero_add]
  simpa [encL] using hj
theorem Box1.drew {w : World} {b : Nat} {x : Value} (h : Box1 w b x) : Box1 w.drew b x := ⟨h.c0, h.f0, h.lt⟩
theorem Box1.grown {w w' : World} {b : Nat} {x : Value} {row : Option Nat} (h : Box1 w b x) (hg : w.grownBy w' row) (hne : some b ≠ row) : Box1 w' b x := by
  have e := hg.block b h.lt hne
  exact ⟨(World.cell?_of_block (a := ⟨b, 0, none⟩) e).trans h.c0, (World.frozen?_of_block (a := ⟨b, 0, none⟩) e).trans h.f0, Nat.lt_of_lt_of_le h.lt hg.size⟩
theorem Box1.other {w : World} {b : Nat} {x : Value} (h : Box1 w b x) (a : Addr) (u : Value) (ha : a.block ≠ b) : Box1 (w.setCell a u) b x := h.grown (grown_set w a u) (fun e => ha (Option.some.inj e).symm)
theorem Box1.set0 {w : World} {b : Nat} {x : Value} (h : Box1 w b x) (u : Value) : Box1 (w.setCell ⟨b, 0, none⟩ u) b u := by
  obtain ⟨c0, f0, lt⟩ := h
  exact ⟨by go_simp, by go_simp, by simpa using lt⟩
theorem num_any (a : Int) (w : World) : Calls Try.prog 12 #[.int .i64 a] w fun e w' => e = .returned (.int .i64 a) ∧ w = w' := by
  go_enter Try.func12, Try.ntmps12
  go_wp2
  go_ret
  exact ⟨rfl, rfl⟩
set_option maxHeartbeats 4000000 in
set_option maxRecDepth 100000 in
theorem of_any (A : Option Addr) (c : Nat) (l : List Lk) (w : World) (HR : RowE encL 3 w A l) (hl : l.length * 40 ≤ 140737488351232) :
    Calls Try.prog 11 #[.agg #[.slice A l.length c]] w fun e w' => ∃ v, e = .returned (.agg #[v]) ∧ SlB encL 3 w.heap.size w' v l ∧ Below w.heap.size w w' := by
  obtain ⟨i0, hi, hz0, hz1, hz2⟩ := infoL
  have HR' := Lib.hid HR
  clear HR
  go_enter Try.func11, Try.ntmps11
  go_wp2
  go_loopw [4] (fun i wr => ∃ j : Nat, j ≤ l.length ∧ i = .int .i64 j ∧ Below w.heap.size w wr ∧ Box1 wr w.heap.size (.slice A l.length c) ∧ Box1 wr (w.heap.size + 1) (.slice none 0 0) ∧ ∃ v, Box1 wr (w.heap.size + 2) v ∧ Hid (wr.ownsRow (w.heap.size + 3) 35 3 v j ((l.take j).flatMap encL)) ∧ w.heap.size + 3 ≤ wr.heap.size) (fun i _ => l.length - (Lib.intOf i).toNat)
  case atStart =>
    refine ⟨0, Nat.zero_le _, rfl, ?_, ?_, ?_, .slice none 0 0, ?_, Lib.hid (by simpa using World.ownsRow_nil _ _ _ _), by simp⟩
    · exact (by (repeat (first | (with_reducible exact Below.refl _ _) | apply below_alloc _ (Nat.le_refl _) | refine below_set ?_ (by first | exact Nat.le_refl _ | omega) | apply below_drewN | refine below_step ?_ HB)))
    · exact Box1.alloc (Box1.alloc (Box1.new _ _ _) _) _
    · have := Box1.alloc (Box1.new (w.alloc (.cells #[.slice A l.length c] 24)) (.slice none 0 0) 30) (.cells #[.slice none 0 0] 30)
      simpa using this
    · have := Box1.new ((w.alloc (.cells #[.slice A l.length c] 24)).alloc (.cells #[.slice none 0 0] 30)) (.slice none 0 0) 30
      simpa using this
  case round =>
    obtain ⟨j, hj, rfl, hbel, HB0, HB1, v, HB2, HO, hsz⟩ := hrel
    by_cases hlt : j < l.length
    · obtain ⟨x, hx⟩ : ∃ x, l[j]? = some x := ⟨_, List.getElem?_eq_getElem hlt⟩
      obtain ⟨b0, off, rfl, hb0, g0, g1, g2⟩ := HR'.out.tri hx hbel
      have TK : Hid ((l.take (j + 1)).flatMap encL = (l.take j).flatMap encL ++ encL x) := Lib.hid (flat_snoc hx)
      clear hx
      obtain ⟨tx, lo, hi'⟩ := x
      dsimp only at g0 g1 g2
      have HB0' := Lib.hid HB0
      have HB1' := Lib.hid HB1
      obtain ⟨c00, f00, l0⟩ := HB0
      have HB2' := Lib.hid HB2
      obtain ⟨c20, f20, l2⟩ := HB2
      clear HB1
      have HOW := Lib.hid ((HO.out.alloc (.cells #[.int .i64 tx, .string lo, .string hi'] 35)).drew)
      have HNW : Hid (∀ jj u, (encL ⟨tx, lo, hi'⟩)[jj]? = some u → (wr.alloc (.cells #[.int .i64 tx, .string lo, .string hi'] 35)).drew.cell? ((⟨wr.heap.size, 0, none⟩ : Addr).add jj) = some u) := Lib.hid (fun jj u h => cell_three (x := ⟨tx, lo, hi'⟩) h)
      have HNO : Hid (∀ u ∈ encL ⟨tx, lo, hi'⟩, u.oneCell' = true) := Lib.hid (encL_cells ⟨tx, lo, hi'⟩)
      have hml : j + 1 ≤ maxLen := by unfold maxLen; omega
      have hmb : (j + 1) * 40 ≤ 140737488355328 := by omega
      have hsb : w.heap.size + 3 ≤ (wr.alloc (.cells #[.int .i64 tx, .string lo, .string hi'] 35)).drew.heap.size := by simp; omega
      have NX : Hid (∀ v' w', w'.ownsRow (w.heap.size + 3) 35 3 v' (j + 1) ((l.take j).flatMap encL ++ encL ⟨tx, lo, hi'⟩) → (wr.alloc (.cells #[.int .i64 tx, .string lo, .string hi'] 35)).drew.grownBy w' v.ownBlock → Below w.heap.size w w' ∧ Box1 w' w.heap.size (.slice _ l.length c) ∧ Box1 w' (w.heap.size + 1) (.slice none 0 0) ∧ Box1 w' (w.heap.size + 2) v ∧ w.heap.size + 3 ≤ w'.heap.size ∧ ∃ A' c', v' = .slice A' (j + 1) c') := Lib.hid (fun v' w' ho hgr => by
        have hne : ∀ b, b < w.heap.size + 3 → some b ≠ v.ownBlock := fun b hb e => by have := (HO.out.lt b e.symm).1; omega
        obtain ⟨A', c', hv', _⟩ := own_slice ho
        refine ⟨(Below.drew (hbel.alloc hbel.size _)).grown hgr (by have := hbel.size; simp; omega) (fun k hk => by have := (HO.out.lt k hk).1; omega), (HB0'.out.alloc _).drew.grown hgr (hne _ (by omega)), (HB1'.out.alloc _).drew.grown hgr (hne _ (by omega)), (HB2'.out.alloc _).drew.grown hgr (hne _ (by omega)), ?_, A', c', hv'⟩
        have := hgr.size; simp at this; omega)
      clear HO HB0' HB1' HB2'
      go_wp2_with fail
      go_region_law (refine step_append_own rfl (.tmp 13) (.tmp 19) 28 rfl (w.heap.size + 3) 35 i0 (.agg #[.int .i64 0, .string ⟨#[]⟩, .string ⟨#[]⟩]) 3 40 Try.underlying28 hi hz0 hz1 hz2 rfl (by decide) v j _ (by simp [Act.eval, Act.put]) HOW.out ⟨wr.heap.size, 0, none⟩ 1 1 (encL ⟨tx, lo, hi'⟩) (by simp [Act.eval, Act.put]) rfl HNW.out HNO.out hml hmb hsb ?_; intro v' w' hown' hgrow; obtain ⟨n1, n2, n3, n4, n5, A', c', rfl⟩ := NX.out v' w' hown' hgrow; have HO' := Lib.hid hown'; have N2 := Lib.hid n2; have N3 := Lib.hid n3; have N4 := Lib.hid n4; clear c00 f00 c20 f20 hown' hgrow n3; obtain ⟨c00, f00, k0⟩ := n2; obtain ⟨c20, f20, k2⟩ := n4)
      all_goals go_wp2
      all_goals go_roundw
      all_goals first | (simp [Lib.intOf]; omega) | exact ⟨j + 1, by omega, by go_num, Below.setCell n1 (by simp <;> omega) _, N2.out.other _ _ (by simp <;> omega), N3.out.other _ _ (by simp <;> omega), _, N4.out.set0 _, Lib.hid (by rw [TK.out]; exact own_set HO'.out _ _ (by simp <;> omega)), by simp; omega⟩
    · obtain rfl : j = l.length := by omega
      have HO' := Lib.hid HO.out
      obtain ⟨A', c', rfl, hc', hn'⟩ := own_slice HO.out
      clear HO hn'
      obtain ⟨c00, f00, l0⟩ := HB0
      obtain ⟨c10, f10, l1⟩ := HB1
      obtain ⟨c20, f20, l2⟩ := HB2
      go_wp2
      refine bodyPost_ret (v := .agg #[.slice A' l.length c']) (by simp [results, Try.results11, go_sem, c10, l1]) rfl ⟨_, rfl, SlB.ownL (base := w.heap.size + 3) (n := l.length) (by omega) ?_, ?_⟩
      · rw [List.take_length] at HO'
        repeat first | (with_reducible exact HO'.out) | (with_reducible refine own_set ?_ _ _ (by simp))
      · repeat first | (with_reducible exact hbel) | (with_reducible refine Below.setCell ?_ (by simp) _)
end Go.Proofs.Ytdiclnkkddnncaa
