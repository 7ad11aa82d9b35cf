/- The law's own State for the program. -/
import Derived.Test.YtdajginkipaghaaEdgeW
import Derived.Test.YtdajginkipaghaaCommitW
import Derived.Test.YtdajginkipaghaaAbortW
import Derived.Test.YtdajginkipaghaaStep
namespace Go.Proofs.Ytdajginkipaghaa
open Go.RowKit
open Go.Shelf
set_option linter.unusedVariables false
set_option linter.unusedSimpArgs false
theorem cell_five {w : World} {x : Tx} {T : TypeId} {j : Nat} {u : Value} (hj : (encT x)[j]? = some u) : (w.alloc (.cells #[.int .i64 x.id, .int .i64 x.st, .int .i64 x.en, .bool x.inn, .bool x.out] T)).cell? ((⟨w.heap.size, 0, none⟩ : Addr).add j) = some u := by
  have e : (w.alloc (.cells #[.int .i64 x.id, .int .i64 x.st, .int .i64 x.en, .bool x.inn, .bool x.out] T)).heap[w.heap.size]? = _ := heap_alloc_new w _
  rw [Addr.add_lit]
  simp only [World.cell?, e, Nat.zero_add]
  simpa [encT] using hj
set_option maxHeartbeats 4000000 in
set_option maxRecDepth 100000 in
theorem of_any (A : Option Addr) (c : Nat) (s : St) (w : World) (HR : RowE encT 5 w A s.l) (hl : s.l.length * 32 ≤ 140737488355328) :
    Calls Try.prog 15 #[.agg #[.slice A s.l.length c, .int .i64 s.clk, .int .i64 s.nxt]] w fun e w' => ∃ v, e = .returned v ∧ StV w.heap.size w' v s ∧ Below w.heap.size w w' := by
  obtain ⟨i0, hi, hz0, hz1, hz2⟩ := infoT
  obtain ⟨l, clk, nxt⟩ := s
  dsimp only at *
  have HR' := Lib.hid HR
  clear HR
  go_enter Try.func15, Try.ntmps15
  go_wp2
  go_loopw [4] (fun i wr => ∃ j : Nat, j ≤ l.length ∧ i = .int .i64 j ∧ Below w.heap.size w wr ∧ Box3 wr w.heap.size (.slice A l.length c) (.int .i64 clk) (.int .i64 nxt) ∧ Box3 wr (w.heap.size + 1) (.slice none 0 0) (.int .i64 0) (.int .i64 0) ∧ ∃ v, Box3 wr (w.heap.size + 2) v (.int .i64 clk) (.int .i64 nxt) ∧ Hid (wr.ownsRow (w.heap.size + 3) 40 5 v j ((l.take j).flatMap encT)) ∧ w.heap.size + 3 ≤ wr.heap.size) (fun i _ => l.length - (Lib.intOf i).toNat)
  case atStart =>
    refine ⟨0, Nat.zero_le _, rfl, ?_, ?_, ?_, .slice none 0 0, ?_, Lib.hid (by simpa using World.ownsRow_nil _ _ _ _), by simp⟩
    · exact (by (repeat (first | (with_reducible exact Below.refl _ _) | apply below_alloc _ (Nat.le_refl _) | refine below_set ?_ (by first | exact Nat.le_refl _ | omega) | apply below_drewN | refine below_step ?_ HB)))
    · exact Box3.alloc (Box3.alloc (Box3.new _ _ _ _ _) _) _
    · have := Box3.alloc (Box3.new (w.alloc (.cells #[.slice A l.length c, .int .i64 clk, .int .i64 nxt] 46)) (.slice none 0 0) (.int .i64 0) (.int .i64 0) 26) (.cells #[.slice none 0 0, .int .i64 clk, .int .i64 nxt] 26)
      simpa using this
    · have := Box3.new ((w.alloc (.cells #[.slice A l.length c, .int .i64 clk, .int .i64 nxt] 46)).alloc (.cells #[.slice none 0 0, .int .i64 0, .int .i64 0] 26)) (.slice none 0 0) (.int .i64 clk) (.int .i64 nxt) 26
      simpa using this
  case round =>
    obtain ⟨j, hj, rfl, hbel, HB0, HB1, v, HB2, HO, hsz⟩ := hrel
    by_cases hlt : j < l.length
    · obtain ⟨x, hx⟩ : ∃ x, l[j]? = some x := ⟨_, List.getElem?_eq_getElem hlt⟩
      obtain ⟨b0, off, rfl, hb0, g0, g1, g2, g3, g4⟩ := HR'.out.five (B := 0) hx hbel
      have TK : Hid ((l.take (j + 1)).flatMap encT = (l.take j).flatMap encT ++ encT x) := Lib.hid (flat_snoc hx)
      clear hx
      obtain ⟨id, st, en, inn, out⟩ := x
      dsimp only at g0 g1 g2 g3 g4
      have HB0' := Lib.hid HB0
      have HB1' := Lib.hid HB1
      obtain ⟨c00, c01, c02, f00, f01, f02, l0⟩ := HB0
      have HB2' := Lib.hid HB2
      obtain ⟨c20, c21, c22, f20, f21, f22, l2⟩ := HB2
      clear HB1
      have HOW := Lib.hid ((HO.out.alloc (.cells #[.int .i64 id, .int .i64 st, .int .i64 en, .bool inn, .bool out] 40)).drew)
      have HNW : Hid (∀ jj u, (encT ⟨id, st, en, inn, out⟩)[jj]? = some u → (wr.alloc (.cells #[.int .i64 id, .int .i64 st, .int .i64 en, .bool inn, .bool out] 40)).drew.cell? ((⟨wr.heap.size, 0, none⟩ : Addr).add jj) = some u) := Lib.hid (fun jj u h => cell_five (x := ⟨id, st, en, inn, out⟩) h)
      have HNO : Hid (∀ u ∈ encT ⟨id, st, en, inn, out⟩, u.oneCell' = true) := Lib.hid (fun u hu => encT_one [⟨id, st, en, inn, out⟩] u (by simpa using hu))
      have hml : j + 1 ≤ maxLen := by unfold maxLen; omega
      have hmb : (j + 1) * 32 ≤ 140737488355328 := by omega
      have hsb : w.heap.size + 3 ≤ (wr.alloc (.cells #[.int .i64 id, .int .i64 st, .int .i64 en, .bool inn, .bool out] 40)).drew.heap.size := by simp; omega
      have NX : Hid (∀ v' w', w'.ownsRow (w.heap.size + 3) 40 5 v' (j + 1) ((l.take j).flatMap encT ++ encT ⟨id, st, en, inn, out⟩) → (wr.alloc (.cells #[.int .i64 id, .int .i64 st, .int .i64 en, .bool inn, .bool out] 40)).drew.grownBy w' v.ownBlock → Below w.heap.size w w' ∧ Box3 w' w.heap.size (.slice _ l.length c) (.int .i64 clk) (.int .i64 nxt) ∧ Box3 w' (w.heap.size + 1) (.slice none 0 0) (.int .i64 0) (.int .i64 0) ∧ Box3 w' (w.heap.size + 2) v (.int .i64 clk) (.int .i64 nxt) ∧ w.heap.size + 3 ≤ w'.heap.size ∧ ∃ A' c', v' = .slice A' (j + 1) c') := Lib.hid (fun v' w' ho hgr => by
        have hne : ∀ b, b < w.heap.size + 3 → some b ≠ v.ownBlock := fun b hb e => by have := (HO.out.lt b e.symm).1; omega
        obtain ⟨A', c', hv', _⟩ := own_slice ho
        refine ⟨(Below.drew (hbel.alloc hbel.size _)).grown hgr (by have := hbel.size; simp; omega) (fun k hk => by have := (HO.out.lt k hk).1; omega), (HB0'.out.alloc _).drew.grown hgr (hne _ (by omega)), (HB1'.out.alloc _).drew.grown hgr (hne _ (by omega)), (HB2'.out.alloc _).drew.grown hgr (hne _ (by omega)), ?_, A', c', hv'⟩
        have := hgr.size; simp at this; omega)
      clear HO HB0' HB1' HB2'
      go_wp2_with fail
      go_region_law (refine step_append_own rfl (.tmp 18) (.tmp 24) 24 rfl (w.heap.size + 3) 40 i0 (.agg #[.int .i64 0, .int .i64 0, .int .i64 0, .bool false, .bool false]) 5 32 Try.underlying24 hi hz0 hz1 hz2 rfl (by decide) v j _ (by simp [Act.eval, Act.put]) HOW.out ⟨wr.heap.size, 0, none⟩ 1 1 (encT ⟨id, st, en, inn, out⟩) (by simp [Act.eval, Act.put]) rfl HNW.out HNO.out hml hmb hsb ?_; intro v' w' hown' hgrow; obtain ⟨n1, n2, n3, n4, n5, A', c', rfl⟩ := NX.out v' w' hown' hgrow; have HO' := Lib.hid hown'; have N2 := Lib.hid n2; have N3 := Lib.hid n3; have N4 := Lib.hid n4; clear c00 c01 c02 f00 f01 f02 c20 c21 c22 f20 f21 f22 hown' hgrow n3; obtain ⟨c00, c01, c02, f00, f01, f02, k0⟩ := n2; obtain ⟨c20, c21, c22, f20, f21, f22, k2⟩ := n4)
      all_goals go_wp2
      all_goals go_roundw
      all_goals first | (simp [Lib.intOf]; omega) | exact ⟨j + 1, by omega, by go_num, Below.setCell n1 (by simp <;> omega) _, N2.out.other _ _ (by simp <;> omega), N3.out.other _ _ (by simp <;> omega), _, N4.out.set0 _, Lib.hid (by rw [TK.out]; exact own_set HO'.out _ _ (by simp <;> omega)), by simp; omega⟩
    · obtain rfl : j = l.length := by omega
      have HO' := Lib.hid HO.out
      obtain ⟨A', c', rfl, hc', hn'⟩ := own_slice HO.out
      clear HO hn'
      obtain ⟨c00, c01, c02, f00, f01, f02, l0⟩ := HB0
      obtain ⟨c10, c11, c12, f10, f11, f12, l1⟩ := HB1
      obtain ⟨c20, c21, c22, f20, f21, f22, l2⟩ := HB2
      go_wp2
      refine bodyPost_ret (v := .agg #[.slice A' l.length c', .int .i64 clk, .int .i64 nxt]) (by simp [results, Try.results15, go_sem, c10, c11, c12, l1]) rfl ⟨_, rfl, ⟨_, rfl, SlB.own (base := w.heap.size + 3) (n := l.length) (by omega) ?_⟩, ?_⟩
      · rw [List.take_length] at HO'
        repeat first | (with_reducible exact HO'.out) | (with_reducible refine own_set ?_ _ _ (by simp)) | (with_reducible refine own_drewN ?_ _)
      · repeat first | (with_reducible exact hbel) | (with_reducible refine Below.setCell ?_ (by simp) _) | (with_reducible refine below_drewN' ?_ _)
end Go.Proofs.Ytdajginkipaghaa
