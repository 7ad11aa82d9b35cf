/- Package lock: slices.DeleteFunc with any function value that keeps its facts; slices.Clone. -/
import Derived.Test.YtdiclnkkddnncaaIdxW
import Derived.Lib.SliceRun
namespace Go.Proofs.Ytdiclnkkddnncaa
open Go.RowKit
open Go.Shelf
set_option linter.unusedVariables false
set_option linter.unusedSimpArgs false
theorem flat_take {α : Type} {enc : α → List Value} {k : Nat} (hk : ∀ x, (enc x).length = k) : ∀ (l : List α) (i : Nat), (l.flatMap enc).take (i * k) = (l.take i).flatMap enc
  | [], i => by simp
  | a :: l, 0 => by simp
  | a :: l, i + 1 => by
    have e1 : (i + 1) * k = k + i * k := by rw [Nat.add_mul, Nat.one_mul]; omega
    rw [List.flatMap_cons, e1, List.take_append, hk, Nat.add_sub_cancel_left, flat_take hk l i, List.take_of_length_le (by rw [hk]; omega)]; simp
theorem set_flat3 (vs : List Value) (o : Nat) (a b c : Value) (pre post : List Value) (y0 y1 y2 : Value) (h : vs = pre ++ [y0, y1, y2] ++ post) (ho : pre.length = o) :
    ((vs.set o a).set (o + 1) b).set (o + 2) c = pre ++ [a, b, c] ++ post := by
  subst h; subst ho
  simp [List.set_append, List.set]
theorem flat_store {l : List Lk} {i : Nat} {x : Lk} (hi : i < l.length) :
    (((l.flatMap encL).set (i * 3) (.int .i64 x.tx)).set (i * 3 + 1) (.string x.lo)).set (i * 3 + 2) (.string x.hi) = (l.set i x).flatMap encL := by
  have hd : l = l.take i ++ l[i] :: l.drop (i + 1) := by rw [← List.drop_eq_getElem_cons hi, List.take_append_drop]
  have e : l.set i x = l.take i ++ x :: l.drop (i + 1) := by rw [List.set_eq_take_append_cons_drop, if_pos hi]
  have hf := congrArg (fun z => List.flatMap encL z) hd
  rw [List.flatMap_append, List.flatMap_cons] at hf
  rw [set_flat3 (l.flatMap encL) (i * 3) _ _ _ ((l.take i).flatMap encL) ((l.drop (i + 1)).flatMap encL) (.int .i64 l[i].tx) (.string l[i].lo) (.string l[i].hi) (hf.trans (by simp [encL])) (by rw [flat_len encL_len, List.length_take, Nat.min_eq_left (by omega)]), e]
  simp [encL]
theorem take_snoc {α : Type} {m : List α} {i : Nat} (x : α) (hi : i < m.length) : (m.set i x).take (i + 1) = m.take i ++ [x] := by
  rw [List.take_add_one, List.take_set_of_le (Nat.le_refl _), List.getElem?_set_self hi]; rfl
theorem info_zero3 : ∀ w : World, (zeroValue 35).run Try.prog w = .ok (.agg #[.int .i64 0, .string ⟨#[]⟩, .string ⟨#[]⟩]) w := by
  intro w
  kernel_rfl
theorem filter_nil {p : Lk → Bool} {l : List Lk} (h : ∀ x ∈ l, p x = false) : l.filter p = [] := List.filter_eq_nil_iff.2 (fun x hx => by simp [h x hx])
set_option maxHeartbeats 4000000 in
set_option maxRecDepth 100000 in
theorem delete_gen (g cap b0 : Nat) (l : List Lk) (fn : FuncId) (first cp : Array Value) (B : Nat → Prop) (base : Nat) (p : Lk → Bool) (L : Lk → List (Nat × Nat × Value)) (step : Lk → Lk → Lk) (acc : Lk) (w : World)
    (eg : ∀ args w, (callFunc fn args).run Try.prog w = .ok (.enter fn args) w) (hC : Clo fn first cp B base p L step)
    (HO : w.ownsRow b0 35 3 (.slice (some ⟨g, 0, none⟩) l.length cap) l.length (l.flatMap encL)) (hg : g < base) (hgB : ¬ B g) (hLg : ∀ acc, ∀ q ∈ L acc, q.1 ≠ g) (hJ : J base w (L acc)) (hl : l.length ≤ 1000) :
    Calls Try.prog 30 #[.slice (some ⟨g, 0, none⟩) l.length cap, .func (.func fn) first cp] w fun e w' =>
      e = .returned (.slice (some ⟨g, 0, none⟩) (l.filter (fun t => !p t)).length cap) ∧ Kept base (fun k => B k ∨ k = g) w w' ∧ w'.ownsRow b0 35 3 (.slice (some ⟨g, 0, none⟩) (l.filter (fun t => !p t)).length cap) (l.filter (fun t => !p t)).length ((l.filter (fun t => !p t)).flatMap encL) ∧ J base w' (L ((l.filter p).foldl step acc)) := by
  have hix := index_gen (some ⟨g, 0, none⟩) cap l fn first cp B base p L step acc w eg hC (RowE.owned encL_len HO) (fun b off h => by cases h; exact ⟨hg, hgB⟩) hJ hl
  have HC := Lib.hid hC
  have HO' := Lib.hid HO
  have HLG := Lib.hid hLg
  have HGB := Lib.hid hgB
  have hlc : l.length ≤ cap := by
    obtain ⟨A', c', hv, hc', _⟩ := own_slice HO
    cases hv; exact hc'
  clear hJ HO hC hLg hgB
  generalize hF : l.filter (fun t => !p t) = F at *
  generalize hG : (l.filter p).foldl step acc = Z at *
  have HF := Lib.hid hF
  have HG := Lib.hid hG
  clear hF hG
  go_enter Try.func30, Try.ntmps30
  go_wp2_with fail
  refine hix.mono ?_; rintro e w1 ⟨hk1, ⟨rfl, hno, hL1⟩ | ⟨i, x, rfl, hx, hgx, hpre, hL1⟩⟩
  · have HK1 := Lib.hid hk1
    have HL1 := Lib.hid hL1
    have HNO := Lib.hid hno
    clear hk1 hL1 hno hix
    have e1 : Hid (F = l) := Lib.hid (by rw [← HF.out]; exact List.filter_eq_self.2 (fun x hx => by simp [HNO.out x hx]))
    have e2 : Hid (Z = acc) := Lib.hid (by rw [← HG.out, filter_nil HNO.out]; rfl)
    go_wp2
    go_ret
    rw [e1.out, e2.out]
    exact ⟨rfl, HK1.out.mono (fun k h => .inl h), HK1.out.own HO'.out (fun q hq => by cases hq; exact ⟨hg, HGB.out⟩), HL1.out⟩
  · have HK1 := Lib.hid hk1
    have HL1 := Lib.hid hL1
    have HX := Lib.hid hx
    have HPRE := Lib.hid hpre
    have hil : i < l.length := lt_of_get hx
    clear hk1 hL1 hix hpre hx
    have AT : Hid (∃ m : List Lk, m.length = l.length ∧ m.take i = (l.take (i + 1)).filter (fun t => !p t) ∧ m.drop (i + 1) = l.drop (i + 1) ∧ w1.ownsRow b0 35 3 (.slice (some ⟨g, 0, none⟩) l.length cap) l.length (m.flatMap encL) ∧ ((l.take (i + 1)).filter p).foldl step acc = step acc x) := Lib.hid (by
      refine ⟨l, rfl, ?_, rfl, HK1.out.own HO'.out (fun q hq => by cases hq; exact ⟨hg, HGB.out⟩), ?_⟩
      · rw [List.take_add_one, HX.out, List.filter_append]
        have : (l.take i).filter (fun t => !p t) = l.take i := List.filter_eq_self.2 (fun y hy => by simp [HPRE.out y hy])
        rw [this]; simp [hgx]
      · rw [List.take_add_one, HX.out, List.filter_append, filter_nil HPRE.out]; simp [hgx])
    clear HX HPRE HO'
    go_wp2
    go_loopw [5, 6] (fun s5 s6 wr => ∃ i j : Nat, s5 = .int .i64 i ∧ s6 = .int .i64 j ∧ i < j ∧ j ≤ l.length ∧ Hid (Kept base (fun k => B k ∨ k = g) w wr) ∧ Hid (∃ m : List Lk, m.length = l.length ∧ m.take i = (l.take j).filter (fun t => !p t) ∧ m.drop j = l.drop j ∧ wr.ownsRow b0 35 3 (.slice (some ⟨g, 0, none⟩) l.length cap) l.length (m.flatMap encL)) ∧ Hid (J base wr (L (((l.take j).filter p).foldl step acc)))) (fun _ s6 _ => l.length - (Lib.intOf s6).toNat)
    case atStart =>
      obtain ⟨m, m1, m2, m3, m4, m5⟩ := AT.out
      exact ⟨i, i + 1, rfl, by go_num, by omega, by omega, Lib.hid (HK1.out.mono (fun k h => .inl h)), Lib.hid ⟨m, m1, m2, m3, m4⟩, Lib.hid (by rw [m5]; exact HL1.out)⟩
    case round =>
      clear AT HK1 HL1 hil
      obtain ⟨i, j, rfl, rfl, hij, hj, HK, HM, HLr⟩ := hrel
      by_cases hlt : j < l.length
      · obtain ⟨x, hx⟩ : ∃ x, l[j]? = some x := ⟨_, List.getElem?_eq_getElem hlt⟩
        obtain ⟨m, m1, m2, m3, m4⟩ := HM.out
        clear HM
        have hxm : m[j]? = some x := by
          have h1 : (m.drop j)[0]? = (l.drop j)[0]? := by rw [m3]
          simpa [hx] using h1
        have kc : ∀ q u, q < 3 → (encL x)[q]? = some u → wr.cell? ⟨g, j * 3 + q, none⟩ = some u := fun q u hq hu => (m4.cellAt _ (by omega)).trans (flat_get encL_len m j x q u hxm hu)
        have g0 := kc 0 _ (by decide) rfl
        have g1 := kc 1 _ (by decide) rfl
        have g2 := kc 2 _ (by decide) rfl
        simp only [Nat.add_zero] at g0
        have hsz : base ≤ wr.heap.size := HLr.out.1
        have hgr : g < wr.heap.size := by omega
        have hc := HC.out _ x (wr.alloc (.cells #[.int .i64 x.tx, .string x.lo, .string x.hi] 35)) (HLr.out.alloc _)
        have TK : Hid (l.take (j + 1) = l.take j ++ [x]) := Lib.hid (by rw [List.take_add_one, hx]; rfl)
        have M1 := Lib.hid m1
        have M2 := Lib.hid m2
        have M3 : Hid (m.drop (j + 1) = l.drop (j + 1)) := Lib.hid (by
          have := congrArg (List.drop 1) m3
          simpa [List.drop_drop, Nat.add_comm] using this)
        have M4 := Lib.hid (m4.alloc (.cells #[.int .i64 x.tx, .string x.lo, .string x.hi] 35))
        clear m1 m2 m3 m4 hx hxm kc
        obtain ⟨tx, lo, hi⟩ := x
        dsimp only at g0 g1 g2 hc M4
        cases ho : p ⟨tx, lo, hi⟩ with
        | true =>
          rw [ho] at hc
          go_wp2_with fail
          refine hc.mono ?_; rintro e w2 ⟨rfl, h2, h3, _⟩
          go_wp2
          go_roundw
          case rel =>
            (repeat apply Exists.intro)
            refine ⟨?_, rfl⟩
            refine ⟨i, j + 1, rfl, by go_num, by omega, by omega, Lib.hid ((HK.out.alloc hsz _).trans (h2.mono (fun k h => .inl h))), Lib.hid ⟨m, M1.out, ?_, M3.out, ?_⟩, Lib.hid ?_⟩
            · rw [M2.out, TK.out, List.filter_append]; simp [ho]
            · exact h2.own M4.out (fun q hq => by cases hq; exact ⟨hg, HGB.out⟩)
            · have e : ((l.take (j + 1)).filter p).foldl step acc = step (((l.take j).filter p).foldl step acc) ⟨tx, lo, hi⟩ := by rw [TK.out, List.filter_append]; simp [ho]
              rw [e]; simpa using h3
          case measure => simp [Lib.intOf]; omega
        | false =>
          rw [ho] at hc
          go_wp2_with fail
          refine hc.mono ?_; rintro e w2 ⟨rfl, h2, h3, h4'⟩
          have h4 := h4' (by trivial)
          clear h4'
          have b0' : w2.cell? ⟨wr.heap.size, 0, none⟩ = some (.int .i64 tx) := (h4.cell (p := ⟨wr.heap.size, 0, none⟩) (by simp)).trans (by go_simp)
          have b1' : w2.cell? ⟨wr.heap.size, 1, none⟩ = some (.string lo) := (h4.cell (p := ⟨wr.heap.size, 1, none⟩) (by simp)).trans (by go_simp)
          have b2' : w2.cell? ⟨wr.heap.size, 2, none⟩ = some (.string hi) := (h4.cell (p := ⟨wr.heap.size, 2, none⟩) (by simp)).trans (by go_simp)
          have M5 := own_below M4.out h4
          have ce : ∀ q, q < 3 → ∃ u, w2.cell? ⟨g, i * 3 + q, none⟩ = some u := fun q hq => by
            have hq' : i * 3 + q < (m.flatMap encL).length := by rw [flat_len encL_len, M1.out]; omega
            exact ⟨_, (M5.cellAt _ (by omega)).trans (List.getElem?_eq_getElem hq')⟩
          obtain ⟨u0, e0⟩ := ce 0 (by decide)
          obtain ⟨u1, e1⟩ := ce 1 (by decide)
          obtain ⟨u2, e2⟩ := ce 2 (by decide)
          simp only [Nat.add_zero] at e0
          have f0 := M5.frozenAt (i * 3)
          have f1 := M5.frozenAt (i * 3 + 1)
          have f2 := M5.frozenAt (i * 3 + 2)
          have M6 := Lib.hid (((M5.stored (i * 3) (.int .i64 tx)).1.stored (i * 3 + 1) (.string lo)).1.stored (i * 3 + 2) (.string hi)).1
          have HK2 := Lib.hid (((HK.out.alloc hsz (.cells #[.int .i64 tx, .string lo, .string hi] 35)).trans (h2.mono (fun k h => .inl h))))
          have HL2 := Lib.hid h3
          have hs2 : g < w2.heap.size := (M5.lt g rfl).2
          clear ce M4 M5 h2 h3 h4 hc
          go_wp2
          go_roundw
          case rel =>
            (repeat apply Exists.intro)
            refine ⟨?_, rfl⟩
            refine ⟨i + 1, j + 1, by go_num, by go_num, by omega, by omega, Lib.hid ?_, Lib.hid ⟨m.set i ⟨tx, lo, hi⟩, by rw [List.length_set, M1.out], ?_, ?_, ?_⟩, Lib.hid ?_⟩
            · exact ((HK2.out.set ⟨g, _, none⟩ _ (.inr (.inr rfl))).set ⟨g, _, none⟩ _ (.inr (.inr rfl))).set ⟨g, _, none⟩ _ (.inr (.inr rfl))
            · rw [take_snoc _ (by rw [M1.out]; omega), M2.out, TK.out, List.filter_append]; simp [ho]
            · rw [List.drop_set_of_lt (by omega), M3.out]
            · rw [← flat_store (by rw [M1.out]; omega)]; exact M6.out
            · have e : ((l.take (j + 1)).filter p).foldl step acc = ((l.take j).filter p).foldl step acc := by rw [TK.out, List.filter_append]; simp [ho]
              rw [e]
              have HL2' : J base w2 (L (((l.take j).filter p).foldl step acc)) := by simpa using HL2.out
              exact ((HL2'.set _ (HLG.out _)).set _ (HLG.out _)).set _ (HLG.out _)
          case measure => simp [Lib.intOf]; omega
      · obtain rfl : j = l.length := by omega
        obtain ⟨m, m1, m2, m3, m4⟩ := HM.out
        clear HM
        rw [List.take_length] at m2
        have hi : F.length = i := by rw [← HF.out, ← m2, List.length_take]; omega
        subst hi
        rw [List.take_length] at HLr
        obtain ⟨w3, hrun, hown3, hgrow⟩ := run_clear_own (P := Try.prog) (k := 3) 28 0 _ F.length Try.underlying28 info_zero3 rfl (by decide) (by decide) hij m4
        have HO3 : Hid (w3.ownsRow b0 35 3 (.slice (some ⟨g, 0, none⟩) F.length cap) F.length (F.flatMap encL)) := Lib.hid (by
          rw [flat_take encL_len, m2, HF.out] at hown3; exact hown3)
        have HK3 := Lib.hid (HK.out.grown hgrow HLr.out.1 (fun k hk => .inr (.inr (Option.some.inj hk).symm)))
        have HL3 := Lib.hid (HLr.out.grown hgrow (HLG.out _))
        clear m1 m2 m3 m4 hown3 hgrow HK HLr
        go_wp2
        go_ret
        exact ⟨rfl, HK3.out, HO3.out, by rw [← HG.out]; exact HL3.out⟩
end Go.Proofs.Ytdiclnkkddnncaa
