/- Package ssi: slices.DeleteFunc with Retire's closure. -/
import Derived.Test.YtdajginkipaghaaRetW2
namespace Go.Proofs.Ytdajginkipaghaa
open Go.RowKit
open Go.Shelf
set_option linter.unusedVariables false
set_option linter.unusedSimpArgs false
theorem flat_take {α : Type} {enc : α → List Value} {k : Nat} (hk : ∀ x, (enc x).length = k) : ∀ (l : List α) (i : Nat), (l.flatMap enc).take (i * k) = (l.take i).flatMap enc
  | [], i => by simp
  | a :: l, 0 => by simp
  | a :: l, i + 1 => by
    have e1 : (i + 1) * k = k + i * k := by rw [Nat.add_mul, Nat.one_mul]; omega
    rw [List.flatMap_cons, e1, List.take_append, hk, Nat.add_sub_cancel_left, flat_take hk l i, List.take_of_length_le (by rw [hk]; omega)]; simp
theorem set_flat5 (vs : List Value) (o : Nat) (a b c d e : Value) (pre post : List Value) (y0 y1 y2 y3 y4 : Value) (h : vs = pre ++ [y0, y1, y2, y3, y4] ++ post) (ho : pre.length = o) :
    ((((vs.set o a).set (o + 1) b).set (o + 2) c).set (o + 3) d).set (o + 4) e = pre ++ [a, b, c, d, e] ++ post := by
  subst h; subst ho
  simp [List.set_append, List.set]
theorem flat_store {l : List Tx} {i : Nat} {x : Tx} (hi : i < l.length) :
    (((((l.flatMap encT).set (i * 5) (.int .i64 x.id)).set (i * 5 + 1) (.int .i64 x.st)).set (i * 5 + 2) (.int .i64 x.en)).set (i * 5 + 3) (.bool x.inn)).set (i * 5 + 4) (.bool x.out) = (l.set i x).flatMap encT := by
  have hd : l = l.take i ++ l[i] :: l.drop (i + 1) := by rw [← List.drop_eq_getElem_cons hi, List.take_append_drop]
  have e : l.set i x = l.take i ++ x :: l.drop (i + 1) := by rw [List.set_eq_take_append_cons_drop, if_pos hi]
  have hf := congrArg (fun z => List.flatMap encT z) hd
  rw [List.flatMap_append, List.flatMap_cons] at hf
  rw [set_flat5 (l.flatMap encT) (i * 5) _ _ _ _ _ ((l.take i).flatMap encT) ((l.drop (i + 1)).flatMap encT) (.int .i64 l[i].id) (.int .i64 l[i].st) (.int .i64 l[i].en) (.bool l[i].inn) (.bool l[i].out) (hf.trans (by simp [encT])) (by rw [flat_len encT_len, List.length_take, Nat.min_eq_left (by omega)]), e]
  simp [encT]
theorem take_snoc {α : Type} {m : List α} {i : Nat} (x : α) (hi : i < m.length) : (m.set i x).take (i + 1) = m.take i ++ [x] := by
  rw [List.take_add_one, List.take_set_of_le (Nat.le_refl _), List.getElem?_set_self hi]; rfl
theorem info_zero5 : ∀ w : World, (zeroValue 40).run Try.prog w = .ok (.agg #[.int .i64 0, .int .i64 0, .int .i64 0, .bool false, .bool false]) w := by
  intro w
  kernel_rfl
set_option maxHeartbeats 4000000 in
set_option maxRecDepth 100000 in
theorem delete_any (g cap b0 : Nat) (l : List Tx) (n : Int) (B1 B2 base : Nat) (w : World) (HO : w.ownsRow b0 40 5 (.slice (some ⟨g, 0, none⟩) l.length cap) l.length (l.flatMap encT)) (hg : g < base) (hg1 : g ≠ B1) (hg2 : g ≠ B2) (h1 : B1 < base) (h12 : B1 ≠ B2) (hn : w.cell? ⟨B1, 0, none⟩ = some (.int .i64 n)) (hL : Log w base B2 []) (hl : l.length ≤ 1000) :
    Calls Try.prog 22 #[.slice (some ⟨g, 0, none⟩) l.length cap, .func (.func 23) #[] #[.pointer (some ⟨B1, 0, none⟩), .pointer (some ⟨B2, 0, none⟩)]] w fun e w' =>
      e = .returned (.slice (some ⟨g, 0, none⟩) (l.filter (fun t => !gone n t)).length cap) ∧ Kept base (fun k => k = B2 ∨ k = g) w w' ∧ w'.ownsRow b0 40 5 (.slice (some ⟨g, 0, none⟩) (l.filter (fun t => !gone n t)).length cap) (l.filter (fun t => !gone n t)).length ((l.filter (fun t => !gone n t)).flatMap encT) ∧ Log w' base B2 ((l.filter (gone n)).map (·.id)) := by
  have eg : ∀ args w, (callFunc 23 args).run Try.prog w = .ok (.enter 23 args) w := enters_of Try.func23 (by kernel_rfl) rfl
  have hix := index_any (some ⟨g, 0, none⟩) cap l n B1 B2 base w (RowE.owned encT_len HO) (fun b off h => by cases h; exact ⟨hg, hg2⟩) h1 h12 hn hL hl
  have HN := Lib.hid hn
  have HO' := Lib.hid HO
  have hlc : l.length ≤ cap := by
    obtain ⟨A', c', hv, hc', _⟩ := own_slice HO
    cases hv; exact hc'
  clear hn hL HO
  generalize hF : l.filter (fun t => !gone n t) = F at *
  generalize hG : (l.filter (gone n)).map (·.id) = Z at *
  have HF := Lib.hid hF
  have HG := Lib.hid hG
  clear hF hG
  go_enter Try.func22, Try.ntmps22
  go_wp2_with fail
  refine hix.mono ?_; rintro e w1 ⟨hk1, ⟨rfl, hno, hL1⟩ | ⟨i, x, rfl, hx, hgx, hpre, hL1⟩⟩
  · have HK1 := Lib.hid hk1
    have HL1 := Lib.hid hL1
    have HNO := Lib.hid hno
    clear hk1 hL1 hno hix
    have e1 : Hid (F = l) := Lib.hid (by rw [← HF.out]; exact List.filter_eq_self.2 (fun x hx => by simp [HNO.out x hx]))
    have e2 : Hid (Z = []) := Lib.hid (by rw [← HG.out, filter_none HNO.out]; rfl)
    go_wp2
    go_ret
    rw [e1.out, e2.out]
    exact ⟨rfl, HK1.out.mono (fun k h => .inl h), HK1.out.own HO'.out (fun q hq => by cases hq; exact ⟨hg, hg2⟩), HL1.out⟩
  · have HK1 := Lib.hid hk1
    have HL1 := Lib.hid hL1
    have HX := Lib.hid hx
    have HPRE := Lib.hid hpre
    have hil : i < l.length := lt_of_get hx
    clear hk1 hL1 hix hpre hx
    have AT : Hid (∃ m : List Tx, m.length = l.length ∧ m.take i = (l.take (i + 1)).filter (fun t => !gone n t) ∧ m.drop (i + 1) = l.drop (i + 1) ∧ w1.ownsRow b0 40 5 (.slice (some ⟨g, 0, none⟩) l.length cap) l.length (m.flatMap encT) ∧ ((l.take (i + 1)).filter (gone n)).map (·.id) = [x.id]) := Lib.hid (by
      refine ⟨l, rfl, ?_, rfl, HK1.out.own HO'.out (fun q hq => by cases hq; exact ⟨hg, hg2⟩), ?_⟩
      · rw [List.take_add_one, HX.out, List.filter_append]
        have : (l.take i).filter (fun t => !gone n t) = l.take i := List.filter_eq_self.2 (fun y hy => by simp [HPRE.out y hy])
        rw [this]; simp [hgx]
      · rw [List.take_add_one, HX.out, List.filter_append, filter_none HPRE.out]; simp [hgx])
    clear HX HPRE HO'
    go_wp2
    go_loopw [5, 6] (fun s5 s6 wr => ∃ i j : Nat, s5 = .int .i64 i ∧ s6 = .int .i64 j ∧ i < j ∧ j ≤ l.length ∧ Hid (Kept base (fun k => k = B2 ∨ k = g) w wr) ∧ Hid (∃ m : List Tx, m.length = l.length ∧ m.take i = (l.take j).filter (fun t => !gone n t) ∧ m.drop j = l.drop j ∧ wr.ownsRow b0 40 5 (.slice (some ⟨g, 0, none⟩) l.length cap) l.length (m.flatMap encT)) ∧ Hid (Log wr base B2 (((l.take j).filter (gone n)).map (·.id)))) (fun _ s6 _ => l.length - (Lib.intOf s6).toNat)
    case atStart =>
      obtain ⟨m, m1, m2, m3, m4, m5⟩ := AT.out
      exact ⟨i, i + 1, rfl, by go_num, by omega, by omega, Lib.hid (HK1.out.mono (fun k h => .inl h)), Lib.hid ⟨m, m1, m2, m3, m4⟩, Lib.hid (by rw [m5]; exact HL1.out)⟩
    case round =>
      clear AT HK1 HL1 hil
      obtain ⟨i, j, rfl, rfl, hij, hj, HK, HM, HLr⟩ := hrel
      by_cases hlt : j < l.length
      · obtain ⟨x, hx⟩ : ∃ x, l[j]? = some x := ⟨_, List.getElem?_eq_getElem hlt⟩
        obtain ⟨m, m1, m2, m3, m4⟩ := HM.out
        clear HM
        have hxm : m[j]? = some x := by
          have h1 : (m.drop j)[0]? = (l.drop j)[0]? := by rw [m3]
          simpa [hx] using h1
        obtain ⟨y, hy⟩ : ∃ y, m[i]? = some y := ⟨_, List.getElem?_eq_getElem (by omega)⟩
        have kc : ∀ q u, q < 5 → (encT x)[q]? = some u → wr.cell? ⟨g, j * 5 + q, none⟩ = some u := fun q u hq hu => (m4.cellAt _ (by omega)).trans (flat_get encT_len m j x q u hxm hu)
        have g0 := kc 0 _ (by decide) rfl
        have g1 := kc 1 _ (by decide) rfl
        have g2 := kc 2 _ (by decide) rfl
        have g3 := kc 3 _ (by decide) rfl
        have g4 := kc 4 _ (by decide) rfl
        simp only [Nat.add_zero] at g0
        have hsz : base ≤ wr.heap.size := HLr.out.lt.2
        have hgr : g < wr.heap.size := by omega
        have hc := gone1_any n x B1 B2 base _ (wr.alloc (.cells #[.int .i64 x.id, .int .i64 x.st, .int .i64 x.en, .bool x.inn, .bool x.out] 40)) h1 h12 ((((Below.refl _ wr).alloc (Nat.le_refl _) _).cell (p := ⟨B1, 0, none⟩) (by simp; omega)).trans ((HK.out.cell (p := ⟨B1, 0, none⟩) h1 (by rintro (h | h); exact h12 h; exact hg1 h.symm)).trans HN.out)) (HLr.out.alloc _) (by rw [List.length_map]; exact Nat.le_trans (List.length_filter_le _ _) (by rw [List.length_take]; omega))
        have TK : Hid (l.take (j + 1) = l.take j ++ [x]) := Lib.hid (by rw [List.take_add_one, hx]; rfl)
        have M1 := Lib.hid m1
        have M2 := Lib.hid m2
        have M3 : Hid (m.drop (j + 1) = l.drop (j + 1)) := Lib.hid (by
          have := congrArg (List.drop 1) m3
          simpa [List.drop_drop, Nat.add_comm] using this)
        have M4 := Lib.hid (m4.alloc (.cells #[.int .i64 x.id, .int .i64 x.st, .int .i64 x.en, .bool x.inn, .bool x.out] 40))
        clear m1 m2 m3 m4 hx hxm hy kc
        obtain ⟨id, st, en, inn, out⟩ := x
        dsimp only at g0 g1 g2 g3 g4 hc M4
        cases ho : gone n ⟨id, st, en, inn, out⟩ with
        | true =>
          rw [ho] at hc
          go_wp2_with (go_at_fn 23; refine hc.mono ?_; rintro e w2 ⟨rfl, h2, h3, _⟩)
          go_roundw
          case rel =>
            (repeat apply Exists.intro)
            refine ⟨?_, rfl⟩
            refine ⟨i, j + 1, rfl, by go_num, by omega, by omega, Lib.hid ((HK.out.alloc hsz _).trans (h2.mono (fun k h => .inl h))), Lib.hid ⟨m, M1.out, ?_, M3.out, ?_⟩, Lib.hid ?_⟩
            · rw [M2.out, TK.out, List.filter_append]; simp [ho]
            · exact h2.own M4.out (fun q hq => by cases hq; exact ⟨hg, hg2⟩)
            · have e : ((l.take (j + 1)).filter (gone n)).map (·.id) = ((l.take j).filter (gone n)).map (·.id) ++ [id] := by rw [TK.out, List.filter_append]; simp [ho]
              rw [e]; simpa using h3
          case measure => simp [Lib.intOf]; omega
        | false =>
          rw [ho] at hc
          have KY : Hid (∀ q, q < 5 → ∃ u, (encT y)[q]? = some u) := Lib.hid (fun q hq => ⟨_, List.getElem?_eq_getElem (by rw [encT_len]; exact hq)⟩)
          go_wp2_with fail
          go_at_fn 23
          refine hc.mono ?_; rintro e w2 ⟨rfl, h2, h3, h4'⟩
          have h4 := h4' (by trivial)
          clear h4'
          have b0' : w2.cell? ⟨wr.heap.size, 0, none⟩ = some (.int .i64 id) := (h4.cell (p := ⟨wr.heap.size, 0, none⟩) (by simp)).trans (by go_simp)
          have b1' : w2.cell? ⟨wr.heap.size, 1, none⟩ = some (.int .i64 st) := (h4.cell (p := ⟨wr.heap.size, 1, none⟩) (by simp)).trans (by go_simp)
          have b2' : w2.cell? ⟨wr.heap.size, 2, none⟩ = some (.int .i64 en) := (h4.cell (p := ⟨wr.heap.size, 2, none⟩) (by simp)).trans (by go_simp)
          have b3' : w2.cell? ⟨wr.heap.size, 3, none⟩ = some (.bool inn) := (h4.cell (p := ⟨wr.heap.size, 3, none⟩) (by simp)).trans (by go_simp)
          have b4' : w2.cell? ⟨wr.heap.size, 4, none⟩ = some (.bool out) := (h4.cell (p := ⟨wr.heap.size, 4, none⟩) (by simp)).trans (by go_simp)
          have M5 := own_below M4.out h4
          have ce : ∀ q, q < 5 → ∃ u, w2.cell? ⟨g, i * 5 + q, none⟩ = some u := fun q hq => by
            have hq' : i * 5 + q < (m.flatMap encT).length := by rw [flat_len encT_len, M1.out]; omega
            exact ⟨_, (M5.cellAt _ (by omega)).trans (List.getElem?_eq_getElem hq')⟩
          obtain ⟨u0, e0⟩ := ce 0 (by decide)
          obtain ⟨u1, e1⟩ := ce 1 (by decide)
          obtain ⟨u2, e2⟩ := ce 2 (by decide)
          obtain ⟨u3, e3⟩ := ce 3 (by decide)
          obtain ⟨u4, e4⟩ := ce 4 (by decide)
          simp only [Nat.add_zero] at e0
          have f0 := M5.frozenAt (i * 5)
          have f1 := M5.frozenAt (i * 5 + 1)
          have f2 := M5.frozenAt (i * 5 + 2)
          have f3 := M5.frozenAt (i * 5 + 3)
          have f4 := M5.frozenAt (i * 5 + 4)
          have M6 := Lib.hid (((((M5.stored (i * 5) (.int .i64 id)).1.stored (i * 5 + 1) (.int .i64 st)).1.stored (i * 5 + 2) (.int .i64 en)).1.stored (i * 5 + 3) (.bool inn)).1.stored (i * 5 + 4) (.bool out)).1
          have HK2 := Lib.hid (((HK.out.alloc hsz (.cells #[.int .i64 id, .int .i64 st, .int .i64 en, .bool inn, .bool out] 40)).trans (h2.mono (fun k h => .inl h))))
          have HL2 := Lib.hid h3
          have hs2 : g < w2.heap.size := (M5.lt g rfl).2
          clear ce M4 M5 h2 h3 h4 KY hc
          go_wp2
          go_roundw
          case rel =>
            (repeat apply Exists.intro)
            refine ⟨?_, rfl⟩
            refine ⟨i + 1, j + 1, by go_num, by go_num, by omega, by omega, Lib.hid ?_, Lib.hid ⟨m.set i ⟨id, st, en, inn, out⟩, by rw [List.length_set, M1.out], ?_, ?_, ?_⟩, Lib.hid ?_⟩
            · exact ((((HK2.out.set ⟨g, _, none⟩ _ (.inr (.inr rfl))).set ⟨g, _, none⟩ _ (.inr (.inr rfl))).set ⟨g, _, none⟩ _ (.inr (.inr rfl))).set ⟨g, _, none⟩ _ (.inr (.inr rfl))).set ⟨g, _, none⟩ _ (.inr (.inr rfl))
            · rw [take_snoc _ (by rw [M1.out]; omega), M2.out, TK.out, List.filter_append]; simp [ho]
            · rw [List.drop_set_of_lt (by omega), M3.out]
            · rw [← flat_store (by rw [M1.out]; omega)]; exact M6.out
            · have e : ((l.take (j + 1)).filter (gone n)).map (·.id) = ((l.take j).filter (gone n)).map (·.id) := by rw [TK.out, List.filter_append]; simp [ho]
              rw [e]
              have HL2' : Log w2 base B2 (((l.take j).filter (gone n)).map (·.id)) := by simpa using HL2.out
              exact ((((HL2'.set ⟨g, _, none⟩ _ hg hg2).set ⟨g, _, none⟩ _ hg hg2).set ⟨g, _, none⟩ _ hg hg2).set ⟨g, _, none⟩ _ hg hg2).set ⟨g, _, none⟩ _ hg hg2
          case measure => simp [Lib.intOf]; omega
      · obtain rfl : j = l.length := by omega
        obtain ⟨m, m1, m2, m3, m4⟩ := HM.out
        clear HM
        rw [List.take_length] at m2
        have hi : F.length = i := by rw [← HF.out, ← m2, List.length_take]; omega
        subst hi
        rw [List.take_length] at HLr
        obtain ⟨w3, hrun, hown3, hgrow⟩ := run_clear_own (P := Try.prog) (k := 5) 24 0 _ F.length Try.underlying24 info_zero5 rfl (by decide) (by decide) hij m4
        have HO3 : Hid (w3.ownsRow b0 40 5 (.slice (some ⟨g, 0, none⟩) F.length cap) F.length (F.flatMap encT)) := Lib.hid (by
          rw [flat_take encT_len, m2, HF.out] at hown3; exact hown3)
        have HK3 := Lib.hid (HK.out.grown hgrow HLr.out.lt.2 (fun k hk => .inr (.inr (Option.some.inj hk).symm)))
        have HL3 := Lib.hid (HLr.out.grown hgrow hg hg2)
        clear m1 m2 m3 m4 hown3 hgrow HK HLr
        go_wp2
        go_ret
        exact ⟨rfl, HK3.out, HO3.out, by rw [← HG.out]; exact HL3.out⟩
end Go.Proofs.Ytdajginkipaghaa
