/- Package ssi: Find, ahead. -/
import Derived.Test.YtdajginkipaghaaSsi2
import Derived.Test.YtdajginkipaghaaSsiW2
import Derived.Test.YtdajginkipaghaaBox3
import Derived.Test.YtdajginkipaghaaSlB
namespace Go.Proofs.Ytdajginkipaghaa
open Go.RowKit
open Go.Shelf
set_option linter.unusedVariables false
set_option linter.unusedSimpArgs false
set_option maxHeartbeats 2000000 in
set_option maxRecDepth 100000 in
theorem find_miss (A : Option Addr) (c : Nat) (l : List Tx) (clk nxt id : Int) (w : World) (HR : RowE encT 5 w A l) (hs : l.Pairwise two) (hl : l.length ≤ 1000) (h : at? id l = none) :
    Calls Try.prog 18 #[.agg #[.slice A l.length c, .int .i64 clk, .int .i64 nxt], .int .i64 id] w fun e w' => e = .returned (.pointer none) ∧ Below w.heap.size w w' := by
  have ba : Below w.heap.size w (w.alloc (.cells #[.slice A l.length c, .int .i64 clk, .int .i64 nxt] 26)) := (by (repeat (first | (with_reducible exact Below.refl _ _) | apply below_alloc _ (Nat.le_refl _) | refine below_set ?_ (by first | exact Nat.le_refl _ | omega) | apply below_drewN | refine below_step ?_ HB)))
  have hc := search_any A c l id _ (HR.below ba) hs hl
  have HN := Lib.hid (at_none h)
  clear HR h hs
  go_enter Try.func18, Try.ntmps18
  go_wp2_with fail
  refine hc.mono ?_; rintro e w1 ⟨i, ok, rfl, k1, k2, h1⟩
  cases ok with
  | true =>
    obtain ⟨x, hx, hid⟩ := k1 rfl
    exact absurd hid (HN.out x (List.mem_of_getElem? hx))
  | false =>
    clear k1 k2
    go_wp2
    go_ret
    exact ⟨rfl, ba.trans (h1.mono (by simp))⟩
set_option maxHeartbeats 2000000 in
set_option maxRecDepth 100000 in
theorem find_hit (b off : Nat) (c : Nat) (l : List Tx) (clk nxt id : Int) (i : Nat) (x : Tx) (w : World) (HR : RowE encT 5 w (some ⟨b, off, none⟩) l) (hs : l.Pairwise two) (hl : l.length ≤ 1000) (h : at? id l = some (i, x)) :
    Calls Try.prog 18 #[.agg #[.slice (some ⟨b, off, none⟩) l.length c, .int .i64 clk, .int .i64 nxt], .int .i64 id] w fun e w' => e = .returned (.pointer (some ⟨b, off + i * 5, none⟩)) ∧ Below w.heap.size w w' := by
  have ba : Below w.heap.size w (w.alloc (.cells #[.slice (some ⟨b, off, none⟩) l.length c, .int .i64 clk, .int .i64 nxt] 26)) := (by (repeat (first | (with_reducible exact Below.refl _ _) | apply below_alloc _ (Nat.le_refl _) | refine below_set ?_ (by first | exact Nat.le_refl _ | omega) | apply below_drewN | refine below_step ?_ HB)))
  have hc := search_any _ c l id _ (HR.below ba) hs hl
  have HN := Lib.hid (at_some h)
  have HS := Lib.hid hs
  have hil : i < l.length := lt_of_get HN.out.1
  clear HR h hs
  go_enter Try.func18, Try.ntmps18
  go_wp2_with fail
  refine hc.mono ?_; rintro e w1 ⟨i', ok, rfl, k1, k2, h1⟩
  cases ok with
  | false =>
    exact absurd HN.out.2 (k2 rfl x (List.mem_of_getElem? HN.out.1))
  | true =>
    obtain ⟨x', hx, hid⟩ := k1 rfl
    obtain ⟨rfl, rfl⟩ := same_place HS.out HN.out.1 hx (HN.out.2.trans hid.symm)
    clear k1 k2 hx hid
    have p0 : w1.cell? ⟨w.heap.size, 0, none⟩ = some (.slice (some ⟨b, off, none⟩) l.length c) := (h1.cell (by simp)).trans (by go_simp)
    go_wp2
    go_ret
    exact ⟨rfl, ba.trans (h1.mono (by simp))⟩
set_option maxHeartbeats 2000000 in
set_option maxRecDepth 100000 in
theorem ahead_any (b1 o1 b2 o2 : Nat) (x y : Tx) (w : World) (h1 : w.cell? ⟨b1, o1 + 2, none⟩ = some (.int .i64 x.en)) (h2 : w.cell? ⟨b2, o2 + 1, none⟩ = some (.int .i64 y.st)) :
    Calls Try.prog 19 #[.pointer (some ⟨b1, o1, none⟩), .pointer (some ⟨b2, o2, none⟩)] w fun e w' => e = .returned (.bool (ahead x y)) ∧ ∃ n, w' = w.drewN n := by
  obtain ⟨_, _, xe, _, _⟩ := x
  obtain ⟨_, ys, _, _, _⟩ := y
  dsimp only [ahead] at *
  by_cases q : 0 < xe
  · by_cases r : xe ≤ ys
    · go_enter Try.func19, Try.ntmps19
      go_wp2_with fail
      go_quiet (fail)
      go_wp2
      go_ret
      exact ⟨ret_bool (by simp [q, r]), _, rfl⟩
    · go_enter Try.func19, Try.ntmps19
      go_wp2_with fail
      go_quiet (fail)
      go_wp2
      go_ret
      exact ⟨ret_bool (by simp [q, r]), _, rfl⟩
  · have q' : decide (0 < xe) = false := decide_eq_false q
    go_enter Try.func19, Try.ntmps19
    go_wp2_with fail
    go_quiet (fail)
    go_wp2
    go_ret
    exact ⟨ret_bool (by simp; intro h; omega), _, rfl⟩
/-- A state, as a value. -/
def StV (N : Nat) (w : World) (v : Value) (s : St) : Prop := ∃ u, v = .agg #[u, .int .i64 s.clk, .int .i64 s.nxt] ∧ SlB encT 5 N w u s.l
theorem StV.below {N : Nat} {w w1 : World} {v : Value} {s : St} (h : StV N w v s) (hb : Below w.heap.size w w1) : StV N w1 v s := by
  obtain ⟨u, e, hu⟩ := h
  exact ⟨u, e, hu.below hb⟩
theorem StV.set {N : Nat} {w : World} {v : Value} {s : St} (h : StV N w v s) (p : Addr) (x : Value) (hp : p.block < N) : StV N (w.setCell p x) v s := by
  obtain ⟨u, e, hu⟩ := h
  exact ⟨u, e, hu.set p x hp⟩
theorem StV.alloc {N : Nat} {w : World} {v : Value} {s : St} (h : StV N w v s) (o : Obj) : StV N (w.alloc o) v s := h.below ((Below.refl _ w).alloc (Nat.le_refl _) o)
theorem StV.mono {N M : Nat} {w : World} {v : Value} {s : St} (h : StV N w v s) (hM : M ≤ N) : StV M w v s := by
  obtain ⟨u, e, hu⟩ := h
  exact ⟨u, e, hu.mono hM⟩
/-- A state's value, opened. -/
theorem StV.out {N : Nat} {w : World} {v : Value} {s : St} (h : StV N w v s) : ∃ A c, v = .agg #[.slice A s.l.length c, .int .i64 s.clk, .int .i64 s.nxt] ∧ RowE encT 5 w A s.l ∧ (A = none → c = 0) ∧ (∀ a, A = some a → N ≤ a.block) ∧ s.l.length ≤ c := by
  obtain ⟨u, rfl, A, c, rfl, h0, h1, h2, h3⟩ := h
  exact ⟨A, c, rfl, h1, h2, h3, h0⟩
theorem StV.zero {N : Nat} (w : World) : StV N w (.agg #[.slice none 0 0, .int .i64 0, .int .i64 0]) St.zero := ⟨_, rfl, SlB.nil w⟩
theorem SlB.own {N : Nat} {w : World} {base n : Nat} {v : Value} {l : List Tx} (hN : N ≤ base) (h : w.ownsRow base 40 5 v n (l.flatMap encT)) : SlB encT 5 N w v l := SlB.of_own encT_len (by decide) hN h
theorem SlE.own {w : World} {base n : Nat} {v : Value} {l : List Tx} (h : w.ownsRow base 40 5 v n (l.flatMap encT)) : SlE encT 5 w v l := SlE.of_own encT_len (by decide) h
set_option maxHeartbeats 4000000 in
set_option maxRecDepth 100000 in
theorem begin_any (A : Option Addr) (c : Nat) (s : St) (w : World) (HR : RowE encT 5 w A s.l) (hn : A = none → c = 0) (hl : s.l.length ≤ 140737488355328) :
    Calls Try.prog 9 #[.agg #[.slice A s.l.length c, .int .i64 s.clk, .int .i64 s.nxt]] w fun e w' => ∃ v, e = .returned (.tuple #[v, .int .i64 (beginR s).2.1, .int .i64 (beginR s).2.2]) ∧ StV w.heap.size w' v (beginR s).1 ∧ Below w.heap.size w w' := by
  have HB0 := (Box3.new w (.slice A s.l.length c) (.int .i64 s.clk) (.int .i64 s.nxt) 26).alloc (.cells #[.slice none 0 0, .int .i64 0, .int .i64 0] 26)
  have HB1 := Box3.new (w.alloc (.cells #[.slice A s.l.length c, .int .i64 s.clk, .int .i64 s.nxt] 26)) (.slice none 0 0) (.int .i64 0) (.int .i64 0) 26
  have ba : Below w.heap.size w ((w.alloc (.cells #[.slice A s.l.length c, .int .i64 s.clk, .int .i64 s.nxt] 26)).alloc (.cells #[.slice none 0 0, .int .i64 0, .int .i64 0] 26)) := (by (repeat (first | (with_reducible exact Below.refl _ _) | apply below_alloc _ (Nat.le_refl _) | refine below_set ?_ (by first | exact Nat.le_refl _ | omega) | apply below_drewN | refine below_step ?_ HB)))
  have hc := check_any A c s.l s.clk s.nxt _ (HR.below ba) hl
  have E : Hid (beginR s = if chk s.l s.clk s.nxt ≠ 0 then (St.zero, 0, chk s.l s.clk s.nxt) else if s.l.length = 64 ∨ s.nxt = 1099511627776 then (St.zero, 0, 51) else (⟨s.l ++ [⟨s.nxt, s.clk, 0, false, false⟩], s.clk, s.nxt + 1⟩, s.nxt, 0)) := Lib.hid rfl
  have CK := Lib.hid (fun h => (chk_iff s.l s.clk s.nxt).1 h)
  generalize hk : chk s.l s.clk s.nxt = k at *
  clear hk
  have HR' := Lib.hid HR
  clear HR
  obtain ⟨l, clk, nxt⟩ := s
  dsimp only at *
  simp only [World.size_alloc] at HB1
  go_enter Try.func9, Try.ntmps9
  go_wp2_with fail
  refine hc.mono ?_; rintro e w1 ⟨rfl, h1⟩
  replace HB0 := HB0.below h1 (by simp <;> omega)
  replace HB1 := HB1.below h1 (by simp <;> omega)
  have HF := ba.trans (h1.mono (by simp <;> omega))
  clear h1 hc ba
  by_cases k0 : k = 0
  · subst k0
    have hlen : l.length ≤ 64 := (CK.out rfl).1
    have hnx : nxt ≤ 1099511627776 := (CK.out rfl).2.2.2.2.1
    have hnx1 : 1 ≤ nxt := (CK.out rfl).2.2.2.1
    clear CK
    by_cases q : l.length = 64 ∨ nxt = 1099511627776
    · have EE : Hid (beginR ⟨l, clk, nxt⟩ = (St.zero, 0, 51)) := Lib.hid (by rw [E.out, if_neg (by simp), if_pos q])
      clear E
      obtain ⟨c00, c01, c02, f00, f01, f02, l0⟩ := HB0
      obtain ⟨c10, c11, c12, f10, f11, f12, l1⟩ := HB1
      by_cases q1 : l.length = 64
      · go_wp2
        refine bodyPost_ret (v := .tuple #[.agg #[.slice none 0 0, .int .i64 0, .int .i64 0], .int .i64 0, .int .i64 51]) (by simp [results, Try.results9, go_sem, c10, c11, c12, l1]) rfl ?_
        rw [EE.out]
        exact ⟨_, rfl, StV.zero _, Below.setCell (Below.setCell (Below.setCell HF (by simp) _) (by simp) _) (by simp) _⟩
      · have q2 : nxt = 1099511627776 := by omega
        have q3 : ¬ (l.length : Int) = 64 := by omega
        go_wp2
        refine bodyPost_ret (v := .tuple #[.agg #[.slice none 0 0, .int .i64 0, .int .i64 0], .int .i64 0, .int .i64 51]) (by simp [results, Try.results9, go_sem, c10, c11, c12, l1]) rfl ?_
        rw [EE.out]
        exact ⟨_, rfl, StV.zero _, Below.setCell (Below.setCell (Below.setCell HF (by simp) _) (by simp) _) (by simp) _⟩
    · have EE : Hid (beginR ⟨l, clk, nxt⟩ = (⟨l ++ [⟨nxt, clk, 0, false, false⟩], clk, nxt + 1⟩, nxt, 0)) := Lib.hid (by rw [E.out, if_neg (by simp), if_neg q])
      have q1 : ((l.length : Int) == 64) = false := by simp; omega
      have q2 : (nxt == 1099511627776) = false := by simp; omega
      have hcl := clone_any A c l clk nxt w1 (HR'.out.below HF) hn (by omega)
      clear E q
      have HB0' := Lib.hid HB0
      have HB1' := Lib.hid HB1
      obtain ⟨c00, c01, c02, f00, f01, f02, l0⟩ := HB0
      obtain ⟨c10, c11, c12, f10, f11, f12, l1⟩ := HB1
      go_wp2_with fail
      refine hcl.mono ?_; rintro e w2 ⟨v, rfl, hown, h2⟩
      clear c00 c01 c02 f00 f01 f02 c10 c11 c12 f10 f11 f12 hcl
      have HB0 := HB0'.out.below h2 l0
      have HB1 := HB1'.out.below h2 l1
      replace HF := below_step' HF h2
      obtain ⟨Av, cv, rfl, hcv, hnv⟩ := own_slice hown
      have HO := own_base (b' := w.heap.size + 2) hown (by have := l1; omega)
      have HO3 := own_set (own_set (own_set HO ⟨w.heap.size, 0, none⟩ (.slice Av l.length cv) (by simp)) ⟨w.heap.size, 1, none⟩ (.int .i64 clk) (by simp)) ⟨w.heap.size, 2, none⟩ (.int .i64 nxt) (by simp)
      have HB3 := ((HB0.set0 (.slice Av l.length cv)).set1 (.int .i64 clk)).set2 (.int .i64 nxt)
      have HC3 := ((HB1.other ⟨w.heap.size, 0, none⟩ (.slice Av l.length cv) (by simp)).other ⟨w.heap.size, 1, none⟩ (.int .i64 clk) (by simp)).other ⟨w.heap.size, 2, none⟩ (.int .i64 nxt) (by simp)
      have HF3 : Below w.heap.size w _ := Below.setCell (Below.setCell (Below.setCell HF (p := ⟨w.heap.size, 0, none⟩) (by simp) (.slice Av l.length cv)) (p := ⟨w.heap.size, 1, none⟩) (by simp) (.int .i64 clk)) (p := ⟨w.heap.size, 2, none⟩) (by simp) (.int .i64 nxt)
      obtain ⟨i0, hi, hz0, hz1, hz2⟩ := infoT
      clear hown HO HF
      have HC3' := Lib.hid HC3
      have HB3' := Lib.hid HB3
      clear HC3 HB3
      obtain ⟨c00, c01, c02, f00, f01, f02, l0⟩ := HB0
      obtain ⟨c10, c11, c12, f10, f11, f12, l1⟩ := HB1
      have HF3' := Lib.hid HF3
      clear HF3
      go_wp2_with (at_builtin; refine wpList_append_own _ rfl _ _ 24 rfl (w.heap.size + 2) 40 i0 (.agg #[.int .i64 0, .int .i64 0, .int .i64 0, .bool false, .bool false]) 5 32 Try.underlying24 hi hz0 hz1 hz2 rfl (by decide) _ _ _ rfl (HO3.alloc _) ⟨w2.heap.size, 0, none⟩ 1 1 [.int .i64 nxt, .int .i64 clk, .int .i64 0, .bool false, .bool false] rfl rfl ?c1 ?c2 ?c3 ?c4 ?c5 ?_)
      case c1 =>
        intro i u hu
        rw [Addr.add_lit]
        match i, hu with
        | 0, hu => simp at hu; subst hu; go_simp
        | 1, hu => simp at hu; subst hu; go_simp
        | 2, hu => simp at hu; subst hu; go_simp
        | 3, hu => simp at hu; subst hu; go_simp
        | 4, hu => simp at hu; subst hu; go_simp
      case c2 => intro u hu; simp at hu; rcases hu with rfl | rfl | rfl | rfl <;> rfl
      case c3 => unfold maxLen; omega
      case c4 => omega
      case c5 => have := l1; simp; omega
      intro v' w3 hown' hgrow hnil
      have hne : ∀ k, k < w.heap.size + 2 → some k ≠ (Value.slice Av l.length cv).ownBlock := fun k hk e => by have := (HO3.lt k e.symm).1; omega
      have HB4 := (HB3'.out.alloc (.cells #[.int .i64 nxt, .int .i64 clk, .int .i64 0, .bool false, .bool false] 40)).grown hgrow (hne _ (by omega))
      have HC4 := (HC3'.out.alloc (.cells #[.int .i64 nxt, .int .i64 clk, .int .i64 0, .bool false, .bool false] 40)).grown hgrow (hne _ (by omega))
      have HF4 : Below w.heap.size w w3 := (HF3'.out.alloc (by simp; omega) _).grown hgrow (by have := l1; simp; omega) (fun k hk => by have := (HO3.lt k hk).1; omega)
      clear c00 c01 c02 f00 f01 f02 l0 c10 c11 c12 f10 f11 f12 l1 HO3 hgrow hne hnil
      obtain ⟨A', c', rfl, hc', hn'⟩ := own_slice hown'
      have HO4 : Hid (w3.ownsRow (w.heap.size + 2) 40 5 (.slice A' (l.length + 1) c') (l.length + 1) ((l ++ [(⟨nxt, clk, 0, false, false⟩ : Tx)]).flatMap encT)) := Lib.hid (by simpa [encT] using hown')
      clear hown'
      obtain ⟨c00, c01, c02, f00, f01, f02, l0⟩ := HB4
      obtain ⟨c10, c11, c12, f10, f11, f12, l1⟩ := HC4
      have hwr : IntKind.i64.wrap nxt = nxt := IntWalk.i64_in nxt ⟨by omega, by omega⟩
      go_wp2_with fail
      go_region_with (fail)
      all_goals go_wp2
      all_goals
        refine bodyPost_ret (v := .tuple #[.agg #[.slice A' (l.length + 1) c', .int .i64 clk, .int .i64 (nxt + 1)], .int .i64 nxt, .int .i64 0]) (by simp [results, Try.results9, go_sem, c10, c11, c12, l1, hwr]) rfl ?_
        rw [EE.out]
        refine ⟨_, rfl, ⟨_, rfl, SlB.own (base := w.heap.size + 2) (n := l.length + 1) (by omega) ?_⟩, ?_⟩
        · repeat first | (with_reducible exact HO4.out) | (with_reducible refine own_set ?_ _ _ (by simp)) | (with_reducible refine World.ownsRow.drew ?_)
        · repeat first | (with_reducible exact HF4) | (with_reducible refine Below.setCell ?_ (by simp) _) | (with_reducible refine Below.drew ?_)
  · have EE : Hid (beginR ⟨l, clk, nxt⟩ = (St.zero, 0, k)) := Lib.hid (by rw [E.out, if_pos k0])
    clear E
    obtain ⟨c00, c01, c02, f00, f01, f02, l0⟩ := HB0
    obtain ⟨c10, c11, c12, f10, f11, f12, l1⟩ := HB1
    go_wp2
    refine bodyPost_ret (v := .tuple #[.agg #[.slice none 0 0, .int .i64 0, .int .i64 0], .int .i64 0, .int .i64 k]) (by simp [results, Try.results9, go_sem, c10, c11, c12, l1]) rfl ?_
    rw [EE.out]
    exact ⟨_, rfl, StV.zero _, Below.setCell (Below.setCell (Below.setCell HF (by simp) _) (by simp) _) (by simp) _⟩
end Go.Proofs.Ytdajginkipaghaa
