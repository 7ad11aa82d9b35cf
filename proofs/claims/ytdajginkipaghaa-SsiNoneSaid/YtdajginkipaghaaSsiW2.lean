/- Package ssi: clone, Find and what they call. -/
import Derived.Test.YtdajginkipaghaaSsiW
import Derived.Test.YtdajginkipaghaaSlc2
import Derived.Lib.SliceRun
namespace Go.Proofs.Ytdajginkipaghaa
open Go.RowKit
open Go.Shelf
set_option linter.unusedVariables false
set_option linter.unusedSimpArgs false
theorem infoT : ∃ i0, Try.prog.info? 40 = some i0 ∧ i0.zero = some (.agg #[.int .i64 0, .int .i64 0, .int .i64 0, .bool false, .bool false]) ∧ i0.size = 5 ∧ i0.bytes = 32 :=
  info_parts (show (Try.prog.info? 40).map (fun i => (i.zero, i.size, i.bytes)) = some (some (.agg #[.int .i64 0, .int .i64 0, .int .i64 0, .bool false, .bool false]), 5, 32) by kernel_rfl)
set_option maxHeartbeats 2000000 in
set_option maxRecDepth 100000 in
theorem sclone_own (A : Option Addr) (c : Nat) (l : List Tx) (w : World) (HA : RowE encT 5 w A l) (hn : A = none → c = 0) (hl : l.length ≤ 1000) :
    Calls Try.prog 24 #[.slice A l.length c] w fun e w' => ∃ v, e = .returned v ∧ w'.ownsRow w.heap.size 40 5 v l.length (l.flatMap encT) ∧ Below w.heap.size w w' := by
  obtain ⟨i0, hi, hz0, hz1, hz2⟩ := infoT
  have q22 : ∀ (w : World) (a : Option Addr) (n c n' c' : Nat), (binOp .eql 24 (.slice a n c) (.slice none n' c')).run Try.prog w = .ok (.bool a.isNone) w := fun w a n c n' c' => Lib.run_eql_slice_nil w _ _ a n c n' c' Try.underlying24
  cases A with
  | none =>
    have h0 : l = [] := by
      cases l with
      | nil => rfl
      | cons a l => obtain ⟨b, off, h, _⟩ := HA 0 a rfl; cases h
    subst h0
    obtain rfl := hn rfl
    go_enter Try.func24, Try.ntmps24
    go_wp2
    go_ret
    exact ⟨_, rfl, World.ownsRow_nil _ _ _ _, Below.refl _ _⟩
  | some ad =>
    have HC : Hid (∀ j u, (l.flatMap encT)[j]? = some u → w.cell? (ad.add j) = some u) := Lib.hid (fun j u hu => by
      by_cases h0 : l = []
      · subst h0; simp at hu
      · obtain ⟨b, off, hA, hlt, hc⟩ := HA.cells encT_len (by decide) h0
        obtain rfl : ad = ⟨b, off, none⟩ := Option.some.inj hA
        rw [Addr.add_lit]; exact hc j u hu)
    clear HA
    go_enter Try.func24, Try.ntmps24
    go_wp2_with (at_builtin; refine wpList_append_own _ rfl _ _ 24 rfl w.heap.size 40 i0 (.agg #[.int .i64 0, .int .i64 0, .int .i64 0, .bool false, .bool false]) 5 32 Try.underlying24 hi hz0 hz1 hz2 rfl (by decide) _ _ _ rfl (World.ownsRow_made w #[] 0 (Nat.le_refl _) (Nat.zero_le _) (by simp)) ad l.length c (l.flatMap encT) rfl ?c1 ?c2 ?c3 ?c4 ?c5 ?c6 ?_)
    case c1 => exact flat_len encT_len l
    case c2 =>
      intro j u hj
      have := HC.out j u hj
      exact (((Below.refl w.heap.size w).alloc (Nat.le_refl _) _).cell (World.block_lt_of_cell? _ _ this)).trans this
    case c3 => exact encT_one l
    case c4 => unfold maxLen; omega
    case c5 => omega
    case c6 => simp
    intro v' w1 hown hgrow hnil
    go_wp2
    go_ret
    refine ⟨v', rfl, by simpa using hown, ?_⟩
    exact ((Below.refl _ w).alloc (Nat.le_refl _) _).grown hgrow (by simp) (by intro k hk; simp [Value.ownBlock] at hk; omega)
set_option maxHeartbeats 2000000 in
set_option maxRecDepth 100000 in
theorem clone_any (A : Option Addr) (c : Nat) (l : List Tx) (clk nxt : Int) (w : World) (HA : RowE encT 5 w A l) (hn : A = none → c = 0) (hl : l.length ≤ 1000) :
    Calls Try.prog 17 #[.agg #[.slice A l.length c, .int .i64 clk, .int .i64 nxt]] w fun e w' => ∃ v, e = .returned (.agg #[v, .int .i64 clk, .int .i64 nxt]) ∧ w'.ownsRow w.heap.size 40 5 v l.length (l.flatMap encT) ∧ Below w.heap.size w w' := by
  have ba : Below w.heap.size w ((w.alloc (.cells #[.slice A l.length c, .int .i64 clk, .int .i64 nxt] 26)).alloc (.cells #[.slice none 0 0, .int .i64 0, .int .i64 0] 26)) := (by (repeat (first | (with_reducible exact Below.refl _ _) | apply below_alloc _ (Nat.le_refl _) | refine below_set ?_ (by first | exact Nat.le_refl _ | omega) | apply below_drewN | refine below_step ?_ HB)))
  have hc := sclone_own A c l _ (HA.below ba) hn hl
  have HA' := Lib.hid HA
  clear HA
  go_enter Try.func17, Try.ntmps17
  go_wp2_with fail
  refine hc.mono ?_; rintro e w1 ⟨v, rfl, hown, h1⟩
  obtain ⟨p0, p1, p2, f0, f1, f2⟩ := box3 (b := w.heap.size) h1 (by simp <;> omega) (heap_old _ _ (by simp) (heap_alloc_new w _))
  obtain ⟨p3, p4, p5, f3, f4, f5⟩ := box3 (b := w.heap.size + 1) h1 (by simp <;> omega) (by simpa using heap_alloc_new (w.alloc (.cells #[.slice A l.length c, .int .i64 clk, .int .i64 nxt] 26)) _)
  obtain ⟨Av, cv, rfl, hcv, hnv⟩ := own_slice hown
  have HO := Lib.hid (own_base (b' := w.heap.size + 2) hown (by simp))
  clear hown
  have HB := ba.trans (h1.mono (by simp <;> omega))
  clear h1
  have hs1 := World.block_lt_of_cell? _ _ p3
  go_wp2
  refine bodyPost_ret (v := .agg #[.slice Av l.length cv, .int .i64 clk, .int .i64 nxt]) (by simp [results, Try.results17, go_sem, p3, p4, p5, hs1]) rfl ⟨_, rfl, own_base (own_set (own_set (own_set (own_set HO.out _ _ ?_) _ _ ?_) _ _ ?_) _ _ ?_) (by omega), Below.setCell (Below.setCell (Below.setCell (Below.setCell HB ?_ _) ?_ _) ?_ _) ?_ _⟩
  all_goals (simp)
theorem isNaN_any (a : Int) (w : World) : Calls Try.prog 29 #[.int .i64 a] w fun e w' => e = .returned (.bool false) ∧ w = w' := by
  go_enter Try.func29, Try.ntmps29
  go_wp2
  go_ret
  exact ⟨ret_bool (by simp), rfl⟩
def icmp (a b : Int) : Int := if a < b then -1 else if b < a then 1 else 0
theorem compare_any (a b : Int) (w : World) : Calls Try.prog 27 #[.int .i64 a, .int .i64 b] w fun e w' => e = .returned (.int .i64 (icmp a b)) ∧ w = w' := by
  have c1 := isNaN_any a w
  have c2 := isNaN_any b w
  go_enter Try.func27, Try.ntmps27
  go_wp2_with fail
  refine c1.mono ?_; rintro e w1 ⟨rfl, rfl⟩
  go_wp2_with fail
  refine c2.mono ?_; rintro e w1 ⟨rfl, rfl⟩
  by_cases h1 : a < b
  · go_wp2
    go_ret
    exact ⟨ret_int (by simp [icmp, h1]), rfl⟩
  · by_cases h2 : b < a
    · go_wp2
      go_ret
      exact ⟨ret_int (by simp [icmp, h1, h2]), rfl⟩
    · go_wp2
      go_ret
      exact ⟨ret_int (by unfold icmp; rw [if_neg (by omega), if_neg (by omega)]), rfl⟩
set_option maxHeartbeats 2000000 in
set_option maxRecDepth 100000 in
theorem find1_any (id : Int) (x0 x1 x2 : Int) (x3 x4 : Bool) (w : World) :
    Calls Try.prog 26 #[.agg #[.int .i64 x0, .int .i64 x1, .int .i64 x2, .bool x3, .bool x4], .int .i64 id] w fun e w' => e = .returned (.int .i64 (icmp x0 id)) ∧ Below w.heap.size w w' := by
  go_enter Try.func26, Try.ntmps26
  go_wp2_with fail
  refine (compare_any _ _ _).mono ?_; rintro e w1 ⟨rfl, rfl⟩
  go_wp2
  go_ret
  exact ⟨rfl, (by (repeat (first | (with_reducible exact Below.refl _ _) | apply below_alloc _ (Nat.le_refl _) | refine below_set ?_ (by first | exact Nat.le_refl _ | omega) | apply below_drewN | refine below_step ?_ HB)))⟩
/-- How many stand ahead of an id. -/
theorem cut_next {l : List Tx} (h : l.Pairwise two) {m : Nat} {x : Tx} (hx : l[m]? = some x) (id : Int) (hlt : x.id < id) : ∀ k y, k < m + 1 → l[k]? = some y → y.id < id := fun k y hk hy => by
  by_cases e : k = m
  · subst e; rw [hx] at hy; cases hy; exact hlt
  · have := (sorted_get h hy hx (by omega)).1; omega
theorem cut_prev {l : List Tx} (h : l.Pairwise two) {m : Nat} {x : Tx} (hx : l[m]? = some x) (id : Int) (hge : id ≤ x.id) : ∀ k y, m ≤ k → l[k]? = some y → id ≤ y.id := fun k y hk hy => by
  by_cases e : k = m
  · subst e; rw [hx] at hy; cases hy; exact hge
  · have := (sorted_get h hx hy (by omega)).1; omega
set_option maxHeartbeats 4000000 in
set_option maxRecDepth 100000 in
/-- Where an id would stand. -/
theorem search_any (A : Option Addr) (c : Nat) (l : List Tx) (id : Int) (w : World) (HR : RowE encT 5 w A l) (hs : l.Pairwise two) (hl : l.length ≤ 1000) :
    Calls Try.prog 25 #[.slice A l.length c, .int .i64 id, .func (.func 26) #[] #[]] w fun e w' => ∃ i : Nat, ∃ ok : Bool, e = .returned (.tuple #[.int .i64 i, .bool ok]) ∧ (ok = true → ∃ x, l[i]? = some x ∧ x.id = id) ∧ (ok = false → ∀ x ∈ l, x.id ≠ id) ∧ Below w.heap.size w w' := by
  have eg : ∀ args w, (callFunc 26 args).run Try.prog w = .ok (.enter 26 args) w := enters_of Try.func26 (by kernel_rfl) rfl
  have HR' := Lib.hid HR
  have HS := Lib.hid hs
  clear HR hs
  go_enter Try.func25, Try.ntmps25
  go_wp2
  go_loopw [9, 10] (fun s9 s10 wr => ∃ lo hi : Nat, s9 = .int .i64 lo ∧ s10 = .int .i64 hi ∧ lo ≤ hi ∧ hi ≤ l.length ∧ Hid ((∀ k y, k < lo → l[k]? = some y → y.id < id) ∧ (∀ k y, hi ≤ k → l[k]? = some y → id ≤ y.id)) ∧ Below w.heap.size w wr) (fun s9 s10 _ => (Lib.intOf s10).toNat - (Lib.intOf s9).toNat)
  case atStart => exact ⟨0, l.length, rfl, rfl, Nat.zero_le _, Nat.le_refl _, Lib.hid ⟨fun k y h => absurd h (Nat.not_lt_zero _), fun k y h h2 => absurd (lt_of_get h2) (by omega)⟩, Below.refl _ _⟩
  case round =>
    obtain ⟨lo, hi, rfl, rfl, hlh, hin, HE, hbel⟩ := hrel
    by_cases hlt : lo < hi
    · obtain ⟨x, hx⟩ : ∃ x, l[(lo + hi) / 2]? = some x := ⟨_, List.getElem?_eq_getElem (by omega)⟩
      obtain ⟨b0, off, rfl, hb0, g0, g1, g2, g3, g4⟩ := HR'.out.five (B := 0) hx hbel
      obtain ⟨y0, y1, y2, y3, y4⟩ := x
      dsimp only at g0 g1 g2 g3 g4
      have hc := find1_any id y0 y1 y2 y3 y4 wr
      have HX := Lib.hid hx
      clear hx
      by_cases q : y0 < id
      · have ei : icmp y0 id = -1 := by unfold icmp; rw [if_pos q]
        rw [ei] at hc
        go_wp2_with (go_at_fn 26; refine hc.mono ?_; rintro e w2 ⟨rfl, h2⟩)
        go_roundw
        case rel => exact ⟨(lo + hi) / 2 + 1, hi, by rw [show ((lo : Int) + (hi : Int)) / 2 + 1 = (((lo + hi) / 2 + 1 : Nat) : Int) by omega], rfl, by omega, hin, Lib.hid ⟨cut_next HS.out HX.out id q, HE.out.2⟩, below_step' hbel h2⟩
        case measure => simp [Lib.intOf]; omega
      · have ei : ¬ icmp y0 id < 0 := by unfold icmp; rw [if_neg q]; split <;> omega
        generalize icmp y0 id = ic at *
        go_wp2_with (go_at_fn 26; refine hc.mono ?_; rintro e w2 ⟨rfl, h2⟩)
        go_roundw
        case rel => exact ⟨lo, (lo + hi) / 2, rfl, by rw [show ((lo : Int) + (hi : Int)) / 2 = (((lo + hi) / 2 : Nat) : Int) by omega], by omega, by omega, Lib.hid ⟨HE.out.1, cut_prev HS.out HX.out id (by omega)⟩, below_step' hbel h2⟩
        case measure => simp [Lib.intOf]; omega
    · obtain rfl : hi = lo := by omega
      have NO : Hid ((∀ x, l[hi]? = some x → x.id ≠ id) → ∀ x ∈ l, x.id ≠ id) := Lib.hid (fun h x hx => by
        obtain ⟨k, hk⟩ := List.mem_iff_getElem?.1 hx
        by_cases e : k = hi
        · subst e; exact h x hk
        · by_cases e2 : k < hi
          · have := HE.out.1 k x e2 hk; omega
          · have h3 := HE.out.2 hi
            have hlt : hi < l.length := by have := lt_of_get hk; omega
            have h4 := h3 l[hi] (Nat.le_refl _) (List.getElem?_eq_getElem hlt)
            have h5 := (sorted_get HS.out (List.getElem?_eq_getElem hlt) hk (by omega)).1
            omega)
      by_cases hn : hi < l.length
      · obtain ⟨x, hx⟩ : ∃ x, l[hi]? = some x := ⟨_, List.getElem?_eq_getElem hn⟩
        obtain ⟨b0, off, rfl, hb0, g0, g1, g2, g3, g4⟩ := HR'.out.five (B := 0) hx hbel
        have HX := Lib.hid hx
        have HG := Lib.hid (HE.out.2 hi x (Nat.le_refl _) hx)
        clear hx HE
        obtain ⟨y0, y1, y2, y3, y4⟩ := x
        dsimp only at g0 g1 g2 g3 g4
        have hc := find1_any id y0 y1 y2 y3 y4 wr
        by_cases q : id = y0
        · subst q
          have ei : icmp id id = 0 := by unfold icmp; rw [if_neg (by omega), if_neg (by omega)]
          rw [ei] at hc
          go_wp2_with (go_at_fn 26; refine hc.mono ?_; rintro e w2 ⟨rfl, h2⟩)
          exact bodyPost_ret (v := .tuple #[.int .i64 hi, .bool true]) (by simp [results, Try.results25, go_sem]) rfl ⟨hi, true, rfl, fun _ => ⟨_, HX.out, rfl⟩, fun h => (by cases h), below_step' hbel h2⟩
        · have ei : ¬ icmp y0 id = 0 := by unfold icmp; split <;> (try split) <;> omega
          generalize icmp y0 id = ic at *
          go_wp2_with (go_at_fn 26; refine hc.mono ?_; rintro e w2 ⟨rfl, h2⟩)
          refine bodyPost_ret (v := .tuple #[.int .i64 hi, .bool (ic == 0)]) (by simp [results, Try.results25, go_sem]) rfl ⟨hi, _, rfl, fun h => absurd (by simpa using h) ei, fun _ => NO.out (fun x hx => ?_), below_step' hbel h2⟩
          rw [HX.out] at hx; cases hx; exact fun e => q e.symm
      · go_wp2
        exact bodyPost_ret (v := .tuple #[.int .i64 hi, .bool false]) (by simp [results, Try.results25, go_sem]) rfl ⟨hi, false, rfl, fun h => (by cases h), fun _ => NO.out (fun x hx => absurd (lt_of_get hx) hn), hbel⟩
end Go.Proofs.Ytdajginkipaghaa
