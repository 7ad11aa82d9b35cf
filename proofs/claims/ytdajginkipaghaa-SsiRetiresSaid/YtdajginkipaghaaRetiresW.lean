/- The law SsiRetires: its walk. -/
import Derived.Test.YtdajginkipaghaaAliveW
import Derived.Test.YtdajginkipaghaaSsiP
namespace Go.Proofs.Ytdajginkipaghaa
open Go.RowKit
open Go.Shelf
set_option linter.unusedVariables false
set_option linter.unusedSimpArgs false
/-- A transaction's variable. -/
def Box5 (w : World) (b : Nat) (x : Tx) : Prop := ∃ T, w.heap[b]? = some (.cells #[.int .i64 x.id, .int .i64 x.st, .int .i64 x.en, .bool x.inn, .bool x.out] T (0, 0))
abbrev put5 (w : World) (b : Nat) (x : Tx) : World := ((((w.setCell ⟨b, 0, none⟩ (.int .i64 x.id)).setCell ⟨b, 1, none⟩ (.int .i64 x.st)).setCell ⟨b, 2, none⟩ (.int .i64 x.en)).setCell ⟨b, 3, none⟩ (.bool x.inn)).setCell ⟨b, 4, none⟩ (.bool x.out)
theorem Box5.out {w : World} {b : Nat} {x : Tx} (h : Box5 w b x) : (w.cell? ⟨b, 0, none⟩ = some (.int .i64 x.id) ∧ w.cell? ⟨b, 1, none⟩ = some (.int .i64 x.st) ∧ w.cell? ⟨b, 2, none⟩ = some (.int .i64 x.en) ∧ w.cell? ⟨b, 3, none⟩ = some (.bool x.inn) ∧ w.cell? ⟨b, 4, none⟩ = some (.bool x.out)) ∧ (w.frozen? ⟨b, 0, none⟩ = false ∧ w.frozen? ⟨b, 1, none⟩ = false ∧ w.frozen? ⟨b, 2, none⟩ = false ∧ w.frozen? ⟨b, 3, none⟩ = false ∧ w.frozen? ⟨b, 4, none⟩ = false) ∧ b < w.heap.size := by
  obtain ⟨T, h⟩ := h
  refine ⟨?_, ?_, (Array.getElem?_eq_some_iff.1 h).1⟩
  · simp [World.cell?, h]
  · simp [World.frozen?, h]
theorem Box5.put {w : World} {b : Nat} {x : Tx} (h : Box5 w b x) (y : Tx) : Box5 (put5 w b y) b y := by
  obtain ⟨T, h⟩ := h
  have h0 := heap_setCell_same w b 0 _ T (.int .i64 y.id) h
  have h1 := heap_setCell_same _ b 1 _ T (.int .i64 y.st) h0
  have h2 := heap_setCell_same _ b 2 _ T (.int .i64 y.en) h1
  have h3 := heap_setCell_same _ b 3 _ T (.bool y.inn) h2
  have h4 := heap_setCell_same _ b 4 _ T (.bool y.out) h3
  exact ⟨T, h4⟩
theorem Box5.new (w : World) (x : Tx) (T : TypeId) : Box5 (w.alloc (.cells #[.int .i64 x.id, .int .i64 x.st, .int .i64 x.en, .bool x.inn, .bool x.out] T)) w.heap.size x := ⟨T, heap_alloc_new w _⟩
theorem Box5.alloc {w : World} {b : Nat} {x : Tx} (h : Box5 w b x) (o : Obj) : Box5 (w.alloc o) b x := by
  have hl := h.out.2.2
  obtain ⟨T, h⟩ := h
  exact ⟨T, heap_old w o hl h⟩
theorem put5_below {N : Nat} {w0 w : World} {b : Nat} (h : Below N w0 w) (hb : N ≤ b) (x : Tx) : Below N w0 (put5 w b x) := Below.setCell (Below.setCell (Below.setCell (Below.setCell (Below.setCell h hb _) hb _) hb _) hb _) hb _
/-- Whom a retired number means. -/
theorem retired_is {s : St} (c : s.chk = 0) {n z : Int} {j : Nat} (hz : ((s.l.filter (gone n)).map (·.id))[j]? = some z) {i : Nat} {x : Tx} (hx : s.l[i]? = some x) (hid : x.id = z) : gone n x = true := by
  rw [List.getElem?_map] at hz
  obtain ⟨t, ht, rfl⟩ := Option.map_eq_some_iff.1 hz
  have hm := List.mem_filter.1 (List.mem_of_getElem? ht)
  obtain ⟨k, hk⟩ := mem_get hm.1
  obtain ⟨_, rfl⟩ := same_place (chk_sorted c) hx hk hid
  exact hm.2
theorem retired_in {s : St} {n z : Int} {j : Nat} (hz : ((s.l.filter (gone n)).map (·.id))[j]? = some z) : ∃ (i : Nat) (x : Tx), s.l[i]? = some x ∧ x.id = z := by
  rw [List.getElem?_map] at hz
  obtain ⟨t, ht, rfl⟩ := Option.map_eq_some_iff.1 hz
  obtain ⟨k, hk⟩ := mem_get (List.mem_filter.1 (List.mem_of_getElem? ht)).1
  exact ⟨k, t, hk, rfl⟩
theorem gone_en {n : Int} {x : Tx} (h : gone n x = true) : x.en ≠ 0 ∧ (0 < x.en → x.en ≤ n) := by
  unfold gone at h
  simp at h
  omega
set_option maxHeartbeats 4000000 in
set_option maxRecDepth 100000 in
theorem retires_any (A : Option Addr) (c : Nat) (s : St) (w : World) (HR : RowE encT 5 w A s.l) (hl : s.l.length * 32 ≤ 140737488355328) :
    Calls Try.prog 5 #[.agg #[.slice A s.l.length c, .int .i64 s.clk, .int .i64 s.nxt]] w fun e w' => e = .returned (.bool true) ∧ Below w.heap.size w w' := by
  have HB := Box3.new w (.slice A s.l.length c) (.int .i64 s.clk) (.int .i64 s.nxt) 46
  have ba : Below w.heap.size w (w.alloc (.cells #[.slice A s.l.length c, .int .i64 s.clk, .int .i64 s.nxt] 46)) := (by (repeat (first | (with_reducible exact Below.refl _ _) | apply below_alloc _ (Nat.le_refl _) | refine below_set ?_ (by first | exact Nat.le_refl _ | omega) | apply below_drewN | refine below_step ?_ HB)))
  have hal := alive_any (w.alloc (.cells #[.slice A s.l.length c, .int .i64 s.clk, .int .i64 s.nxt] 46))
  have HR0 := Lib.hid (HR.below ba)
  clear HR
  go_enter Try.func5, Try.ntmps5
  go_wp2_with fail
  refine hal.mono ?_; rintro e w1 ⟨rfl, h1⟩
  have hB1 := HB.below h1 HB.lt
  have HR1 := Lib.hid (HR0.out.below h1)
  have HF1 := ba.trans (h1.mono (by simp))
  have hof := of_any A c s w1 HR1.out hl
  have HB1 := Lib.hid hB1
  obtain ⟨c00, c01, c02, f00, f01, f02, l0⟩ := hB1
  clear hal h1 HR0 HB ba
  go_wp2_with fail
  refine hof.mono ?_; rintro e w2 ⟨v0, rfl, hv0, h2⟩
  obtain ⟨A0, c0, rfl, hr0, hn0, _, _⟩ := hv0.out
  clear c00 c01 c02 f00 f01 f02 hof hv0
  have HB2 := Lib.hid (HB1.out.below h2 l0)
  have HR2 := Lib.hid (HR1.out.below h2)
  have HF2 := HF1.trans (h2.mono (by omega))
  have hre := retire_any A0 c0 s w2 hr0 hn0 (by omega)
  clear HB1 HF1 h2 hr0 hn0 l0 HR1
  go_wp2_with fail
  refine hre.mono ?_; rintro e w3 ⟨v1, u1, rfl, hv1, hu1, h3⟩
  have HB3 := HB2.out.below h3 HB2.out.lt
  have HR3 := Lib.hid (HR2.out.below h3)
  have HF3 := HF2.trans (h3.mono (by have := HF2.size; omega))
  have z3 := HF3.size
  clear hre h3 HB2 HF2 HR2
  by_cases hck : s.chk = 0
  · rw [retire_ok hck] at hv1 hu1 ⊢
    dsimp only at hv1 hu1 ⊢
    have HZ : Hid (∀ (j : Nat) z, ((s.l.filter (gone (hor s.clk s.l))).map (·.id))[j]? = some z → (∃ (i : Nat) (x : Tx), s.l[i]? = some x ∧ x.id = z) ∧ ∀ (i : Nat) (x : Tx), s.l[i]? = some x → x.id = z → x.en ≠ 0 ∧ (0 < x.en → ∀ (k : Nat) (y : Tx), s.l[k]? = some y → y.en = 0 → x.en ≤ y.st)) := Lib.hid (fun j z hz => ⟨retired_in hz, fun i x hx hid => by
      have hg := gone_en (retired_is hck hz hx hid)
      exact ⟨hg.1, fun h k y hy h0 => Int.le_trans (hg.2 h) ((hor_le s.l s.clk).2 y (List.mem_of_getElem? hy) h0)⟩⟩)
    have HN : Hid ((s.l.filter (fun t => !gone (hor s.clk s.l) t)).length + ((s.l.filter (gone (hor s.clk s.l))).map (·.id)).length = s.l.length) := Lib.hid (by rw [List.length_map]; exact filter_two _ _)
    have hzl : ((s.l.filter (gone (hor s.clk s.l))).map (·.id)).length ≤ 64 := by rw [List.length_map]; exact Nat.le_trans (List.length_filter_le _ _) (chk_len hck)
    have hll := chk_len hck
    generalize s.l.filter (fun t => !gone (hor s.clk s.l) t) = F at *
    generalize (s.l.filter (gone (hor s.clk s.l))).map (·.id) = Z at *
    obtain ⟨A1, c1, rfl, _, _, _, _⟩ := hv1.out
    obtain ⟨Au, cu, rfl, _, hru, _, _⟩ := hu1
    obtain ⟨l, clk, nxt⟩ := s
    dsimp only at *
    have HU := Lib.hid hru
    have W3 : Below w3.heap.size w3 (w3.alloc (.cells #[.slice A1 F.length c1, .int .i64 clk, .int .i64 nxt] 26)) := (Below.refl _ _).alloc (Nat.le_refl _) _
    clear hv1 hru hck
    have HF := HF3.alloc z3 (.cells #[.slice A1 F.length c1, .int .i64 clk, .int .i64 nxt] 26)
    have BT := Box3.new w3 (.slice A1 F.length c1) (.int .i64 clk) (.int .i64 nxt) 26
    have BS := Lib.hid (HB3.alloc (.cells #[.slice A1 F.length c1, .int .i64 clk, .int .i64 nxt] 26))
    have BT' := Lib.hid BT
    have RS := Lib.hid (HR3.out.below W3)
    have RU := Lib.hid (HU.out.below W3)
    have zz : w.heap.size < w3.heap.size := HB3.lt
    clear HR3 HU HB3 HF3 BT
    go_wp2_with (first | (refine (num_any _ _).mono ?_; rintro e wn ⟨rfl, rfl⟩) | fail)
    generalize hW : w3.alloc (.cells #[.slice A1 F.length c1, .int .i64 clk, .int .i64 nxt] 26) = w4 at *
    have z4 : w3.heap.size < w4.heap.size := BT'.out.lt
    clear hW W3
    go_loopw [6] (fun i wr => ∃ j : Nat, j ≤ Z.length ∧ i = .int .i64 j ∧ Below w4.heap.size w4 wr) (fun i _ => Z.length - (Lib.intOf i).toNat)
    case atStart => exact ⟨0, Nat.zero_le _, rfl, Below.refl _ _⟩
    case round =>
      obtain ⟨j, hj, rfl, hbel⟩ := hrel
      by_cases hlt : j < Z.length
      · obtain ⟨z, hz⟩ : ∃ z, Z[j]? = some z := ⟨_, List.getElem?_eq_getElem hlt⟩
        obtain ⟨bu, ou, rfl, hbu, hcu⟩ := RU.out j z hz
        have hg := (hbel.cell (p := ⟨bu, _, none⟩) hbu).trans (hcu j z hz 0 _ rfl)
        have ZX := Lib.hid (HZ.out j z hz)
        have BX := Lib.hid (Box5.new wr ⟨0, 0, 0, false, false⟩ 50)
        have HX : Below w4.heap.size w4 (wr.alloc (.cells #[.int .i64 0, .int .i64 0, .int .i64 0, .bool false, .bool false] 50)) := hbel.alloc hbel.size _
        have hwz := hbel.size
        have GK : Hid (∀ w', Below w4.heap.size w4 w' → w'.cell? ⟨bu, ou + j, none⟩ = some (.int .i64 z)) := Lib.hid (fun w' h => by
          have := (h.cell (p := ⟨bu, _, none⟩) hbu).trans (hcu j z hz 0 _ rfl)
          simpa using this)
        clear hz hcu hg
        go_wp2_with fail
        generalize hB7 : wr.heap.size = B7 at *
        generalize hWX : wr.alloc (.cells #[.int .i64 0, .int .i64 0, .int .i64 0, .bool false, .bool false] 50) = wX at *
        clear hB7 hWX
        go_loopw [8] (fun i8 wq => ∃ m : Nat, m ≤ l.length ∧ i8 = .int .i64 m ∧ Below w4.heap.size w4 wq ∧ ∃ x : Tx, Hid (Box5 wq B7 x) ∧ Hid ((∃ (p : Nat), p < m ∧ l[p]? = some x ∧ x.id = z) ∨ (∀ (p : Nat) (y : Tx), p < m → l[p]? = some y → y.id ≠ z))) (fun i8 _ => l.length - (Lib.intOf i8).toNat)
        case atStart => exact ⟨0, Nat.zero_le _, rfl, HX, _, BX, Lib.hid (.inr (fun p y h => absurd h (Nat.not_lt_zero _)))⟩
        case round =>
          obtain ⟨m, hm, rfl, hbq, x, HBX, HP⟩ := hrel
          have hgq := GK.out _ hbq
          by_cases hlm : m < l.length
          · obtain ⟨y, hy⟩ : ∃ y, l[m]? = some y := ⟨_, List.getElem?_eq_getElem hlm⟩
            obtain ⟨b0, off, rfl, hb0, g0, g1, g2, g3, g4⟩ := RS.out.five (B := 0) hy hbq
            obtain ⟨⟨t0, t1, t2, t3, t4⟩, ⟨e0, e1, e2, e3, e4⟩, _⟩ := HBX.out.out
            obtain ⟨s0, s1, s2, _, _, _, _⟩ := BS.out.below hbq BS.out.lt
            have HY := Lib.hid hy
            have HPUT := Lib.hid (HBX.out.put y)
            clear hy
            obtain ⟨yid, yst, yen, yin, yout⟩ := y
            dsimp only at g0 g1 g2 g3 g4
            by_cases q : yid = z
            · subst q
              go_wp2_with fail
              go_quiet (fail)
              go_wp2
              go_roundw
              case rel => exact ⟨m + 1, by omega, by go_num, put5_below (x := ⟨yid, yst, yen, yin, yout⟩) (b := B7) (below_drewN' hbq _) hwz, ⟨yid, yst, yen, yin, yout⟩, Lib.hid HPUT.out, Lib.hid (.inl ⟨m, by omega, HY.out, rfl⟩)⟩
              case measure => simp [Lib.intOf]; omega
            · have q' : (yid == z) = false := by simpa using q
              go_wp2_with fail
              go_quiet (fail)
              go_wp2
              go_roundw
              case rel =>
                refine ⟨m + 1, by omega, by go_num, below_drewN' hbq _, x, Lib.hid HBX.out, Lib.hid ?_⟩
                rcases HP.out with ⟨p, hp, hx, hid⟩ | hno
                · exact .inl ⟨p, by omega, hx, hid⟩
                · refine .inr (fun p y hp hy => ?_)
                  by_cases e : p = m
                  · subst e; rw [HY.out] at hy; cases hy; exact q
                  · exact hno p y (by omega) hy
              case measure => simp [Lib.intOf]; omega
          · obtain rfl : m = l.length := by omega
            have XX : Hid (x.en ≠ 0 ∧ (0 < x.en → ∀ (k : Nat) (y : Tx), l[k]? = some y → y.en = 0 → x.en ≤ y.st)) := Lib.hid (by
              rcases HP.out with ⟨p, _, hp, hid⟩ | hno
              · exact ZX.out.2 p x hp hid
              · obtain ⟨i, x', hx', hid'⟩ := ZX.out.1
                exact absurd hid' (hno i x' (lt_of_get hx') hx'))
            clear HP ZX hgq GK
            obtain ⟨s0, s1, s2, _, _, _, _⟩ := BS.out.below hbq BS.out.lt
            go_wp2_with fail
            go_loopw [9] (fun i9 wp => ∃ m : Nat, m ≤ l.length ∧ i9 = .int .i64 m ∧ Below w4.heap.size w4 wp ∧ Hid (Box5 wp B7 x)) (fun i9 _ => l.length - (Lib.intOf i9).toNat)
            case atStart => exact ⟨0, Nat.zero_le _, rfl, hbq, HBX⟩
            case round =>
              clear s0 s1 s2 hbq HBX
              obtain ⟨m, hm, rfl, hbp, HBX⟩ := hrel
              obtain ⟨s0, s1, s2, _, _, _, _⟩ := BS.out.below hbp BS.out.lt
              by_cases hlm : m < l.length
              · obtain ⟨y, hy⟩ : ∃ y, l[m]? = some y := ⟨_, List.getElem?_eq_getElem hlm⟩
                obtain ⟨b0, off, rfl, hb0, g0, g1, g2, g3, g4⟩ := RS.out.five (B := 0) hy hbp
                obtain ⟨⟨t0, t1, t2, t3, t4⟩, _, _⟩ := HBX.out.out
                have hx0 := XX.out.1
                have hx1 := XX.out.2
                have hx2 : 0 < x.en → y.en = 0 → x.en ≤ y.st := fun h1 h2 => hx1 h1 m y hy h2
                have HX2 := Lib.hid hx2
                clear hx1 hx2 hy
                have xe0 : (x.en == 0) = false := by simpa using hx0
                clear hx0
                by_cases xp : 0 < x.en
                · cases ye : (y.en == 0) with
                  | true =>
                    have hst : decide (y.st < x.en) = false := decide_eq_false (by have := HX2.out xp (by simpa using ye); omega)
                    clear HX2
                    go_wp2_with fail
                    go_quiet (fail)
                    go_wp2
                    go_roundw
                    case rel => exact ⟨m + 1, by omega, by go_num, below_drewN' hbp _, Lib.hid HBX.out⟩
                    case measure => simp [Lib.intOf]; omega
                  | false =>
                    clear HX2
                    go_wp2_with fail
                    go_quiet (fail)
                    go_wp2
                    go_roundw
                    case rel => exact ⟨m + 1, by omega, by go_num, below_drewN' hbp _, Lib.hid HBX.out⟩
                    case measure => simp [Lib.intOf]; omega
                · have xp' : decide (0 < x.en) = false := decide_eq_false xp
                  clear HX2 xp
                  go_wp2_with fail
                  go_quiet (fail)
                  go_wp2
                  go_roundw
                  case rel => exact ⟨m + 1, by omega, by go_num, below_drewN' hbp _, Lib.hid HBX.out⟩
                  case measure => simp [Lib.intOf]; omega
              · obtain rfl : m = l.length := by omega
                go_wp2
                go_roundw
                case rel => exact ⟨j + 1, by omega, by go_num, hbp⟩
                case measure => simp [Lib.intOf]; omega
      · obtain rfl : j = Z.length := by omega
        obtain ⟨s0, s1, s2, _, _, _, _⟩ := BS.out.below hbel BS.out.lt
        obtain ⟨t0, t1, t2, _, _, _, _⟩ := BT'.out.below hbel BT'.out.lt
        have hN := HN.out
        go_wp2
        go_ret
        exact ⟨ret_bool (by simp; omega), HF.trans (hbel.mono HF.size)⟩
  · rw [retire_bad hck] at hv1 hu1 ⊢
    dsimp only at hv1 hu1 ⊢
    obtain ⟨A1, c1, rfl, _, _, _, _⟩ := hv1.out
    obtain ⟨Au, cu, rfl, _, hru, _, _⟩ := hu1
    generalize s.chk = er at *
    have he' : (er == 0) = false := by simpa using hck
    clear hv1 hru
    go_wp2_with (refine (num_any _ _).mono ?_; rintro e wn ⟨rfl, rfl⟩)
    go_ret
    exact ⟨rfl, HF3.alloc z3 _⟩
end Go.Proofs.Ytdajginkipaghaa
