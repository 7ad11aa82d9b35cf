/- The law SsiOthers: its walk. -/
import Derived.Test.YtdajginkipaghaaAliveW
import Derived.Test.YtdajginkipaghaaSsiP
import Derived.Laws.StructEq
namespace Go.Proofs.Ytdajginkipaghaa
open Go.RowKit
open Go.Shelf
set_option linter.unusedVariables false
set_option linter.unusedSimpArgs false
def sameTB (x0 x1 x2 : Int) (x3 x4 : Bool) (y0 y1 y2 : Int) (y3 y4 : Bool) : Bool := x0 == y0 && (x1 == y1 && (x2 == y2 && (x3 == y3 && x4 == y4)))
theorem eqTx (d : Nat) (w : World) (x0 y0 x1 y1 x2 y2 : Int) (x3 y3 x4 y4 : Bool) :
    (Op.equalIn (d + 2) 50 (.agg #[.int .i64 x0, .int .i64 x1, .int .i64 x2, .bool x3, .bool x4]) (.agg #[.int .i64 y0, .int .i64 y1, .int .i64 y2, .bool y3, .bool y4])).run Try.prog w = .ok (sameTB x0 x1 x2 x3 x4 y0 y1 y2 y3 y4) w := by
  refine eqA_of Try.underlying50 (by kernel_rfl) ?_
  refine eqf_cons (by rfl) (by go_simp; rfl) (by go_simp; rfl) (by go_simp) ?_
  refine eqf_cons (by rfl) (by go_simp; rfl) (by go_simp; rfl) (by go_simp) ?_
  refine eqf_cons (by rfl) (by go_simp; rfl) (by go_simp; rfl) (by go_simp) ?_
  refine eqf_cons (by rfl) (by go_simp; rfl) (by go_simp; rfl) (by go_simp) ?_
  exact eqf_last (by rfl) (by go_simp; rfl) (by go_simp; rfl) (by go_simp)
/-- What a state owes that one has ended in. -/
def Ends (s t : St) (id : Int) : Prop := t.l.length = s.l.length ∧ t.nxt = s.nxt ∧ (∀ (i : Nat) (x : Tx), s.l[i]? = some x → x.id ≠ id → t.l[i]? = some x) ∧ (commitR t id).2.2 = 9 ∧ (abortR t id).2 = 9
theorem ended_no {t : St} {id : Int} {i : Nat} {x : Tx} (hx : t.l[i]? = some x) (hid : x.id = id) (he : x.en ≠ 0) : (commitR t id).2.2 = 9 ∧ (abortR t id).2 = 9 := by
  rcases chk_or' t with c | c
  · have ha : at? id t.l = some (i, x) := by rw [← hid]; exact at_of (chk_sorted c) hx
    unfold commitR abortR
    rw [if_neg (by simpa using c), if_neg (by simpa using c), ha]
    dsimp only
    rw [if_pos he, if_pos he]
    exact ⟨rfl, rfl⟩
  · unfold commitR abortR
    rw [if_pos (by rw [c]; decide), if_pos (by rw [c]; decide)]
    exact ⟨c, c⟩
theorem set_ends {s : St} {id c : Int} {i : Nat} {x y : Tx} (ha : at? id s.l = some (i, x)) (hid : y.id = x.id) (he : y.en ≠ 0) : Ends s ⟨s.l.set i y, c, s.nxt⟩ id := by
  have hx := at_some ha
  have hil := lt_of_get hx.1
  refine ⟨by simp, rfl, fun k z hk hz => ?_, ?_⟩
  · dsimp only
    rw [List.getElem?_set_ne (fun h => by subst h; rw [hx.1] at hk; cases hk; exact hz hx.2)]
    exact hk
  · exact ended_no (i := i) (x := y) (by dsimp only; rw [List.getElem?_set_self hil]) (hid.trans hx.2) he
theorem commit_ends {s : St} {id : Int} (h : (commitR s id).2.2 = 0) : Ends s (commitR s id).1 id := by
  obtain ⟨c, hc, i, x, ha, he, hq, e⟩ := commit_ok h
  have k := (chk_iff _ _ _).1 c
  rw [e]
  exact set_ends (y := x.ends (s.clk + 1)) ha rfl (by simp [Tx.ends]; omega)
theorem abort_ends {s : St} {id : Int} (h : (abortR s id).2 = 0) : Ends s (abortR s id).1 id := by
  obtain ⟨c, i, x, ha, he, e⟩ := abort_ok h
  rw [e]
  exact set_ends (y := x.ends (-1)) ha rfl (by simp [Tx.ends])
attribute [local go_sem high] eqTx
set_option maxHeartbeats 4000000 in
set_option maxRecDepth 100000 in
theorem others_any (A : Option Addr) (c : Nat) (s : St) (id : Int) (w : World) (HR : RowE encT 5 w A s.l) (hl : s.l.length * 32 ≤ 140737488355328) :
    Calls Try.prog 4 #[.agg #[.slice A s.l.length c, .int .i64 s.clk, .int .i64 s.nxt], .int .i64 id] w fun e w' => e = .returned (.bool true) ∧ Below w.heap.size w w' := by
  have HB := Box3.new w (.slice A s.l.length c) (.int .i64 s.clk) (.int .i64 s.nxt) 46
  have ba : Below w.heap.size w (w.alloc (.cells #[.slice A s.l.length c, .int .i64 s.clk, .int .i64 s.nxt] 46)) := (by (repeat (first | (with_reducible exact Below.refl _ _) | apply below_alloc _ (Nat.le_refl _) | refine below_set ?_ (by first | exact Nat.le_refl _ | omega) | apply below_drewN | refine below_step ?_ HB)))
  have hal := alive_any (w.alloc (.cells #[.slice A s.l.length c, .int .i64 s.clk, .int .i64 s.nxt] 46))
  have HR0 := Lib.hid (HR.below ba)
  clear HR
  go_enter Try.func4, Try.ntmps4
  go_wp2_with fail
  refine hal.mono ?_; rintro e w1 ⟨rfl, h1⟩
  have hB1 := HB.below h1 HB.lt
  have HR1 := Lib.hid (HR0.out.below h1)
  have HF1 := ba.trans (h1.mono (by simp))
  have hof := of_any A c s w1 HR1.out hl
  have HB1 := Lib.hid hB1
  obtain ⟨c00, c01, c02, f00, f01, f02, l0⟩ := hB1
  clear hal h1 HR0 HB ba
  go_wp2_with fail
  refine hof.mono ?_; rintro e w2 ⟨v0, rfl, hv0, h2⟩
  obtain ⟨A0, c0, rfl, hr0, hn0, _, _⟩ := hv0.out
  clear c00 c01 c02 f00 f01 f02 hof hv0
  have HB2 := Lib.hid (HB1.out.below h2 l0)
  have HR2 := Lib.hid (HR1.out.below h2)
  have HF2 := HF1.trans (h2.mono (by omega))
  have hcm := commit_any A0 c0 s id w2 hr0 hn0 (by omega)
  have EC : Hid ((commitR s id).2.2 = 0 → Ends s (commitR s id).1 id) := Lib.hid commit_ends
  generalize (commitR s id).2.2 = e3 at *
  generalize (commitR s id).2.1 = k3 at *
  generalize (commitR s id).1 = S3 at *
  clear HB1 HF1 h2 hr0 hn0 l0 HR1
  go_wp2_with fail
  refine hcm.mono ?_; rintro e w3 ⟨v3, rfl, hv3, h3⟩
  obtain ⟨A3, c3, rfl, hr3, hn3, _, hlc3⟩ := hv3.out
  have W3 : Below w3.heap.size w3 (w3.alloc (.cells #[.slice A3 S3.l.length c3, .int .i64 S3.clk, .int .i64 S3.nxt] 26)) := (Below.refl _ _).alloc (Nat.le_refl _) _
  have hB3 := (HB2.out.below h3 HB2.out.lt).alloc (.cells #[.slice A3 S3.l.length c3, .int .i64 S3.clk, .int .i64 S3.nxt] 26)
  have HR3 := Lib.hid ((HR2.out.below h3).below W3)
  have HF3 := (HF2.trans (h3.mono HF2.size)).alloc (HF2.trans (h3.mono HF2.size)).size (.cells #[.slice A3 S3.l.length c3, .int .i64 S3.clk, .int .i64 S3.nxt] 26)
  have BC := Lib.hid (Box3.new w3 (.slice A3 S3.l.length c3) (.int .i64 S3.clk) (.int .i64 S3.nxt) 26)
  have RC := Lib.hid (hr3.below W3)
  have hof := of_any A c s _ HR3.out hl
  have HB3 := Lib.hid hB3
  obtain ⟨c00, c01, c02, f00, f01, f02, l0⟩ := hB3
  clear hcm hv3 hr3 h3 W3 HB2 HR2 HF2
  go_wp2_with fail
  refine hof.mono ?_; rintro e w4 ⟨v4, rfl, hv4, h4⟩
  obtain ⟨A4, c4, rfl, hr4, hn4, _, _⟩ := hv4.out
  clear c00 c01 c02 f00 f01 f02 hof hv4
  have HB4 := Lib.hid (HB3.out.below h4 l0)
  have HR4 := Lib.hid (HR3.out.below h4)
  have BC4 := Lib.hid (BC.out.below h4 BC.out.lt)
  have RC4 := Lib.hid (RC.out.below h4)
  have HF4 := HF3.trans (h4.mono HF3.size)
  have hab := abort_any A4 c4 s id w4 hr4 hn4 (by omega)
  have EA : Hid ((abortR s id).2 = 0 → Ends s (abortR s id).1 id) := Lib.hid abort_ends
  generalize (abortR s id).2 = e5 at *
  generalize (abortR s id).1 = S5 at *
  clear HB3 HR3 BC RC HF3 h4 hr4 hn4 l0
  go_wp2_with fail
  refine hab.mono ?_; rintro e w5 ⟨v5, rfl, hv5, h5⟩
  obtain ⟨A5, c5, rfl, hr5, hn5, _, hlc5⟩ := hv5.out
  have HB5 := HB4.out.below h5 HB4.out.lt
  have HR5 := HR4.out.below h5
  have BC5 := BC4.out.below h5 BC4.out.lt
  have RC5 := RC4.out.below h5
  have HF5 := HF4.trans (h5.mono HF4.size)
  clear hab hv5 h5 HB4 HR4 BC4 RC4 HF4
  obtain ⟨l, clk, nxt⟩ := s
  dsimp only at *
  have BC5' := Lib.hid BC5
  obtain ⟨p0, p1, p2, _, _, _, lp⟩ := BC5
  have DX : Below w5.heap.size w5 (((w5.alloc (.cells #[.slice A5 S5.l.length c5, .int .i64 S5.clk, .int .i64 S5.nxt] 26)).alloc (.cells #[.slice A3 S3.l.length c3, .int .i64 S3.clk, .int .i64 S3.nxt, .slice A5 S5.l.length c5, .int .i64 S5.clk, .int .i64 S5.nxt] 26)).alloc (.cells #[.int .i64 e3, .int .i64 e5] 31)) := (((Below.refl _ w5).alloc (Nat.le_refl _) _).alloc (by simp) _).alloc (by simp; omega) _
  have hsX : (((w5.alloc (.cells #[.slice A5 S5.l.length c5, .int .i64 S5.clk, .int .i64 S5.nxt] 26)).alloc (.cells #[.slice A3 S3.l.length c3, .int .i64 S3.clk, .int .i64 S3.nxt, .slice A5 S5.l.length c5, .int .i64 S5.clk, .int .i64 S5.nxt] 26)).alloc (.cells #[.int .i64 e3, .int .i64 e5] 31)).heap.size = w5.heap.size + 3 := by simp
  have FX : Hid (∀ w', Below (((w5.alloc (.cells #[.slice A5 S5.l.length c5, .int .i64 S5.clk, .int .i64 S5.nxt] 26)).alloc (.cells #[.slice A3 S3.l.length c3, .int .i64 S3.clk, .int .i64 S3.nxt, .slice A5 S5.l.length c5, .int .i64 S5.clk, .int .i64 S5.nxt] 26)).alloc (.cells #[.int .i64 e3, .int .i64 e5] 31)).heap.size (((w5.alloc (.cells #[.slice A5 S5.l.length c5, .int .i64 S5.clk, .int .i64 S5.nxt] 26)).alloc (.cells #[.slice A3 S3.l.length c3, .int .i64 S3.clk, .int .i64 S3.nxt, .slice A5 S5.l.length c5, .int .i64 S5.clk, .int .i64 S5.nxt] 26)).alloc (.cells #[.int .i64 e3, .int .i64 e5] 31)) w' → (w'.cell? ⟨w5.heap.size + 1, 0, none⟩ = some (.slice A3 S3.l.length c3) ∧ w'.cell? ⟨w5.heap.size + 1, 1, none⟩ = some (.int .i64 S3.clk) ∧ w'.cell? ⟨w5.heap.size + 1, 2, none⟩ = some (.int .i64 S3.nxt) ∧ w'.cell? ⟨w5.heap.size + 1, 3, none⟩ = some (.slice A5 S5.l.length c5) ∧ w'.cell? ⟨w5.heap.size + 1, 4, none⟩ = some (.int .i64 S5.clk) ∧ w'.cell? ⟨w5.heap.size + 1, 5, none⟩ = some (.int .i64 S5.nxt)) ∧ w'.cell? ⟨w5.heap.size + 1 + 1, 0, none⟩ = some (.int .i64 e3) ∧ w'.cell? ⟨w5.heap.size + 1 + 1, 1, none⟩ = some (.int .i64 e5)) := Lib.hid (fun w' h => by
    have e1 : ∀ q, w'.cell? ⟨w5.heap.size + 1, q, none⟩ = (((w5.alloc (.cells #[.slice A5 S5.l.length c5, .int .i64 S5.clk, .int .i64 S5.nxt] 26)).alloc (.cells #[.slice A3 S3.l.length c3, .int .i64 S3.clk, .int .i64 S3.nxt, .slice A5 S5.l.length c5, .int .i64 S5.clk, .int .i64 S5.nxt] 26)).alloc (.cells #[.int .i64 e3, .int .i64 e5] 31)).cell? ⟨w5.heap.size + 1, q, none⟩ := fun q => h.cell (by rw [hsX]; show w5.heap.size + 1 < _; omega)
    have e2 : ∀ q, w'.cell? ⟨w5.heap.size + 1 + 1, q, none⟩ = (((w5.alloc (.cells #[.slice A5 S5.l.length c5, .int .i64 S5.clk, .int .i64 S5.nxt] 26)).alloc (.cells #[.slice A3 S3.l.length c3, .int .i64 S3.clk, .int .i64 S3.nxt, .slice A5 S5.l.length c5, .int .i64 S5.clk, .int .i64 S5.nxt] 26)).alloc (.cells #[.int .i64 e3, .int .i64 e5] 31)).cell? ⟨w5.heap.size + 1 + 1, q, none⟩ := fun q => h.cell (by rw [hsX]; show w5.heap.size + 1 + 1 < _; omega)
    simp only [e1, e2]
    refine ⟨⟨?_, ?_, ?_, ?_, ?_, ?_⟩, ?_, ?_⟩ <;> go_simp)
  have BS := Lib.hid (HB5.below DX HB5.lt)
  have RS := Lib.hid (HR5.below DX)
  have RC := Lib.hid (RC5.below DX)
  have RA := Lib.hid (hr5.below DX)
  have HF := HF5.trans (DX.mono HF5.size)
  clear HB5 HR5 RC5 hr5 HF5
  go_wp2_with fail
  generalize hWX : ((w5.alloc (.cells #[.slice A5 S5.l.length c5, .int .i64 S5.clk, .int .i64 S5.nxt] 26)).alloc (.cells #[.slice A3 S3.l.length c3, .int .i64 S3.clk, .int .i64 S3.nxt, .slice A5 S5.l.length c5, .int .i64 S5.clk, .int .i64 S5.nxt] 26)).alloc (.cells #[.int .i64 e3, .int .i64 e5] 31) = wX at *
  clear hWX DX hsX BC5'
  generalize w5.heap.size + 1 + 1 = nE at *
  generalize w5.heap.size + 1 = nA at *
  clear p0 p1 p2 lp
  go_loopw [12] (fun i wr => ∃ k : Nat, ((k = 0 ∧ i = .int .i64 0) ∨ (k = 1 ∧ i = .int .i64 1) ∨ (k = 2 ∧ i = .int .i64 2)) ∧ Below wX.heap.size wX wr) (fun i _ => 2 - (Lib.intOf i).toNat)
  case atStart => exact ⟨0, .inl ⟨rfl, rfl⟩, Below.refl _ _⟩
  case round =>
    obtain ⟨k, hk, hbel⟩ := hrel
    obtain ⟨⟨a0, a1, a2, a3, a4, a5⟩, b0, b1⟩ := FX.out _ hbel
    obtain ⟨s0, s1, s2, _, _, _, _⟩ := BS.out.below hbel BS.out.lt
    rcases hk with ⟨rfl, rfl⟩ | ⟨rfl, rfl⟩ | ⟨rfl, rfl⟩
    · by_cases q : e3 = 0
      · subst q
        obtain ⟨n1, n2, n3, n4, n5⟩ := EC.out (by trivial)
        obtain ⟨L3, K3, N3⟩ := S3
        dsimp only at n1 n2 n3 n4 n5 a0 a1 a2 a3 a4 a5
        obtain rfl := n2
        rw [n1] at a0
        have N3' := Lib.hid n3
        have N4 := Lib.hid n4
        have N5 := Lib.hid n5
        have hlc : L3.length = l.length := n1
        clear n3 n4 n5
        have HY : Below wX.heap.size wX (wr.alloc (.cells #[.slice A3 l.length c3, .int .i64 K3, .int .i64 N3] 26)) := hbel.alloc hbel.size _
        have BY := Lib.hid (Box3.new wr (.slice A3 l.length c3) (.int .i64 K3) (.int .i64 N3) 26)
        have lsz := hbel.size
        have hlc2 := Lib.hid hlc
        clear n1 hlc
        go_wp2_with (refine (num_any _ _).mono ?_; rintro e wn ⟨rfl, rfl⟩)
        generalize hB : wr.heap.size = B13 at *
        generalize hWY : wr.alloc (.cells #[.slice A3 l.length c3, .int .i64 K3, .int .i64 N3] 26) = wY at *
        clear hB hWY a0 a1 a2 a3 a4 a5 b0 b1 s0 s1 s2
        go_loopw [14] (fun i14 wq => ∃ m : Nat, m ≤ l.length ∧ i14 = .int .i64 m ∧ Below wY.heap.size wY wq) (fun i14 _ => l.length - (Lib.intOf i14).toNat)
        case atStart => exact ⟨0, Nat.zero_le _, rfl, Below.refl _ _⟩
        case round =>
          obtain ⟨m, hm, rfl, hbq⟩ := hrel
          have hbX := HY.trans (hbq.mono HY.size)
          obtain ⟨s0, s1, s2, _, _, _, _⟩ := BS.out.below hbX BS.out.lt
          obtain ⟨t0, t1, t2, _, _, _, _⟩ := BY.out.below hbq BY.out.lt
          by_cases hlm : m < l.length
          · obtain ⟨x, hx⟩ : ∃ x, l[m]? = some x := ⟨_, List.getElem?_eq_getElem hlm⟩
            obtain ⟨ba, off, rfl, hba, g0, g1, g2, g3, g4⟩ := RS.out.five (B := 0) hx hbX
            by_cases qi : x.id = id
            · clear hx
              go_wp2_with fail
              go_quiet (fail)
              go_wp2
              go_roundw
              case rel => exact ⟨m + 1, by omega, by go_num, below_drewN' hbq _⟩
              case measure => simp [Lib.intOf]; omega
            · have hy := N3'.out m x hx qi
              obtain ⟨bb, off', rfl, hbb, h0, h1, h2, h3, h4⟩ := RC.out.five (B := 0) hy hbX
              have qi' : (x.id == id) = false := by simpa using qi
              have qi2 : (x.id != id) = true := by simpa using qi
              obtain ⟨xid, xst, xen, xi, xo⟩ := x
              dsimp only at g0 g1 g2 g3 g4 h0 h1 h2 h3 h4 qi' qi2
              have hs : sameTB xid xst xen xi xo xid xst xen xi xo = true := by simp [sameTB]
              clear hx hy qi
              go_wp2_with fail
              go_quiet (fail)
              go_wp2
              go_roundw
              case rel => exact ⟨m + 1, by omega, by go_num, below_drewN' hbq _⟩
              case measure => simp [Lib.intOf]; omega
          · obtain rfl : m = l.length := by omega
            have hcm := commit_any A3 c3 ⟨L3, K3, N3⟩ id wr (RC.out.below hbX) hn3 (by have := hlc2.out; dsimp only; omega)
            dsimp only at hcm
            rw [hlc2.out, N4.out] at hcm
            generalize (commitR ⟨L3, K3, N3⟩ id).2.1 = kk at *
            generalize (commitR ⟨L3, K3, N3⟩ id).1 = SS at *
            have BYq := Lib.hid (BY.out.below hbq BY.out.lt)
            go_wp2_with fail
            refine hcm.mono ?_; rintro e w7 ⟨v7, rfl, hv7, h7⟩
            obtain ⟨A7, c7, rfl, _⟩ := hv7.out
            have hb7 := (hbX.trans (h7.mono hbX.size)).alloc (hbX.trans (h7.mono hbX.size)).size (.cells #[.slice A7 SS.l.length c7, .int .i64 SS.clk, .int .i64 SS.nxt] 26)
            have B7 := (BYq.out.below h7 BYq.out.lt).alloc (.cells #[.slice A7 SS.l.length c7, .int .i64 SS.clk, .int .i64 SS.nxt] 26)
            clear s0 s1 s2 t0 t1 t2 hcm hv7 h7 BYq
            have hab := abort_any A3 c3 ⟨L3, K3, N3⟩ id _ (RC.out.below hb7) hn3 (by have := hlc2.out; dsimp only; omega)
            dsimp only at hab
            rw [hlc2.out, N5.out] at hab
            generalize (abortR ⟨L3, K3, N3⟩ id).1 = SU at *
            obtain ⟨t0, t1, t2, _, _, _, _⟩ := B7
            go_wp2_with fail
            refine hab.mono ?_; rintro e w8 ⟨v8, rfl, hv8, h8⟩
            obtain ⟨A8, c8, rfl, _⟩ := hv8.out
            have hb8 := (hb7.trans (h8.mono hb7.size)).alloc (hb7.trans (h8.mono hb7.size)).size (.cells #[.slice A8 SU.l.length c8, .int .i64 SU.clk, .int .i64 SU.nxt] 26)
            clear t0 t1 t2 hab hv8 h8
            go_wp2_with (refine (num_any _ _).mono ?_; rintro e wn ⟨rfl, rfl⟩)
            go_roundw
            case rel => exact ⟨1, .inr (.inl ⟨rfl, rfl⟩), hb8⟩
            case measure => simp [Lib.intOf]
      · have q' : (e3 == 0) = false := by simpa using q
        go_wp2_with (refine (num_any _ _).mono ?_; rintro e wn ⟨rfl, rfl⟩)
        go_roundw
        case rel => exact ⟨1, .inr (.inl ⟨rfl, rfl⟩), hbel⟩
        case measure => simp [Lib.intOf]
    · by_cases q : e5 = 0
      · subst q
        obtain ⟨n1, n2, n3, n4, n5⟩ := EA.out (by trivial)
        obtain ⟨L3, K3, N3⟩ := S5
        dsimp only at n1 n2 n3 n4 n5 a0 a1 a2 a3 a4 a5
        obtain rfl := n2
        rw [n1] at a3
        have N3' := Lib.hid n3
        have N4 := Lib.hid n4
        have N5 := Lib.hid n5
        have hlc : L3.length = l.length := n1
        clear n3 n4 n5
        have HY : Below wX.heap.size wX (wr.alloc (.cells #[.slice A5 l.length c5, .int .i64 K3, .int .i64 N3] 26)) := hbel.alloc hbel.size _
        have BY := Lib.hid (Box3.new wr (.slice A5 l.length c5) (.int .i64 K3) (.int .i64 N3) 26)
        have lsz := hbel.size
        have hlc2 := Lib.hid hlc
        clear n1 hlc
        go_wp2_with (refine (num_any _ _).mono ?_; rintro e wn ⟨rfl, rfl⟩)
        generalize hB : wr.heap.size = B13 at *
        generalize hWY : wr.alloc (.cells #[.slice A5 l.length c5, .int .i64 K3, .int .i64 N3] 26) = wY at *
        clear hB hWY a0 a1 a2 a3 a4 a5 b0 b1 s0 s1 s2
        go_loopw [14] (fun i14 wq => ∃ m : Nat, m ≤ l.length ∧ i14 = .int .i64 m ∧ Below wY.heap.size wY wq) (fun i14 _ => l.length - (Lib.intOf i14).toNat)
        case atStart => exact ⟨0, Nat.zero_le _, rfl, Below.refl _ _⟩
        case round =>
          obtain ⟨m, hm, rfl, hbq⟩ := hrel
          have hbX := HY.trans (hbq.mono HY.size)
          obtain ⟨s0, s1, s2, _, _, _, _⟩ := BS.out.below hbX BS.out.lt
          obtain ⟨t0, t1, t2, _, _, _, _⟩ := BY.out.below hbq BY.out.lt
          by_cases hlm : m < l.length
          · obtain ⟨x, hx⟩ : ∃ x, l[m]? = some x := ⟨_, List.getElem?_eq_getElem hlm⟩
            obtain ⟨ba, off, rfl, hba, g0, g1, g2, g3, g4⟩ := RS.out.five (B := 0) hx hbX
            by_cases qi : x.id = id
            · clear hx
              go_wp2_with fail
              go_quiet (fail)
              go_wp2
              go_roundw
              case rel => exact ⟨m + 1, by omega, by go_num, below_drewN' hbq _⟩
              case measure => simp [Lib.intOf]; omega
            · have hy := N3'.out m x hx qi
              obtain ⟨bb, off', rfl, hbb, h0, h1, h2, h3, h4⟩ := RA.out.five (B := 0) hy hbX
              have qi' : (x.id == id) = false := by simpa using qi
              have qi2 : (x.id != id) = true := by simpa using qi
              obtain ⟨xid, xst, xen, xi, xo⟩ := x
              dsimp only at g0 g1 g2 g3 g4 h0 h1 h2 h3 h4 qi' qi2
              have hs : sameTB xid xst xen xi xo xid xst xen xi xo = true := by simp [sameTB]
              clear hx hy qi
              go_wp2_with fail
              go_quiet (fail)
              go_wp2
              go_roundw
              case rel => exact ⟨m + 1, by omega, by go_num, below_drewN' hbq _⟩
              case measure => simp [Lib.intOf]; omega
          · obtain rfl : m = l.length := by omega
            have hcm := commit_any A5 c5 ⟨L3, K3, N3⟩ id wr (RA.out.below hbX) hn5 (by have := hlc2.out; dsimp only; omega)
            dsimp only at hcm
            rw [hlc2.out, N4.out] at hcm
            generalize (commitR ⟨L3, K3, N3⟩ id).2.1 = kk at *
            generalize (commitR ⟨L3, K3, N3⟩ id).1 = SS at *
            have BYq := Lib.hid (BY.out.below hbq BY.out.lt)
            go_wp2_with fail
            refine hcm.mono ?_; rintro e w7 ⟨v7, rfl, hv7, h7⟩
            obtain ⟨A7, c7, rfl, _⟩ := hv7.out
            have hb7 := (hbX.trans (h7.mono hbX.size)).alloc (hbX.trans (h7.mono hbX.size)).size (.cells #[.slice A7 SS.l.length c7, .int .i64 SS.clk, .int .i64 SS.nxt] 26)
            have B7 := (BYq.out.below h7 BYq.out.lt).alloc (.cells #[.slice A7 SS.l.length c7, .int .i64 SS.clk, .int .i64 SS.nxt] 26)
            clear s0 s1 s2 t0 t1 t2 hcm hv7 h7 BYq
            have hab := abort_any A5 c5 ⟨L3, K3, N3⟩ id _ (RA.out.below hb7) hn5 (by have := hlc2.out; dsimp only; omega)
            dsimp only at hab
            rw [hlc2.out, N5.out] at hab
            generalize (abortR ⟨L3, K3, N3⟩ id).1 = SU at *
            obtain ⟨t0, t1, t2, _, _, _, _⟩ := B7
            go_wp2_with fail
            refine hab.mono ?_; rintro e w8 ⟨v8, rfl, hv8, h8⟩
            obtain ⟨A8, c8, rfl, _⟩ := hv8.out
            have hb8 := (hb7.trans (h8.mono hb7.size)).alloc (hb7.trans (h8.mono hb7.size)).size (.cells #[.slice A8 SU.l.length c8, .int .i64 SU.clk, .int .i64 SU.nxt] 26)
            clear t0 t1 t2 hab hv8 h8
            go_wp2_with (refine (num_any _ _).mono ?_; rintro e wn ⟨rfl, rfl⟩)
            go_roundw
            case rel => exact ⟨2, .inr (.inr ⟨rfl, rfl⟩), hb8⟩
            case measure => simp [Lib.intOf]
      · have q' : (e5 == 0) = false := by simpa using q
        go_wp2_with (refine (num_any _ _).mono ?_; rintro e wn ⟨rfl, rfl⟩)
        go_roundw
        case rel => exact ⟨2, .inr (.inr ⟨rfl, rfl⟩), hbel⟩
        case measure => simp [Lib.intOf]
    · go_wp2
      go_ret
      exact ⟨rfl, HF.trans (hbel.mono HF.size)⟩
end Go.Proofs.Ytdajginkipaghaa
