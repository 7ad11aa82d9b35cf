/- Alike states. -/
import Derived.Test.YtdiclnkkddnncaaRL7
import Derived.Test.YtdiclnkkddnncaaAliveL
namespace Go.Proofs.Ytdiclnkkddnncaa
open Go.RowKit
open Go.Shelf
set_option linter.unusedVariables false
set_option linter.unusedSimpArgs false
theorem eqLr (d : Nat) (w : World) (x0 y0 : Int) (x1 y1 x2 y2 : ByteArray) :
    (Op.equalIn (d + 2) 26 (.agg #[.int .i64 x0, .string x1, .string x2]) (.agg #[.int .i64 y0, .string y1, .string y2])).run Try.prog w = .ok (sameLB x0 x1 x2 y0 y1 y2) w := by
  refine eqA_of Try.underlying26 (by kernel_rfl) ?_
  refine eqf_cons (by rfl) (by go_simp; rfl) (by go_simp; rfl) (by go_simp) ?_
  refine eqf_cons (by rfl) (by go_simp; rfl) (by go_simp; rfl) (by go_simp) ?_
  exact eqf_last (by rfl) (by go_simp; rfl) (by go_simp; rfl) (by go_simp)
attribute [local go_sem high] eqLr
theorem add_len1 (l : List Lk) (x : Lk) : (addL l x).1.length ≤ 512 := by
  by_cases h : (addL l x).2 = 0
  · exact ((chkL_iff _).1 (add_chk h)).1
  · rw [add_bad h]; simp
theorem put_len1 (l : List Lk) (x : Lk) : (putL l x).length ≤ l.length + 1 := by
  unfold putL putAt; simp; omega
theorem drop_len1 (l : List Lk) (t : Int) : (dropL l t).1.length ≤ l.length := by
  unfold dropL
  split
  · simp
  · exact List.length_filter_le _ _
theorem widen_len1 (l : List Lk) (t m : Int) : (widenL l t m).1.length ≤ l.length + 1 := by
  unfold widenL
  split
  · simp
  · split
    · simp
    · split
      · simp
      · exact Nat.le_trans (put_len1 _ _) (by have := others_len l t; omega)
theorem readers_len1 (l : List Lk) (k : ByteArray) : (readersR l k).1.length ≤ l.length := by
  unfold readersR
  split
  · simp
  · refine Nat.le_trans (comp_le _ _) ?_
    rw [List.length_map]
    exact List.length_filter_le _ _
set_option maxHeartbeats 4000000 in
set_option maxRecDepth 100000 in
theorem lalike_same (A B : Option Addr) (c d : Nat) (l : List Lk) (w : World) (HA : RowE encL 3 w A l) (HB : RowE encL 3 w B l) (hl : l.length ≤ 140737488355328) :
    Calls Try.prog 24 #[.agg #[.slice A l.length c], .agg #[.slice B l.length d]] w fun e w' => e = .returned (.int .i64 0) ∧ Below w.heap.size w w' := by
  have h0 : Below w.heap.size w ((w.alloc (.cells #[.slice A l.length c] 30)).alloc (.cells #[.slice B l.length d] 24)) := (by (repeat (first | (with_reducible exact Below.refl _ _) | apply below_alloc _ (Nat.le_refl _) | refine below_set ?_ (by first | exact Nat.le_refl _ | omega) | apply below_drewN | refine below_step ?_ HB)))
  have BA := Lib.hid ((Box.new w #[.slice A l.length c] 30).alloc (.cells #[.slice B l.length d] 24))
  have BB := Lib.hid (Box.new (w.alloc (.cells #[.slice A l.length c] 30)) #[.slice B l.length d] 24)
  have HF := Lib.hid h0
  have RA := Lib.hid HA
  have RB := Lib.hid HB
  simp only [World.size_alloc] at BB
  clear h0 HA HB
  go_enter Try.func24, Try.ntmps24
  go_upto_region 1 with (fail)
  generalize (w.alloc (.cells #[.slice A l.length c] 30)).alloc (.cells #[.slice B l.length d] 24) = w0 at *
  have cBA0 := BA.out.c 0 _ rfl; have fBA0 := BA.out.f 0 (by simp); have lBA := BA.out.lt; have cBB0 := BB.out.c 0 _ rfl; have fBB0 := BB.out.f 0 (by simp); have lBB := BB.out.lt
  go_wp2_with fail
  clear cBA0 fBA0 lBA; clear cBB0 fBB0 lBB
  go_loopw [5] (fun s5 wr => ∃ j : Nat, j ≤ l.length ∧ s5 = .int .i64 j ∧ Hid (Below w.heap.size w wr) ∧ Hid (Box wr w.heap.size [.slice A l.length c]) ∧ Hid (Box wr (w.heap.size + 1) [.slice B l.length d])) (fun s5 _ => l.length - (Lib.intOf s5).toNat)
  case atStart => exact ⟨0, Nat.zero_le _, rfl, HF, BA, BB⟩
  case round =>
    obtain ⟨j, hj, rfl, HFr, BAr, BBr⟩ := hrel
    clear HF BA BB
    by_cases hlt : j < l.length
    · obtain ⟨x, hx⟩ : ∃ x, l[j]? = some x := ⟨_, List.getElem?_eq_getElem hlt⟩
      obtain ⟨ba, oa, rfl, _, g0, g1, g2⟩ := RA.out.tri hx HFr.out
      obtain ⟨bb, ob, rfl, _, k0, k1, k2⟩ := RB.out.tri hx HFr.out
      clear hx
      obtain ⟨ty, yl, yh⟩ := x
      dsimp only at g0 g1 g2 k0 k1 k2
      have hs : sameLB ty yl yh ty yl yh = true := by simp [sameLB]
      have hji : (j : Int) < (l.length : Int) := by omega
      have cBAr0 := BAr.out.c 0 _ rfl; have fBAr0 := BAr.out.f 0 (by simp); have lBAr := BAr.out.lt; have cBBr0 := BBr.out.c 0 _ rfl; have fBBr0 := BBr.out.f 0 (by simp); have lBBr := BBr.out.lt
      go_wp2_with fail
      go_quiet (fail)
      go_wp2
      go_roundw
      case rel => exact ⟨j + 1, by omega, by go_num, Lib.hid (below_drewN HFr.out _), Lib.hid (BAr.out.drewN _), Lib.hid (BBr.out.drewN _)⟩
      case measure => simp [Lib.intOf]; omega
    · obtain rfl : j = l.length := by omega
      have cBAr0 := BAr.out.c 0 _ rfl; have fBAr0 := BAr.out.f 0 (by simp); have lBAr := BAr.out.lt; have cBBr0 := BBr.out.c 0 _ rfl; have fBBr0 := BBr.out.f 0 (by simp); have lBBr := BBr.out.lt
      go_wp2
      go_ret
      exact ⟨rfl, HFr.out⟩
end Go.Proofs.Ytdiclnkkddnncaa
