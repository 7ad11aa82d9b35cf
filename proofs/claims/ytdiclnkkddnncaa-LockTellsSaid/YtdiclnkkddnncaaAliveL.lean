/- The law's example. -/
import Derived.Test.YtdiclnkkddnncaaOfL
import Derived.Laws.StructEq
namespace Go.Proofs.Ytdiclnkkddnncaa
open Go.RowKit
open Go.Shelf
set_option linter.unusedVariables false
set_option linter.unusedSimpArgs false
def sameLB (x0 : Int) (x1 x2 : ByteArray) (y0 : Int) (y1 y2 : ByteArray) : Bool := x0 == y0 && (x1.toList == y1.toList && x2.toList == y2.toList)
theorem eqLk (d : Nat) (w : World) (x0 y0 : Int) (x1 y1 x2 y2 : ByteArray) :
    (Op.equalIn (d + 2) 35 (.agg #[.int .i64 x0, .string x1, .string x2]) (.agg #[.int .i64 y0, .string y1, .string y2])).run Try.prog w = .ok (sameLB x0 x1 x2 y0 y1 y2) w := by
  refine eqA_of Try.underlying35 (by kernel_rfl) ?_
  refine eqf_cons (by rfl) (by go_simp; rfl) (by go_simp; rfl) (by go_simp) ?_
  refine eqf_cons (by rfl) (by go_simp; rfl) (by go_simp; rfl) (by go_simp) ?_
  exact eqf_last (by rfl) (by go_simp; rfl) (by go_simp; rfl) (by go_simp)
attribute [local go_sem high] eqLk
def xa : Lk := ⟨1, ⟨#[97]⟩, ⟨#[99]⟩⟩
def xb : Lk := ⟨1, ⟨#[99]⟩, ⟨#[101]⟩⟩
def xc : Lk := ⟨1, ⟨#[97]⟩, ⟨#[101]⟩⟩
theorem al1 : addL [] xa = ([xa], 0) := by
  simp [addL, chkL, chkLFrom, mayL, xa, nil?, lt?, ByteArray.toList_eq, putL, putAt, Op.bytesLess]
theorem al2 : addL [xa] xb = ([xc], 0) := by
  simp [addL, chkL, chkLFrom, mayL, after?, xa, xb, xc, nil?, lt?, eq?, ByteArray.toList_eq, putL, putAt, Op.bytesLess, within, touches, joinL, minS, endsR, cmpS]
theorem SlB.outL {N : Nat} {w : World} {v : Value} {l : List Lk} (h : SlB encL 3 N w v l) : ∃ A c, v = .slice A l.length c ∧ RowE encL 3 w A l ∧ (A = none → c = 0) ∧ (∀ a, A = some a → N ≤ a.block) := by
  obtain ⟨A, c, hv, _, h1, h2, h3⟩ := h
  exact ⟨A, c, hv, h1, h2, h3⟩
set_option maxHeartbeats 4000000 in
set_option maxRecDepth 100000 in
theorem alive_any (w : World) : Calls Try.prog 9 #[] w fun e w' => e = .returned (.bool true) ∧ Below w.heap.size w w' := by
  have h1 := add_any none 0 [] xa w RowE.nil (fun _ => rfl) (by simp)
  rw [al1] at h1
  dsimp only [xa] at h1
  go_enter Try.func9, Try.ntmps9
  go_wp2_with fail
  refine h1.mono ?_; rintro e w1 ⟨v1, rfl, hv1, hb1⟩
  obtain ⟨A1, c1, rfl, hr1, hn1, _⟩ := hv1.outL
  have W1 : Below w1.heap.size w1 (w1.alloc (.cells #[.slice A1 1 c1] 30)) := (Below.refl _ _).alloc (Nat.le_refl _) _
  have B1 := Box1.new w1 (.slice A1 1 c1) 30
  have h2 := add_any A1 c1 [xa] xb _ (hr1.below W1) hn1 (by simp)
  rw [al2] at h2
  dsimp only [xb] at h2
  have z1 := hb1.size
  have HF1 := hb1.alloc hb1.size (.cells #[.slice A1 1 c1] 30)
  clear h1 hv1 hr1 W1 hn1
  go_wp2_with fail
  refine h2.mono ?_; rintro e w2 ⟨v2, rfl, hv2, hb2⟩
  obtain ⟨A2, c2, rfl, hr2, hn2, hN2⟩ := hv2.outL
  have B2 := B1.step hb2
  have HF2 := HF1.trans (hb2.mono HF1.size)
  have hr3 := hr2.set hN2 ⟨w1.heap.size, 0, none⟩ (.slice A2 1 c2) (by simp)
  obtain ⟨b0, off, rfl, hb0, g0, g1, g2⟩ := hr3.tri (j := 0) (x := xc) rfl (Below.refl _ _)
  simp only [Nat.zero_mul, Nat.add_zero, xc] at g0 g1 g2
  obtain ⟨c0, f0, l0⟩ := B2
  have hs : sameLB 1 ⟨#[97]⟩ ⟨#[101]⟩ 1 ⟨#[97]⟩ ⟨#[101]⟩ = true := by simp [sameLB]
  have hne : b0 ≠ w1.heap.size := by have := hN2 _ rfl; simp at this; omega
  clear h2 hv2 hb2 hr2 hr3 hN2 hn2 B1 HF1
  go_wp2_with (refine (num_any _ _).mono ?_; rintro e wn ⟨rfl, rfl⟩)
  go_ret
  exact ⟨rfl, Below.setCell HF2 (by simp; omega) _⟩
end Go.Proofs.Ytdiclnkkddnncaa
