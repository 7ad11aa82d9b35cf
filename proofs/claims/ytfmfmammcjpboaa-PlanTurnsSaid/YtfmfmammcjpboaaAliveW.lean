/- The law's alive: the page's example. -/
import Derived.Test.YtfmfmammcjpboaaChooseW
import Derived.Test.YtfmfmammcjpboaaAsksW
import Derived.Test.YtfmfmammcjpboaaAsksW2
namespace Go.Proofs.Ytfmfmammcjpboaa
open Go.RowKit
set_option linter.unusedVariables false
set_option linter.unusedSimpArgs false
set_option maxRecDepth 100000 in
theorem column_any (n : Int) (w : World) : Calls Try.prog 14 #[.int .i64 n] w fun e w' => e = .returned (.agg #[.int .i64 1, .int .i64 1, .int .i64 n, .string ⟨#[]⟩, .string ⟨#[]⟩, .string ⟨#[]⟩, .slice none 0 0]) ∧ Below w.heap.size w w' := by
  have HF : Below w.heap.size w (w.alloc (.cells #[.int .i64 0, .int .i64 0, .int .i64 0, .string ⟨#[]⟩, .string ⟨#[]⟩, .string ⟨#[]⟩, .slice none 0 0] 51)) := (by (repeat (first | (with_reducible exact Below.refl _ _) | apply below_alloc _ (Nat.le_refl _) | refine below_set ?_ (by first | exact Nat.le_refl _ | omega) | apply below_drewN | refine below_step ?_ HB)))
  have hle : w.heap.size ≤ w.heap.size := Nat.le_refl _
  go_enter Try.func14, Try.ntmps14
  go_wp2
  refine bodyPost_ret (by simp [results, Try.results14, go_sem]; rfl) rfl ?_
  exact ⟨rfl, (by repeat (first | (with_reducible exact HF) | exact (by (repeat (first | (with_reducible exact Below.refl _ _) | apply below_alloc _ (Nat.le_refl _) | refine below_set ?_ (by first | exact Nat.le_refl _ | omega) | apply below_drewN | refine below_step ?_ HB))) | refine below_set ?_ hle))⟩
set_option maxRecDepth 100000 in
theorem numex_any (n : Int) (w : World) : Calls Try.prog 40 #[.int .i64 n] w fun e w' => e = .returned (.agg #[.int .i64 0, .int .i64 1, .int .i64 n, .string ⟨#[]⟩, .string ⟨#[]⟩, .string ⟨#[]⟩, .slice none 0 0]) ∧ Below w.heap.size w w' := by
  have HF : Below w.heap.size w (w.alloc (.cells #[.int .i64 0, .int .i64 0, .int .i64 0, .string ⟨#[]⟩, .string ⟨#[]⟩, .string ⟨#[]⟩, .slice none 0 0] 51)) := (by (repeat (first | (with_reducible exact Below.refl _ _) | apply below_alloc _ (Nat.le_refl _) | refine below_set ?_ (by first | exact Nat.le_refl _ | omega) | apply below_drewN | refine below_step ?_ HB)))
  have hle : w.heap.size ≤ w.heap.size := Nat.le_refl _
  go_enter Try.func40, Try.ntmps40
  go_wp2
  refine bodyPost_ret (by simp [results, Try.results40, go_sem]; rfl) rfl ?_
  exact ⟨rfl, (by repeat (first | (with_reducible exact HF) | exact (by (repeat (first | (with_reducible exact Below.refl _ _) | apply below_alloc _ (Nat.le_refl _) | refine below_set ?_ (by first | exact Nat.le_refl _ | omega) | apply below_drewN | refine below_step ?_ HB))) | refine below_set ?_ hle))⟩
set_option maxRecDepth 100000 in
theorem numE_any (n : Int) (w : World) : Calls Try.prog 12 #[.int .i64 n] w fun e w' => e = .returned (.int .i64 n) ∧ w' = w := by
  go_enter Try.func12, Try.ntmps12
  go_wp2
  go_ret
  exact ⟨rfl, rfl⟩
def aT (A B C : Option Addr) (c1 c2 c3 : Nat) : Tr := .and ⟨14, ⟨0, 0, ⟨#[]⟩⟩, ⟨#[]⟩, ⟨#[]⟩, A, 2, c1⟩ (.leaf ⟨12, ⟨0, 0, ⟨#[]⟩⟩, ⟨#[]⟩, ⟨#[]⟩, B, 2, c2⟩) (.leaf ⟨11, ⟨0, 0, ⟨#[]⟩⟩, ⟨#[]⟩, ⟨#[]⟩, C, 2, c3⟩)
def aC (n : Int) : Ex := .mk 1 ⟨1, n, ⟨#[]⟩⟩ ⟨#[]⟩ ⟨#[]⟩ []
def aN (n : Int) : Ex := .mk 0 ⟨1, n, ⟨#[]⟩⟩ ⟨#[]⟩ ⟨#[]⟩ []
def aE : Ex := .mk 14 ⟨0, 0, ⟨#[]⟩⟩ ⟨#[]⟩ ⟨#[]⟩ [.mk 12 ⟨0, 0, ⟨#[]⟩⟩ ⟨#[]⟩ ⟨#[]⟩ [aC 0, aN 1], .mk 11 ⟨0, 0, ⟨#[]⟩⟩ ⟨#[]⟩ ⟨#[]⟩ [aC 0, aN 5]]
def aAsk (x : Eh) : Pl × Bool := if x.op = 12 then (⟨0, ⟨false, ⟨1, 1, nos⟩, false⟩, openB, false⟩, true) else (⟨0, openB, ⟨false, ⟨1, 5, nos⟩, true⟩, false⟩, true)
def aP : Pl := ⟨0, ⟨false, ⟨1, 1, nos⟩, false⟩, ⟨false, ⟨1, 5, nos⟩, true⟩, false⟩
def aCols : List Col := [⟨⟨#[97]⟩, 1, true⟩]
theorem box_rowC {W : World} {g : Nat} {c : Col} (h : Box W g (encC c)) : RowE encC 3 W (some ⟨g, 0, none⟩) [c] := by
  intro i x hi
  refine ⟨g, 0, rfl, h.lt, fun i x hi j v hv => ?_⟩
  cases i with
  | zero =>
    obtain rfl : c = x := by simpa using hi
    have := h.c j v hv
    simpa using this
  | succ i => simp at hi
theorem box_row2 {W : World} {g : Nat} {x y : Eh} (h : Box W g (cellsE x ++ cellsE y)) : RowE cellsE 7 W (some ⟨g, 0, none⟩) [x, y] := by
  intro i z hi
  refine ⟨g, 0, rfl, h.lt, fun i z hi j v hv => ?_⟩
  have hj : j < 7 := by have := (List.getElem?_eq_some_iff.1 hv).1; rwa [cellsE_len] at this
  match i, hi with
  | 0, hi =>
    obtain rfl : x = z := by simpa using hi
    have := h.c j v (by rw [List.getElem?_append_left (by rw [cellsE_len]; exact hj)]; exact hv)
    simpa using this
  | 1, hi =>
    obtain rfl : y = z := by simpa using hi
    have := h.c (7 + j) v (by rw [List.getElem?_append_right (by rw [cellsE_len]; omega), cellsE_len, Nat.add_sub_cancel_left]; exact hv)
    simpa using this
  | i + 2, hi => simp at hi
theorem exC (n : Nat) (k : Int) (W : World) : ExAt n W ⟨1, ⟨1, k, ⟨#[]⟩⟩, ⟨#[]⟩, ⟨#[]⟩, none, 0, 0⟩ (aC k) := by
  cases n with
  | zero => trivial
  | succ n => exact ⟨rfl, rfl, rfl, rfl, rfl, by decide, [], rfl, RowE.nil, fun i g a hg => by simp at hg⟩
theorem exN (n : Nat) (k : Int) (W : World) : ExAt n W ⟨0, ⟨1, k, ⟨#[]⟩⟩, ⟨#[]⟩, ⟨#[]⟩, none, 0, 0⟩ (aN k) := by
  cases n with
  | zero => trivial
  | succ n => exact ⟨rfl, rfl, rfl, rfl, rfl, by decide, [], rfl, RowE.nil, fun i g a hg => by simp at hg⟩
theorem ex2 {n : Nat} {W : World} {op : Int} {b c : Nat} {x y : Eh} {d e : Ex} (h : Box W b (cellsE x ++ cellsE y)) (hx : ExAt n W x d) (hy : ExAt n W y e) : ExAt (n + 1) W ⟨op, ⟨0, 0, ⟨#[]⟩⟩, ⟨#[]⟩, ⟨#[]⟩, some ⟨b, 0, none⟩, 2, c⟩ (.mk op ⟨0, 0, ⟨#[]⟩⟩ ⟨#[]⟩ ⟨#[]⟩ [d, e]) := by
  refine ⟨rfl, rfl, rfl, rfl, rfl, by simp, [x, y], rfl, box_row2 h, fun i g a hg ha => ?_⟩
  match i, hg, ha with
  | 0, hg, ha =>
    obtain rfl : x = g := by simpa using hg
    obtain rfl : d = a := by simpa using ha
    exact hx
  | 1, hg, ha =>
    obtain rfl : y = g := by simpa using hg
    obtain rfl : e = a := by simpa using ha
    exact hy
  | i + 2, hg, ha => simp at hg
theorem box_empty {W : World} {b : Nat} {vs : List Value} (h : Box W b vs) : Box W b [] := ⟨fun i v hv => by simp at hv, fun i hi => by simp at hi, h.lt⟩
set_option maxHeartbeats 8000000 in
set_option maxRecDepth 100000 in
theorem achoose (A : Option Addr) (ca b b1 b2 b3 cw c1 c2 c3 : Nat) (w : World) (HR : RowE encC 3 w A aCols) (hm : MaxL w)
    (H1 : Box w b1 [.int .i64 1, .int .i64 1, .int .i64 0, .string ⟨#[]⟩, .string ⟨#[]⟩, .string ⟨#[]⟩, .slice none 0 0, .int .i64 0, .int .i64 1, .int .i64 1, .string ⟨#[]⟩, .string ⟨#[]⟩, .string ⟨#[]⟩, .slice none 0 0]) (H2 : Box w b2 [.int .i64 1, .int .i64 1, .int .i64 0, .string ⟨#[]⟩, .string ⟨#[]⟩, .string ⟨#[]⟩, .slice none 0 0, .int .i64 0, .int .i64 1, .int .i64 5, .string ⟨#[]⟩, .string ⟨#[]⟩, .string ⟨#[]⟩, .slice none 0 0]) (H3 : Box w b3 [.int .i64 12, .int .i64 0, .int .i64 0, .string ⟨#[]⟩, .string ⟨#[]⟩, .string ⟨#[]⟩, .slice (some ⟨b1, 0, none⟩) 2 c2, .int .i64 11, .int .i64 0, .int .i64 0, .string ⟨#[]⟩, .string ⟨#[]⟩, .string ⟨#[]⟩, .slice (some ⟨b2, 0, none⟩) 2 c3]) (H4 : Box w b [.int .i64 14, .int .i64 0, .int .i64 0, .string ⟨#[]⟩, .string ⟨#[]⟩, .string ⟨#[]⟩, .slice (some ⟨b3, 0, none⟩) 2 c1]) :
    Calls Try.prog 8 #[.agg #[.string ⟨#[116]⟩, .slice A 1 ca, .int .i64 0, .slice none 0 0], .slice (some ⟨b, 0, none⟩) 1 cw] w fun r w' => r = .returned (.tuple #[aggP aP, .int .i64 0]) ∧ Below w.heap.size w w' := by
  have c3' := H3.c
  refine choose1_any ⟨#[116]⟩ A aCols ca 0 ⟨⟨#[97]⟩, 1, true⟩ b 0 cw (aT (some ⟨b3, 0, none⟩) (some ⟨b1, 0, none⟩) (some ⟨b2, 0, none⟩) c1 c2 c3) aE aAsk aP w HR hm ⟨by decide, by decide⟩ (fun c hc => by simp [aCols] at hc; subst hc; show 1 ≤ maxLen; decide) (by decide +kernel) (by decide) (by rfl) H4.lt (fun j v hv => by have := H4.c j v hv; simpa using this) ?_ (by rfl) ?_ ?_ (by rfl) rfl (by rfl) (by rfl)
  · exact ex2 (n := 11) (x := ⟨12, ⟨0, 0, ⟨#[]⟩⟩, ⟨#[]⟩, ⟨#[]⟩, some ⟨b1, 0, none⟩, 2, c2⟩) (y := ⟨11, ⟨0, 0, ⟨#[]⟩⟩, ⟨#[]⟩, ⟨#[]⟩, some ⟨b2, 0, none⟩, 2, c3⟩) H3 (ex2 (n := 10) (x := ⟨1, ⟨1, 0, ⟨#[]⟩⟩, ⟨#[]⟩, ⟨#[]⟩, none, 0, 0⟩) (y := ⟨0, ⟨1, 1, ⟨#[]⟩⟩, ⟨#[]⟩, ⟨#[]⟩, none, 0, 0⟩) H1 (exC 10 0 w) (exN 10 1 w)) (ex2 (n := 10) (x := ⟨1, ⟨1, 0, ⟨#[]⟩⟩, ⟨#[]⟩, ⟨#[]⟩, none, 0, 0⟩) (y := ⟨0, ⟨1, 5, ⟨#[]⟩⟩, ⟨#[]⟩, ⟨#[]⟩, none, 0, 0⟩) H2 (exC 10 0 w) (exN 10 5 w))
  · refine ⟨rfl, rfl, b3, 0, rfl, H3.lt, fun j v hv => ?_, fun j v hv => ?_, ?_, ?_⟩
    · have hj : j < 7 := (List.getElem?_eq_some_iff.1 hv).1
      have := (box_row2 (x := ⟨12, ⟨0, 0, ⟨#[]⟩⟩, ⟨#[]⟩, ⟨#[]⟩, some ⟨b1, 0, none⟩, 2, c2⟩) (y := ⟨11, ⟨0, 0, ⟨#[]⟩⟩, ⟨#[]⟩, ⟨#[]⟩, some ⟨b2, 0, none⟩, 2, c3⟩) H3) 0 _ rfl
      obtain ⟨b', o', e', _, hc⟩ := this
      obtain ⟨rfl, rfl⟩ : b3 = b' ∧ 0 = o' := by simpa using e'
      simpa using hc 0 _ rfl j v hv
    · have := (box_row2 (x := ⟨12, ⟨0, 0, ⟨#[]⟩⟩, ⟨#[]⟩, ⟨#[]⟩, some ⟨b1, 0, none⟩, 2, c2⟩) (y := ⟨11, ⟨0, 0, ⟨#[]⟩⟩, ⟨#[]⟩, ⟨#[]⟩, some ⟨b2, 0, none⟩, 2, c3⟩) H3) 0 _ rfl
      obtain ⟨b', o', e', _, hc⟩ := this
      obtain ⟨rfl, rfl⟩ : b3 = b' ∧ 0 = o' := by simpa using e'
      simpa using hc 1 _ rfl j v hv
    · show ¬ ((12 : Int) = 14 ∧ 2 = 2)
      decide
    · show ¬ ((11 : Int) = 14 ∧ 2 = 2)
      decide
  · intro x hx W hW
    have hx' : x = ⟨12, ⟨0, 0, ⟨#[]⟩⟩, ⟨#[]⟩, ⟨#[]⟩, some ⟨b1, 0, none⟩, 2, c2⟩ ∨ x = ⟨11, ⟨0, 0, ⟨#[]⟩⟩, ⟨#[]⟩, ⟨#[]⟩, some ⟨b2, 0, none⟩, 2, c3⟩ := by simpa [aT, Tr.leaves] using hx
    rcases hx' with rfl | rfl
    · exact asks_more 1 b1 0 c2 W (box_empty (H1.below hW H1.lt)) (fun j v hv => by have := (H1.below hW H1.lt).c j v hv; simpa using this)
    · exact asks_upto 5 b2 0 c3 W (box_empty (H2.below hW H2.lt)) (fun j v hv => by have := (H2.below hW H2.lt).c j v hv; simpa using this)
set_option maxHeartbeats 8000000 in
set_option maxRecDepth 100000 in
theorem alive_any (w : World) (hm : MaxL w) : Calls Try.prog 13 #[] w fun e w' => e = .returned (.bool true) ∧ Below w.heap.size w w' := by
  have HF : Hid (Below w.heap.size w ((w.alloc (.cells #[.string ⟨#[97]⟩, .int .i64 1, .bool true] 65)).alloc (.cells #[.string ⟨#[116]⟩, .slice (some ⟨w.heap.size, 0, none⟩) 1 1, .int .i64 0, .slice none 0 0] 25))) := Lib.hid (by (repeat (first | (with_reducible exact Below.refl _ _) | apply below_alloc _ (Nat.le_refl _) | refine below_set ?_ (by first | exact Nat.le_refl _ | omega) | apply below_drewN | refine below_step ?_ HB)))
  have HM := Lib.hid (hm.below HF.out)
  have HROW := Lib.hid (box_rowC (c := ⟨⟨#[97]⟩, 1, true⟩) ((Box.new w #[.string ⟨#[97]⟩, .int .i64 1, .bool true] 65).alloc (.cells #[.string ⟨#[116]⟩, .slice (some ⟨w.heap.size, 0, none⟩) 1 1, .int .i64 0, .slice none 0 0] 25)))
  clear hm
  go_enter Try.func13, Try.ntmps13
  go_wp2_with fail
  generalize (w.alloc (.cells #[.string ⟨#[97]⟩, .int .i64 1, .bool true] 65)).alloc (.cells #[.string ⟨#[116]⟩, .slice (some ⟨w.heap.size, 0, none⟩) 1 1, .int .i64 0, .slice none 0 0] 25) = w0 at *
  refine (of06_any ⟨#[116]⟩ w.heap.size 0 [⟨⟨#[97]⟩, 1, true⟩] 1 0 none 0 w0 HROW.out (by simp) (by simp)).mono ?_
  rintro e w1 ⟨A1, ca, rfl, hrow, h⟩
  replace HROW := Lib.hid hrow
  replace HM := Lib.hid (HM.out.below h); replace HF := Lib.hid (below_step' HF.out h)
  clear h hrow
  simp only [List.length_cons, List.length_nil, Nat.zero_add]
  go_wp2_with fail
  refine (column_any 0 w1).mono ?_; rintro e w2 ⟨rfl, h⟩
  replace HM := Lib.hid (HM.out.below h); replace HROW := Lib.hid (HROW.out.below h); replace HF := Lib.hid (below_step' HF.out h)
  clear h
  go_wp2_with fail
  refine (numex_any 1 w2).mono ?_; rintro e w3 ⟨rfl, h⟩
  replace HM := Lib.hid (HM.out.below h); replace HROW := Lib.hid (HROW.out.below h); replace HF := Lib.hid (below_step' HF.out h)
  clear h
  go_wp2_with fail
  have H1 := Lib.hid (Box.new w3 #[.int .i64 1, .int .i64 1, .int .i64 0, .string ⟨#[]⟩, .string ⟨#[]⟩, .string ⟨#[]⟩, .slice none 0 0, .int .i64 0, .int .i64 1, .int .i64 1, .string ⟨#[]⟩, .string ⟨#[]⟩, .string ⟨#[]⟩, .slice none 0 0] 51)
  have hF := HF.out
  have hal : Below w3.heap.size w3 (w3.alloc (.cells #[.int .i64 1, .int .i64 1, .int .i64 0, .string ⟨#[]⟩, .string ⟨#[]⟩, .string ⟨#[]⟩, .slice none 0 0, .int .i64 0, .int .i64 1, .int .i64 1, .string ⟨#[]⟩, .string ⟨#[]⟩, .string ⟨#[]⟩, .slice none 0 0] 51)) := (Below.refl _ _).alloc (Nat.le_refl _) _
  replace HM := Lib.hid (HM.out.below hal); replace HROW := Lib.hid (HROW.out.below hal); replace HF := Lib.hid (below_step' hF hal)
  clear hF hal
  generalize w3.alloc (.cells #[.int .i64 1, .int .i64 1, .int .i64 0, .string ⟨#[]⟩, .string ⟨#[]⟩, .string ⟨#[]⟩, .slice none 0 0, .int .i64 0, .int .i64 1, .int .i64 1, .string ⟨#[]⟩, .string ⟨#[]⟩, .string ⟨#[]⟩, .slice none 0 0] 51) = w4 at *
  generalize w3.heap.size = b1 at *
  refine (column_any 0 w4).mono ?_; rintro e w5 ⟨rfl, h⟩
  replace HM := Lib.hid (HM.out.below h); replace HROW := Lib.hid (HROW.out.below h); replace HF := Lib.hid (below_step' HF.out h); replace H1 := Lib.hid (H1.out.below h H1.out.lt)
  clear h
  go_wp2_with fail
  refine (numex_any 5 w5).mono ?_; rintro e w6 ⟨rfl, h⟩
  replace HM := Lib.hid (HM.out.below h); replace HROW := Lib.hid (HROW.out.below h); replace HF := Lib.hid (below_step' HF.out h); replace H1 := Lib.hid (H1.out.below h H1.out.lt)
  clear h
  go_wp2_with fail
  have hF := HF.out
  have hal : Below w6.heap.size w6 (((w6.alloc (.cells #[.int .i64 1, .int .i64 1, .int .i64 0, .string ⟨#[]⟩, .string ⟨#[]⟩, .string ⟨#[]⟩, .slice none 0 0, .int .i64 0, .int .i64 1, .int .i64 5, .string ⟨#[]⟩, .string ⟨#[]⟩, .string ⟨#[]⟩, .slice none 0 0] 51)).alloc (.cells #[.int .i64 12, .int .i64 0, .int .i64 0, .string ⟨#[]⟩, .string ⟨#[]⟩, .string ⟨#[]⟩, .slice (some ⟨b1, 0, none⟩) 2 2, .int .i64 11, .int .i64 0, .int .i64 0, .string ⟨#[]⟩, .string ⟨#[]⟩, .string ⟨#[]⟩, .slice (some ⟨w6.heap.size, 0, none⟩) 2 2] 51)).alloc (.cells #[.int .i64 14, .int .i64 0, .int .i64 0, .string ⟨#[]⟩, .string ⟨#[]⟩, .string ⟨#[]⟩, .slice (some ⟨w6.heap.size + 1, 0, none⟩) 2 2] 51)) := (by (repeat (first | (with_reducible exact Below.refl _ _) | apply below_alloc _ (Nat.le_refl _) | refine below_set ?_ (by first | exact Nat.le_refl _ | omega) | apply below_drewN | refine below_step ?_ HB)))
  have H2 := ((Box.new w6 #[.int .i64 1, .int .i64 1, .int .i64 0, .string ⟨#[]⟩, .string ⟨#[]⟩, .string ⟨#[]⟩, .slice none 0 0, .int .i64 0, .int .i64 1, .int .i64 5, .string ⟨#[]⟩, .string ⟨#[]⟩, .string ⟨#[]⟩, .slice none 0 0] 51).alloc (.cells #[.int .i64 12, .int .i64 0, .int .i64 0, .string ⟨#[]⟩, .string ⟨#[]⟩, .string ⟨#[]⟩, .slice (some ⟨b1, 0, none⟩) 2 2, .int .i64 11, .int .i64 0, .int .i64 0, .string ⟨#[]⟩, .string ⟨#[]⟩, .string ⟨#[]⟩, .slice (some ⟨w6.heap.size, 0, none⟩) 2 2] 51)).alloc (.cells #[.int .i64 14, .int .i64 0, .int .i64 0, .string ⟨#[]⟩, .string ⟨#[]⟩, .string ⟨#[]⟩, .slice (some ⟨w6.heap.size + 1, 0, none⟩) 2 2] 51)
  have H3 := (Box.new (w6.alloc (.cells #[.int .i64 1, .int .i64 1, .int .i64 0, .string ⟨#[]⟩, .string ⟨#[]⟩, .string ⟨#[]⟩, .slice none 0 0, .int .i64 0, .int .i64 1, .int .i64 5, .string ⟨#[]⟩, .string ⟨#[]⟩, .string ⟨#[]⟩, .slice none 0 0] 51)) #[.int .i64 12, .int .i64 0, .int .i64 0, .string ⟨#[]⟩, .string ⟨#[]⟩, .string ⟨#[]⟩, .slice (some ⟨b1, 0, none⟩) 2 2, .int .i64 11, .int .i64 0, .int .i64 0, .string ⟨#[]⟩, .string ⟨#[]⟩, .string ⟨#[]⟩, .slice (some ⟨w6.heap.size, 0, none⟩) 2 2] 51).alloc (.cells #[.int .i64 14, .int .i64 0, .int .i64 0, .string ⟨#[]⟩, .string ⟨#[]⟩, .string ⟨#[]⟩, .slice (some ⟨w6.heap.size + 1, 0, none⟩) 2 2] 51)
  have H4 := Box.new ((w6.alloc (.cells #[.int .i64 1, .int .i64 1, .int .i64 0, .string ⟨#[]⟩, .string ⟨#[]⟩, .string ⟨#[]⟩, .slice none 0 0, .int .i64 0, .int .i64 1, .int .i64 5, .string ⟨#[]⟩, .string ⟨#[]⟩, .string ⟨#[]⟩, .slice none 0 0] 51)).alloc (.cells #[.int .i64 12, .int .i64 0, .int .i64 0, .string ⟨#[]⟩, .string ⟨#[]⟩, .string ⟨#[]⟩, .slice (some ⟨b1, 0, none⟩) 2 2, .int .i64 11, .int .i64 0, .int .i64 0, .string ⟨#[]⟩, .string ⟨#[]⟩, .string ⟨#[]⟩, .slice (some ⟨w6.heap.size, 0, none⟩) 2 2] 51)) #[.int .i64 14, .int .i64 0, .int .i64 0, .string ⟨#[]⟩, .string ⟨#[]⟩, .string ⟨#[]⟩, .slice (some ⟨w6.heap.size + 1, 0, none⟩) 2 2] 51
  have H1o := H1.out.below hal H1.out.lt
  replace HM := Lib.hid (HM.out.below hal); replace HROW := Lib.hid (HROW.out.below hal); replace HF := Lib.hid (below_step' hF hal)
  simp only [World.size_alloc] at H2 H3 H4
  clear hF hal H1
  have hch := achoose A1 ca (w6.heap.size + 1 + 1) b1 w6.heap.size (w6.heap.size + 1) 1 2 2 2 _ HROW.out HM.out H1o H2 H3 H4
  clear H1o H2 H3 H4 HM HROW
  unfold aggP aP at hch
  dsimp only at hch
  generalize ((w6.alloc (.cells #[.int .i64 1, .int .i64 1, .int .i64 0, .string ⟨#[]⟩, .string ⟨#[]⟩, .string ⟨#[]⟩, .slice none 0 0, .int .i64 0, .int .i64 1, .int .i64 5, .string ⟨#[]⟩, .string ⟨#[]⟩, .string ⟨#[]⟩, .slice none 0 0] 51)).alloc (.cells #[.int .i64 12, .int .i64 0, .int .i64 0, .string ⟨#[]⟩, .string ⟨#[]⟩, .string ⟨#[]⟩, .slice (some ⟨b1, 0, none⟩) 2 2, .int .i64 11, .int .i64 0, .int .i64 0, .string ⟨#[]⟩, .string ⟨#[]⟩, .string ⟨#[]⟩, .slice (some ⟨w6.heap.size, 0, none⟩) 2 2] 51)).alloc (.cells #[.int .i64 14, .int .i64 0, .int .i64 0, .string ⟨#[]⟩, .string ⟨#[]⟩, .string ⟨#[]⟩, .slice (some ⟨w6.heap.size + 1, 0, none⟩) 2 2] 51) = w7 at *
  refine hch.mono ?_; rintro e w8 ⟨rfl, h⟩
  clear hch
  replace HF := Lib.hid (below_step' HF.out h)
  clear h
  have hs := HF.out.size
  have HFo := HF.out.alloc hs (.cells #[.int .i64 0, .bool false, .int .i64 1, .int .i64 1, .string nos, .bool false, .bool false, .int .i64 1, .int .i64 5, .string nos, .bool true, .bool false] 32)
  go_wp2_with fail
  refine (numE_any 0 _).mono ?_; rintro e w9 ⟨rfl, rfl⟩
  go_wp2
  go_ret
  exact ⟨rfl, HFo⟩
end Go.Proofs.Ytfmfmammcjpboaa
