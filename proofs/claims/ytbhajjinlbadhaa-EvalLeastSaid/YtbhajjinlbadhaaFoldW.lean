/- Package eval: Fold of the least, the greatest; the sum of the law's example. -/
import Derived.Test.YtbhajjinlbadhaaBestW
import Derived.Test.YtbhajjinlbadhaaVal3
namespace Go.Proofs.Ytbhajjinlbadhaa
open Go.RowKit
open Go.Shelf
set_option linter.unusedVariables false
set_option linter.unusedSimpArgs false
attribute [local go_sem high] eqVal
def knownV (l : List V) : List V := l.filter (fun v => !(v.k == 0))
/-- eval.Fold of 21, 22. -/
def foldB (op : Int) (l : List V) : V := if (knownV l).length = 0 then V.nul else if op = 21 then leastV (knownV l) else mostV (knownV l)
theorem fold2_any (y : V) (w : World) : Calls Try.prog 22 #[.agg #[.int .i64 y.k, .int .i64 y.n, .string y.s]] w fun e w' => e = .returned (.bool (y.k == 0)) ∧ Below w.heap.size w w' := by
  obtain ⟨k, n, s⟩ := y
  dsimp only
  go_enter Try.func22, Try.ntmps22
  go_wp2
  go_ret
  exact ⟨rfl, (by (repeat (first | (with_reducible exact Below.refl _ _) | apply below_alloc _ (Nat.le_refl _) | refine below_set ?_ (by first | exact Nat.le_refl _ | omega) | apply below_drewN | refine below_step ?_ HB)))⟩
theorem fold1_any (n : Int) (w : World) : Calls Try.prog 19 #[.int .i64 n] w fun e w' => e = .returned (.tuple #[.agg #[.int .i64 1, .int .i64 n, .string ⟨#[]⟩], .int .i64 0]) ∧ Below w.heap.size w w' := by
  go_enter Try.func19, Try.ntmps19
  go_wp2
  exact bodyPost_ret (v := .tuple #[.agg #[.int .i64 1, .int .i64 n, .string ⟨#[]⟩], .int .i64 0]) (by simp [results, Try.results19, go_sem]) rfl ⟨rfl, (by (repeat (first | (with_reducible exact Below.refl _ _) | apply below_alloc _ (Nat.le_refl _) | refine below_set ?_ (by first | exact Nat.le_refl _ | omega) | apply below_drewN | refine below_step ?_ HB)))⟩
theorem clo_known (base : Nat) : Clo 22 #[] #[] (fun _ => False) base (fun y => y.k == 0) (fun _ => []) (fun a _ => a) := by
  intro acc y W hJ
  refine (fold2_any y W).mono ?_
  rintro e w' ⟨rfl, h⟩
  exact ⟨rfl, Kept.of_below h hJ.1, ⟨Nat.le_trans hJ.1 h.size, fun q hq => by cases hq⟩, fun _ => h⟩
set_option maxHeartbeats 4000000 in
set_option maxRecDepth 100000 in
theorem known_any (A : Option Addr) (c : Nat) (l : List V) (w : World) (HR : RowE encU 3 w A l) (hn : A = none → c = 0) (hl : l.length ≤ 4398046510976) :
    ∀ (v : Value) (w1 : World), w1.ownsRow w.heap.size 23 3 v l.length (l.flatMap encU) → Below w.heap.size w w1 →
    Calls Try.prog 20 #[v, .func (.func 22) #[] #[]] w1 fun e w' => ∃ u, e = .returned u ∧ SlB encU 3 w.heap.size w' u (knownV l) ∧ Below w.heap.size w w' := by
  intro v w1 hown hb
  have eg : ∀ args w, (callFunc 22 args).run Try.prog w = .ok (.enter 22 args) w := enters_of Try.func22 (by kernel_rfl) rfl
  obtain ⟨Av, cv, rfl, hcv, hnv⟩ := own_slice hown
  have hgb : ∀ b, Av = some ⟨b, 0, none⟩ → w.heap.size ≤ b ∧ b < w1.heap.size := fun b h => by subst h; exact hown.lt b rfl
  refine (delete_own Av cv w.heap.size l 22 #[] #[] (fun _ => False) w1.heap.size (fun y => y.k == 0) (fun _ => []) (fun a _ => a) V.nul w1 eg (clo_known _) hown hb.size (fun b h => ⟨(hgb b h).2, fun h => h, fun acc q hq => by cases hq⟩) ⟨Nat.le_refl _, fun q hq => by cases hq⟩ hl).mono ?_
  rintro e w' ⟨A', rfl, h1, h2, _⟩
  exact ⟨_, rfl, SlB.of_own encU_len (by decide) (Nat.le_refl _) h2, hb.trans (h1.to_below (Nat.le_refl _) (fun k h => h.elim))⟩
set_option maxHeartbeats 4000000 in
set_option maxRecDepth 100000 in
theorem foldB_any (op : Int) (hop : op = 21 ∨ op = 22) (A : Option Addr) (c : Nat) (l : List V) (w : World) (HR : RowE encU 3 w A l) (hn : A = none → c = 0) (hl : l.length ≤ 4398046510976) :
    Calls Try.prog 9 #[.int .i64 op, .slice A l.length c] w fun e w' => e = .returned (.tuple #[.agg #[.int .i64 (foldB op l).k, .int .i64 (foldB op l).n, .string (foldB op l).s], .int .i64 0]) ∧ Below w.heap.size w w' := by
  have ba : Below w.heap.size w (w.alloc (.cells #[.int .i64 0, .int .i64 0, .string ⟨#[]⟩] 23)) := (Below.refl _ w).alloc (Nat.le_refl _) _
  have BR := Lib.hid (Box.new w #[.int .i64 0, .int .i64 0, .string ⟨#[]⟩] 23)
  have HF := Lib.hid ba
  have hcl := lclone_own A c l _ (HR.below ba) hn hl
  have HKN := Lib.hid (known_any A c l _ (HR.below ba) hn hl)
  have hkl : (knownV l).length ≤ l.length := List.length_filter_le _ _
  have HB0 : Hid ((knownV l).length = 0 → foldB op l = V.nul) := Lib.hid (fun h => by unfold foldB; rw [if_pos h])
  have HB1 : Hid ((knownV l).length ≠ 0 → op = 21 → foldB op l = leastV (knownV l)) := Lib.hid (fun h h2 => by unfold foldB; rw [if_neg h, if_pos h2])
  have HB2 : Hid ((knownV l).length ≠ 0 → op = 22 → foldB op l = mostV (knownV l)) := Lib.hid (fun h h2 => by unfold foldB; rw [if_neg h, if_neg (by omega)])
  clear ba HR
  rcases hop with rfl | rfl
  · go_enter Try.func9, Try.ntmps9
    go_wp2_with fail
    generalize hw0 : w.alloc (.cells #[.int .i64 0, .int .i64 0, .string ⟨#[]⟩] 23) = w0 at *
    have hz0 : w.heap.size < w0.heap.size := by rw [← hw0]; simp
    clear hw0
    refine hcl.mono ?_; rintro e w1 ⟨v1, rfl, hown, h1⟩
    have hkn := HKN.out v1 w1 hown h1
    clear hcl hown h1
    go_wp2_with fail
    refine hkn.mono ?_; rintro e w2 ⟨u, rfl, hu, h2⟩
    obtain ⟨A2, c2, rfl, hcu, hr2, hn2, _⟩ := hu
    have BR2 := Lib.hid (BR.out.step h2)
    have HF2 := Lib.hid (HF.out.trans (h2.mono (by omega)))
    have hz2 := h2.size
    clear hkn h2
    by_cases k0 : (knownV l).length = 0
    · have HV := Lib.hid (HB0.out k0)
      have cBR20 := BR2.out.c 0 _ rfl; have fBR20 := BR2.out.f 0 (by simp); have cBR21 := BR2.out.c 1 _ rfl; have fBR21 := BR2.out.f 1 (by simp); have cBR22 := BR2.out.c 2 _ rfl; have fBR22 := BR2.out.f 2 (by simp); have lBR2 := BR2.out.lt
      rw [k0]
      go_wp2
      refine bodyPost_ret (v := .tuple #[.agg #[.int .i64 0, .int .i64 0, .string ⟨#[]⟩], .int .i64 0]) (by simp [results, Try.results9, go_sem, cBR20, cBR21, cBR22, lBR2]) rfl ?_
      rw [HV.out]
      exact ⟨rfl, Below.setCell (Below.setCell (Below.setCell HF2.out (Nat.le_refl _) _) (Nat.le_refl _) _) (Nat.le_refl _) _⟩
    · have HV := Lib.hid (HB1.out k0 (by trivial))
      have hbest := least_any A2 c2 (knownV l) w2 hr2 (fun h => k0 (by rw [h]; rfl)) (by omega)
      clear hr2
      go_wp2_with fail
      refine hbest.mono ?_; rintro e w3 ⟨rfl, h3⟩
      have BR3 := Lib.hid (BR2.out.step h3)
      have HF3 := Lib.hid (HF2.out.trans (h3.mono (by omega)))
      clear hbest h3
      have cBR30 := BR3.out.c 0 _ rfl; have fBR30 := BR3.out.f 0 (by simp); have cBR31 := BR3.out.c 1 _ rfl; have fBR31 := BR3.out.f 1 (by simp); have cBR32 := BR3.out.c 2 _ rfl; have fBR32 := BR3.out.f 2 (by simp); have lBR3 := BR3.out.lt
      go_wp2
      refine bodyPost_ret (v := .tuple #[.agg #[.int .i64 (leastV (knownV l)).k, .int .i64 (leastV (knownV l)).n, .string (leastV (knownV l)).s], .int .i64 0]) (by simp [results, Try.results9, go_sem, cBR30, cBR31, cBR32, lBR3]) rfl ?_
      rw [HV.out]
      exact ⟨rfl, Below.setCell (Below.setCell (Below.setCell HF3.out (Nat.le_refl _) _) (Nat.le_refl _) _) (Nat.le_refl _) _⟩
  · go_enter Try.func9, Try.ntmps9
    go_wp2_with fail
    generalize hw0 : w.alloc (.cells #[.int .i64 0, .int .i64 0, .string ⟨#[]⟩] 23) = w0 at *
    have hz0 : w.heap.size < w0.heap.size := by rw [← hw0]; simp
    clear hw0
    refine hcl.mono ?_; rintro e w1 ⟨v1, rfl, hown, h1⟩
    have hkn := HKN.out v1 w1 hown h1
    clear hcl hown h1
    go_wp2_with fail
    refine hkn.mono ?_; rintro e w2 ⟨u, rfl, hu, h2⟩
    obtain ⟨A2, c2, rfl, hcu, hr2, hn2, _⟩ := hu
    have BR2 := Lib.hid (BR.out.step h2)
    have HF2 := Lib.hid (HF.out.trans (h2.mono (by omega)))
    have hz2 := h2.size
    clear hkn h2
    by_cases k0 : (knownV l).length = 0
    · have HV := Lib.hid (HB0.out k0)
      have cBR20 := BR2.out.c 0 _ rfl; have fBR20 := BR2.out.f 0 (by simp); have cBR21 := BR2.out.c 1 _ rfl; have fBR21 := BR2.out.f 1 (by simp); have cBR22 := BR2.out.c 2 _ rfl; have fBR22 := BR2.out.f 2 (by simp); have lBR2 := BR2.out.lt
      rw [k0]
      go_wp2
      refine bodyPost_ret (v := .tuple #[.agg #[.int .i64 0, .int .i64 0, .string ⟨#[]⟩], .int .i64 0]) (by simp [results, Try.results9, go_sem, cBR20, cBR21, cBR22, lBR2]) rfl ?_
      rw [HV.out]
      exact ⟨rfl, Below.setCell (Below.setCell (Below.setCell HF2.out (Nat.le_refl _) _) (Nat.le_refl _) _) (Nat.le_refl _) _⟩
    · have HV := Lib.hid (HB2.out k0 (by trivial))
      have hbest := most_any A2 c2 (knownV l) w2 hr2 (fun h => k0 (by rw [h]; rfl)) (by omega)
      clear hr2
      go_wp2_with fail
      refine hbest.mono ?_; rintro e w3 ⟨rfl, h3⟩
      have BR3 := Lib.hid (BR2.out.step h3)
      have HF3 := Lib.hid (HF2.out.trans (h3.mono (by omega)))
      clear hbest h3
      have cBR30 := BR3.out.c 0 _ rfl; have fBR30 := BR3.out.f 0 (by simp); have cBR31 := BR3.out.c 1 _ rfl; have fBR31 := BR3.out.f 1 (by simp); have cBR32 := BR3.out.c 2 _ rfl; have fBR32 := BR3.out.f 2 (by simp); have lBR3 := BR3.out.lt
      go_wp2
      refine bodyPost_ret (v := .tuple #[.agg #[.int .i64 (mostV (knownV l)).k, .int .i64 (mostV (knownV l)).n, .string (mostV (knownV l)).s], .int .i64 0]) (by simp [results, Try.results9, go_sem, cBR30, cBR31, cBR32, lBR3]) rfl ?_
      rw [HV.out]
      exact ⟨rfl, Below.setCell (Below.setCell (Below.setCell HF3.out (Nat.le_refl _) _) (Nat.le_refl _) _) (Nat.le_refl _) _⟩
theorem sum_is (a b : Int) (ha : 0 ≤ a) (ha' : a ≤ 100) (hb : 0 ≤ b) (hb' : b ≤ 100) : vreckon 4 ⟨1, a, ⟨#[]⟩⟩ ⟨1, b, ⟨#[]⟩⟩ = (⟨1, a + b, ⟨#[]⟩⟩, 0) := by
  have h : InR (a + b) := ⟨by omega, by omega⟩
  simp [vreckon, vfit, vcheck, nreckon, h, V.num, ByteArray.toList_eq]
/-- The sum of the example. -/
def sumL : List V := [⟨1, 2, ⟨#[]⟩⟩, ⟨0, 0, ⟨#[]⟩⟩, ⟨1, 3, ⟨#[]⟩⟩]
theorem known_sum : knownV sumL = [⟨1, 2, ⟨#[]⟩⟩, ⟨1, 3, ⟨#[]⟩⟩] := rfl
def accS (j : Nat) : Int := if j = 0 then 0 else if j = 1 then 2 else 5
set_option maxHeartbeats 4000000 in
set_option maxRecDepth 100000 in
theorem foldS_any (A : Option Addr) (c : Nat) (w : World) (HR : RowE encU 3 w A sumL) (hn : A = none → c = 0) :
    Calls Try.prog 9 #[.int .i64 20, .slice A 3 c] w fun e w' => e = .returned (.tuple #[.agg #[.int .i64 1, .int .i64 5, .string ⟨#[]⟩], .int .i64 0]) ∧ Below w.heap.size w w' := by
  have eg : ∀ args w, (callFunc 19 args).run Try.prog w = .ok (.enter 19 args) w := enters_of Try.func19 (by kernel_rfl) rfl
  have ba : Below w.heap.size w (w.alloc (.cells #[.int .i64 0, .int .i64 0, .string ⟨#[]⟩] 23)) := (Below.refl _ w).alloc (Nat.le_refl _) _
  have BR := Lib.hid (Box.new w #[.int .i64 0, .int .i64 0, .string ⟨#[]⟩] 23)
  have HF := Lib.hid ba
  have hcl := lclone_own A c sumL _ (HR.below ba) hn (by simp [sumL])
  have HKN := Lib.hid (known_any A c sumL _ (HR.below ba) hn (by simp [sumL]))
  rw [show sumL.length = 3 from rfl] at hcl HKN
  clear ba HR
  go_enter Try.func9, Try.ntmps9
  go_wp2_with fail
  generalize hw0 : w.alloc (.cells #[.int .i64 0, .int .i64 0, .string ⟨#[]⟩] 23) = w0 at *
  have hz0 : w.heap.size < w0.heap.size := by rw [← hw0]; simp
  clear hw0
  refine hcl.mono ?_; rintro e w1 ⟨v1, rfl, hown, h1⟩
  have hkn := HKN.out v1 w1 hown h1
  rw [known_sum] at hkn
  clear hcl hown h1 HKN
  go_wp2_with fail
  refine hkn.mono ?_; rintro e w2 ⟨u, rfl, hu, h2⟩
  obtain ⟨A2, c2, rfl, hcu, hr2, hn2, _⟩ := hu
  obtain ⟨b0, off, rfl, hb0, hcx⟩ := hr2 0 _ rfl
  have HC := Lib.hid hcx
  have BR2 := Lib.hid (BR.out.step h2)
  have HF2 := Lib.hid (HF.out.trans (h2.mono (by omega)))
  have hz2 := h2.size
  clear hkn h2 hcx hr2
  go_wp2_with (go_at_fn 19; refine (fold1_any 0 _).mono ?_; rintro e w3 ⟨rfl, h3⟩)
  have BR3 := Lib.hid ((BR2.out.step h3).alloc (.cells #[.int .i64 1, .int .i64 0, .string ⟨#[]⟩] 23))
  have BA := Lib.hid (Box.new w3 #[.int .i64 1, .int .i64 0, .string ⟨#[]⟩] 23)
  have HB3 := Lib.hid (Below.alloc h3 h3.size (.cells #[.int .i64 1, .int .i64 0, .string ⟨#[]⟩] 23))
  have hz3 := h3.size
  clear h3
  generalize hwv : w3.alloc (.cells #[.int .i64 1, .int .i64 0, .string ⟨#[]⟩] 23) = wv at *
  clear hwv
  generalize hb8 : w3.heap.size = b8 at *
  clear hb8
  have hlen : ([⟨1, 2, ⟨#[]⟩⟩, ⟨1, 3, ⟨#[]⟩⟩] : List V).length = 2 := rfl
  go_loopw [62, 12] (fun s62 s12 wr => ∃ j : Nat, j ≤ 2 ∧ s62 = .int .i64 j ∧ Hid (Below w2.heap.size w2 wr) ∧ Hid (Box wr w.heap.size [.int .i64 0, .int .i64 0, .string ⟨#[]⟩]) ∧ Hid (Box wr b8 [.int .i64 1, .int .i64 (accS j), .string ⟨#[]⟩])) (fun s62 _ _ => 2 - (Lib.intOf s62).toNat)
  case atStart => exact ⟨0, by omega, rfl, HB3, BR3, BA⟩
  case round =>
    obtain ⟨j, hj, rfl, HFr, HR0, HA0⟩ := hrel
    clear BA BR3 HB3
    have hcases : j = 0 ∨ j = 1 ∨ j = 2 := by omega
    have hb8r := HA0.out.lt
    have hwr0 := HR0.out.lt
    have hzr := HFr.out.size
    rcases hcases with rfl | rfl | rfl
    · have kc : ∀ q u, (encU ⟨1, 2, ⟨#[]⟩⟩)[q]? = some u → wr.cell? ⟨b0, off + 0 + q, none⟩ = some u := fun q u hu => (HFr.out.cell (p := ⟨b0, _, none⟩) hb0).trans (by simpa using HC.out 0 ⟨1, 2, ⟨#[]⟩⟩ rfl q u hu)
      have g0 := kc 0 _ rfl
      have g1 := kc 1 _ rfl
      have g2 := kc 2 _ rfl
      simp only [Nat.add_zero] at g0 g1 g2
      have hrk := fun W => Reckon_any 4 1 0 ⟨#[]⟩ 1 2 ⟨#[]⟩ W (by decide) (by decide)
      rw [sum_is 0 2 (by decide) (by decide) (by decide) (by decide)] at hrk
      have HRK := Lib.hid hrk
      have HB2 := Lib.hid (HFr.out.alloc hzr (.cells #[.int .i64 1, .int .i64 2, .string ⟨#[]⟩] 23))
      have HR2 := Lib.hid (HR0.out.alloc (.cells #[.int .i64 1, .int .i64 2, .string ⟨#[]⟩] 23))
      have HA2 := Lib.hid (HA0.out.alloc (.cells #[.int .i64 1, .int .i64 2, .string ⟨#[]⟩] 23))
      clear kc hrk
      have cHA00 := HA0.out.c 0 _ rfl; have fHA00 := HA0.out.f 0 (by simp); have cHA01 := HA0.out.c 1 _ rfl; have fHA01 := HA0.out.f 1 (by simp); have cHA02 := HA0.out.c 2 _ rfl; have fHA02 := HA0.out.f 2 (by simp); have lHA0 := HA0.out.lt
      have hac : accS 0 = 0 := rfl
      have hac2 : accS 1 = 2 := rfl
      have HAC := Lib.hid hac2
      rw [hac] at cHA01
      clear hac hac2
      go_wp2_with fail
      refine (HRK.out _).mono ?_; rintro e w4 ⟨rfl, h4⟩
      have HB4 := Lib.hid (HB2.out.trans (h4.mono (by simp; omega)))
      have HR4 := Lib.hid (HR2.out.step h4)
      have HA4 := Lib.hid (HA2.out.step h4)
      have hz4 := h4.size
      clear h4 HRK HB2 HR2 HA2 g0 g1 g2
      clear cHA00 fHA00 cHA01 fHA01 cHA02 fHA02 lHA0
      have cHA40 := HA4.out.c 0 _ rfl; have fHA40 := HA4.out.f 0 (by simp); have cHA41 := HA4.out.c 1 _ rfl; have fHA41 := HA4.out.f 1 (by simp); have cHA42 := HA4.out.c 2 _ rfl; have fHA42 := HA4.out.f 2 (by simp); have lHA4 := HA4.out.lt
      go_wp2
      go_roundw
      case rel =>
        refine ⟨1, by omega, by go_num, Lib.hid ?_, Lib.hid ?_, Lib.hid ?_⟩
        · exact Below.setCell (Below.setCell (Below.setCell HB4.out (by simp; omega) _) (by simp; omega) _) (by simp; omega) _
        · exact ((HR4.out.other _ _ (by simp; omega)).other _ _ (by simp; omega)).other _ _ (by simp; omega)
        · rw [HAC.out]
          exact ((HA4.out.set 0 _ (by simp)).set 1 _ (by simp)).set 2 _ (by simp)
      case measure => simp [Lib.intOf]
    · have kc : ∀ q u, (encU ⟨1, 3, ⟨#[]⟩⟩)[q]? = some u → wr.cell? ⟨b0, off + 3 + q, none⟩ = some u := fun q u hu => (HFr.out.cell (p := ⟨b0, _, none⟩) hb0).trans (by simpa using HC.out 1 ⟨1, 3, ⟨#[]⟩⟩ rfl q u hu)
      have g0 := kc 0 _ rfl
      have g1 := kc 1 _ rfl
      have g2 := kc 2 _ rfl
      simp only [Nat.add_zero] at g0 g1 g2
      have hrk := fun W => Reckon_any 4 1 2 ⟨#[]⟩ 1 3 ⟨#[]⟩ W (by decide) (by decide)
      rw [sum_is 2 3 (by decide) (by decide) (by decide) (by decide)] at hrk
      have HRK := Lib.hid hrk
      have HB2 := Lib.hid (HFr.out.alloc hzr (.cells #[.int .i64 1, .int .i64 3, .string ⟨#[]⟩] 23))
      have HR2 := Lib.hid (HR0.out.alloc (.cells #[.int .i64 1, .int .i64 3, .string ⟨#[]⟩] 23))
      have HA2 := Lib.hid (HA0.out.alloc (.cells #[.int .i64 1, .int .i64 3, .string ⟨#[]⟩] 23))
      clear kc hrk
      have cHA00 := HA0.out.c 0 _ rfl; have fHA00 := HA0.out.f 0 (by simp); have cHA01 := HA0.out.c 1 _ rfl; have fHA01 := HA0.out.f 1 (by simp); have cHA02 := HA0.out.c 2 _ rfl; have fHA02 := HA0.out.f 2 (by simp); have lHA0 := HA0.out.lt
      have hac : accS 1 = 2 := rfl
      have hac2 : accS 2 = 5 := rfl
      have HAC := Lib.hid hac2
      rw [hac] at cHA01
      clear hac hac2
      go_wp2_with fail
      refine (HRK.out _).mono ?_; rintro e w4 ⟨rfl, h4⟩
      have HB4 := Lib.hid (HB2.out.trans (h4.mono (by simp; omega)))
      have HR4 := Lib.hid (HR2.out.step h4)
      have HA4 := Lib.hid (HA2.out.step h4)
      have hz4 := h4.size
      clear h4 HRK HB2 HR2 HA2 g0 g1 g2
      clear cHA00 fHA00 cHA01 fHA01 cHA02 fHA02 lHA0
      have cHA40 := HA4.out.c 0 _ rfl; have fHA40 := HA4.out.f 0 (by simp); have cHA41 := HA4.out.c 1 _ rfl; have fHA41 := HA4.out.f 1 (by simp); have cHA42 := HA4.out.c 2 _ rfl; have fHA42 := HA4.out.f 2 (by simp); have lHA4 := HA4.out.lt
      go_wp2
      go_roundw
      case rel =>
        refine ⟨2, by omega, by go_num, Lib.hid ?_, Lib.hid ?_, Lib.hid ?_⟩
        · exact Below.setCell (Below.setCell (Below.setCell HB4.out (by simp; omega) _) (by simp; omega) _) (by simp; omega) _
        · exact ((HR4.out.other _ _ (by simp; omega)).other _ _ (by simp; omega)).other _ _ (by simp; omega)
        · rw [HAC.out]
          exact ((HA4.out.set 0 _ (by simp)).set 1 _ (by simp)).set 2 _ (by simp)
      case measure => simp [Lib.intOf]
    · have hac : accS 2 = 5 := rfl
      rw [hac] at HA0
      have cHR00 := HR0.out.c 0 _ rfl; have fHR00 := HR0.out.f 0 (by simp); have cHR01 := HR0.out.c 1 _ rfl; have fHR01 := HR0.out.f 1 (by simp); have cHR02 := HR0.out.c 2 _ rfl; have fHR02 := HR0.out.f 2 (by simp); have lHR0 := HR0.out.lt; have cHA00 := HA0.out.c 0 _ rfl; have fHA00 := HA0.out.f 0 (by simp); have cHA01 := HA0.out.c 1 _ rfl; have fHA01 := HA0.out.f 1 (by simp); have cHA02 := HA0.out.c 2 _ rfl; have fHA02 := HA0.out.f 2 (by simp); have lHA0 := HA0.out.lt
      have hF := Lib.hid (HF2.out.trans (HFr.out.mono (by omega)))
      go_wp2
      exact bodyPost_ret (v := .tuple #[.agg #[.int .i64 1, .int .i64 5, .string ⟨#[]⟩], .int .i64 0]) (by simp [results, Try.results9, go_sem, cHR00, cHR01, cHR02, lHR0]) rfl ⟨rfl, Below.setCell (Below.setCell (Below.setCell hF.out (Nat.le_refl _) _) (Nat.le_refl _) _) (Nat.le_refl _) _⟩
end Go.Proofs.Ytbhajjinlbadhaa
