/- slices.MinFunc, MaxFunc of values, by value.Order. -/
import Derived.Test.YtbhajjinlbadhaaFxC
import Derived.Test.YtbhajjinlbadhaaLater
import Derived.Shelf.Abstract
namespace Go.Proofs.Ytbhajjinlbadhaa
open Go.RowKit
open Go.Shelf
set_option linter.unusedVariables false
set_option linter.unusedSimpArgs false
def leastV : List V → V
  | [] => V.nul
  | x :: l => l.foldl (fun m x => if vorder x m < 0 then x else m) x
theorem least_snoc {l : List V} {j : Nat} {x : V} (hj : 0 < j) (hx : l[j]? = some x) : leastV (l.take (j + 1)) = if vorder x (leastV (l.take j)) < 0 then x else leastV (l.take j) := by
  obtain ⟨j, rfl⟩ : ∃ i, j = i + 1 := ⟨j - 1, by omega⟩
  cases l with
  | nil => simp at hx
  | cons a l =>
    have hx' : l[j]? = some x := by simpa using hx
    have e : l.take (j + 1) = l.take j ++ [x] := by rw [List.take_add_one, hx']; rfl
    rw [show (a :: l).take (j + 1 + 1) = a :: l.take (j + 1) from rfl, show (a :: l).take (j + 1) = a :: l.take j from rfl, e]
    simp only [leastV, List.foldl_append, List.foldl_cons, List.foldl_nil]
    rfl
set_option maxHeartbeats 4000000 in
set_option maxRecDepth 100000 in
theorem least_any (A : Option Addr) (c : Nat) (l : List V) (w : World) (HR : RowE encU 3 w A l) (h0 : l ≠ []) (hl : l.length ≤ 4398046510976) :
    Calls Try.prog 23 #[.slice A l.length c, .func (.func 10) #[] #[]] w fun e w' => e = .returned (.agg #[.int .i64 (leastV l).k, .int .i64 (leastV l).n, .string (leastV l).s]) ∧ Below w.heap.size w w' := by
  have eg : ∀ args w, (callFunc 10 args).run Try.prog w = .ok (.enter 10 args) w := enters_of Try.func10 (by kernel_rfl) rfl
  have hpos : 0 < l.length := List.length_pos_iff.2 h0
  obtain ⟨x0, hx0⟩ : ∃ x, l[0]? = some x := ⟨_, List.getElem?_eq_getElem hpos⟩
  obtain ⟨b0, off, rfl, hb0, hcx⟩ := HR 0 x0 hx0
  have HC := Lib.hid hcx
  have hS0 : leastV (l.take 1) = x0 := by
    cases l with
    | nil => simp at hx0
    | cons a l => simp at hx0; subst hx0; rfl
  have HB := Lib.hid (HC.out 0 x0 hx0)
  have ba : Below w.heap.size w (w.alloc (.cells #[.int .i64 0, .int .i64 0, .string ⟨#[]⟩] 23)) := (Below.refl _ w).alloc (Nat.le_refl _) _
  have hc1 : ∀ q u, (encU x0)[q]? = some u → (w.alloc (.cells #[.int .i64 0, .int .i64 0, .string ⟨#[]⟩] 23)).cell? ⟨b0, off + q, none⟩ = some u := fun q u hu => (ba.cell (p := ⟨b0, _, none⟩) hb0).trans (by simpa using HB.out q u hu)
  have g0 := hc1 0 _ rfl
  have g1 := hc1 1 _ rfl
  have g2 := hc1 2 _ rfl
  simp only [Nat.add_zero] at g0
  have BR := Lib.hid ((Box.new w #[.int .i64 0, .int .i64 0, .string ⟨#[]⟩] 23).alloc (.cells #[.int .i64 x0.k, .int .i64 x0.n, .string x0.s] 23))
  have BM := Lib.hid (Box.new (w.alloc (.cells #[.int .i64 0, .int .i64 0, .string ⟨#[]⟩] 23)) #[.int .i64 x0.k, .int .i64 x0.n, .string x0.s] 23)
  have HF := Lib.hid ((ba.alloc (by simp) (.cells #[.int .i64 x0.k, .int .i64 x0.n, .string x0.s] 23)))
  have HS0 := Lib.hid hS0
  simp only [World.size_alloc] at BM
  clear ba hcx hx0 hc1 h0 hS0 HR HB
  go_enter Try.func23, Try.ntmps23
  go_wp2_with fail
  clear g0 g1 g2
  generalize hw1 : (w.alloc (.cells #[.int .i64 0, .int .i64 0, .string ⟨#[]⟩] 23)).alloc (.cells #[.int .i64 x0.k, .int .i64 x0.n, .string x0.s] 23) = w1 at *
  have hz1 : w.heap.size + 2 ≤ w1.heap.size := by rw [← hw1]; simp
  clear hw1
  go_loopw [6] (fun s6 wr => ∃ j : Nat, 1 ≤ j ∧ j ≤ l.length ∧ s6 = .int .i64 j ∧ Hid (Below w.heap.size w wr) ∧ w.heap.size + 2 ≤ wr.heap.size ∧ Hid (Box wr w.heap.size [.int .i64 0, .int .i64 0, .string ⟨#[]⟩]) ∧ Hid (Box wr (w.heap.size + 1) [.int .i64 (leastV (l.take j)).k, .int .i64 (leastV (l.take j)).n, .string (leastV (l.take j)).s])) (fun s6 _ => l.length - (Lib.intOf s6).toNat)
  case atStart => exact ⟨1, Nat.le_refl _, by omega, rfl, HF, hz1, BR, by rw [HS0.out]; exact BM⟩
  case round =>
    clear hz1
    obtain ⟨j, h1j, hj, rfl, HFr, hzr, HR0, HM0⟩ := hrel
    by_cases hlt : j < l.length
    · obtain ⟨x, hx⟩ : ∃ x, l[j]? = some x := ⟨_, List.getElem?_eq_getElem hlt⟩
      have kc : ∀ q u, (encU x)[q]? = some u → wr.cell? ⟨b0, off + j * 3 + q, none⟩ = some u := fun q u hu => (HFr.out.cell (p := ⟨b0, _, none⟩) hb0).trans (HC.out j x hx q u hu)
      have g0 := kc 0 _ rfl
      have g1 := kc 1 _ rfl
      have g2 := kc 2 _ rfl
      simp only [Nat.add_zero] at g0
      have HSN := Lib.hid (least_snoc (by omega) hx)
      have hb2 : b0 < wr.heap.size := by omega
      clear kc hx
      have hod := fun W => order_any x.k x.n x.s (leastV (l.take j)).k (leastV (l.take j)).n (leastV (l.take j)).s W
      have heta : vorder ⟨x.k, x.n, x.s⟩ ⟨(leastV (l.take j)).k, (leastV (l.take j)).n, (leastV (l.take j)).s⟩ = vorder x (leastV (l.take j)) := rfl
      rw [heta] at hod
      clear heta
      generalize leastV (l.take j) = m at *
      generalize hvo : vorder x m = vo at *
      clear hvo
      have C1 : Hid (∀ p : Later wr, Calls Try.prog 10 #[.agg #[.int .i64 x.k, .int .i64 x.n, .string x.s], .agg #[.int .i64 m.k, .int .i64 m.n, .string m.s]] p.W fun e w' => e = .returned (.int .i64 vo) ∧ Below p.W.heap.size p.W w') := Lib.hid (fun p => hod p.W)
      clear hod
      obtain ⟨xk, xn, xs⟩ := x
      dsimp only at *
      have p0 := later_cell hb2 g0
      have p1 := later_cell hb2 g1
      have p2 := later_cell hb2 g2
      have r0 := later_cell HM0.out.lt (HM0.out.c 0 _ rfl)
      have r1 := later_cell HM0.out.lt (HM0.out.c 1 _ rfl)
      have r2 := later_cell HM0.out.lt (HM0.out.c 2 _ rfl)
      by_cases hvo : vo < 0
      · have HSN' := Lib.hid (HSN.out.trans (if_pos hvo))
        go_wp2_with fail
        (refine wp_region_later (by kernel_rfl) (by kernel_rfl) ?_
         repeat (first | go_big_quiet_step ((go_at_fn 10; exact later_of (C1.out _))) | quiet_step ((go_at_fn 10; exact later_of (C1.out _))))
         refine wpQuiet_nil ?_
         intro _ hw'
         obtain ⟨qL, hw''⟩ := hw'
         subst hw''
         obtain ⟨wL, h⟩ := qL)
        have HFL := Lib.hid (HFr.out.trans (h.mono (by omega)))
        have HRL := Lib.hid (HR0.out.step h)
        have HML := Lib.hid (HM0.out.step h)
        have d0 := p0 ⟨wL, h⟩
        have d1 := p1 ⟨wL, h⟩
        have d2 := p2 ⟨wL, h⟩
        have e0 := HML.out.c 0 _ rfl
        have e1 := HML.out.c 1 _ rfl
        have e2 := HML.out.c 2 _ rfl
        have f0 := HML.out.f 0 (by simp)
        have f1 := HML.out.f 1 (by simp)
        have f2 := HML.out.f 2 (by simp)
        have le := HML.out.lt
        dsimp only at d0 d1 d2
        clear p0 p1 p2 r0 r1 r2 C1 HSN
        go_wp2
        go_roundw
        case rel =>
          refine ⟨j + 1, by omega, by omega, by go_num, Lib.hid ?_, by simp; omega, Lib.hid ?_, Lib.hid ?_⟩
          · exact Below.setCell (Below.setCell (Below.setCell HFL.out (by simp) _) (by simp) _) (by simp) _
          · exact ((HRL.out.other _ _ (by simp)).other _ _ (by simp)).other _ _ (by simp)
          · rw [HSN'.out]
            exact ((HML.out.set 0 _ (by simp)).set 1 _ (by simp)).set 2 _ (by simp)
        case measure => simp [Lib.intOf]; omega
      · have HSN' := Lib.hid (HSN.out.trans (if_neg hvo))
        go_wp2_with fail
        (refine wp_region_later (by kernel_rfl) (by kernel_rfl) ?_
         repeat (first | go_big_quiet_step ((go_at_fn 10; exact later_of (C1.out _))) | quiet_step ((go_at_fn 10; exact later_of (C1.out _))))
         refine wpQuiet_nil ?_
         intro _ hw'
         obtain ⟨qL, hw''⟩ := hw'
         subst hw''
         obtain ⟨wL, h⟩ := qL)
        have HFL := Lib.hid (HFr.out.trans (h.mono (by omega)))
        have HRL := Lib.hid (HR0.out.step h)
        have HML := Lib.hid (HM0.out.step h)
        have zL := h.size
        clear p0 p1 p2 r0 r1 r2 C1 HSN
        go_wp2
        go_roundw
        case rel => exact ⟨j + 1, by omega, by omega, by go_num, HFL, by omega, HRL, by rw [HSN'.out]; exact HML⟩
        case measure => simp [Lib.intOf]; omega
    · obtain rfl : j = l.length := by omega
      rw [List.take_length] at HM0
      have cHR00 := HR0.out.c 0 _ rfl; have fHR00 := HR0.out.f 0 (by simp); have cHR01 := HR0.out.c 1 _ rfl; have fHR01 := HR0.out.f 1 (by simp); have cHR02 := HR0.out.c 2 _ rfl; have fHR02 := HR0.out.f 2 (by simp); have lHR0 := HR0.out.lt; have cHM00 := HM0.out.c 0 _ rfl; have fHM00 := HM0.out.f 0 (by simp); have cHM01 := HM0.out.c 1 _ rfl; have fHM01 := HM0.out.f 1 (by simp); have cHM02 := HM0.out.c 2 _ rfl; have fHM02 := HM0.out.f 2 (by simp); have lHM0 := HM0.out.lt
      go_wp2
      exact bodyPost_ret (v := .agg #[.int .i64 (leastV l).k, .int .i64 (leastV l).n, .string (leastV l).s]) (by simp [results, Try.results23, go_sem, cHR00, cHR01, cHR02, lHR0]) rfl ⟨rfl, Below.setCell (Below.setCell (Below.setCell HFr.out (Nat.le_refl _) _) (Nat.le_refl _) _) (Nat.le_refl _) _⟩
def mostV : List V → V
  | [] => V.nul
  | x :: l => l.foldl (fun m x => if 0 < vorder x m then x else m) x
theorem most_snoc {l : List V} {j : Nat} {x : V} (hj : 0 < j) (hx : l[j]? = some x) : mostV (l.take (j + 1)) = if 0 < vorder x (mostV (l.take j)) then x else mostV (l.take j) := by
  obtain ⟨j, rfl⟩ : ∃ i, j = i + 1 := ⟨j - 1, by omega⟩
  cases l with
  | nil => simp at hx
  | cons a l =>
    have hx' : l[j]? = some x := by simpa using hx
    have e : l.take (j + 1) = l.take j ++ [x] := by rw [List.take_add_one, hx']; rfl
    rw [show (a :: l).take (j + 1 + 1) = a :: l.take (j + 1) from rfl, show (a :: l).take (j + 1) = a :: l.take j from rfl, e]
    simp only [mostV, List.foldl_append, List.foldl_cons, List.foldl_nil]
    rfl
set_option maxHeartbeats 4000000 in
set_option maxRecDepth 100000 in
theorem most_any (A : Option Addr) (c : Nat) (l : List V) (w : World) (HR : RowE encU 3 w A l) (h0 : l ≠ []) (hl : l.length ≤ 4398046510976) :
    Calls Try.prog 24 #[.slice A l.length c, .func (.func 10) #[] #[]] w fun e w' => e = .returned (.agg #[.int .i64 (mostV l).k, .int .i64 (mostV l).n, .string (mostV l).s]) ∧ Below w.heap.size w w' := by
  have eg : ∀ args w, (callFunc 10 args).run Try.prog w = .ok (.enter 10 args) w := enters_of Try.func10 (by kernel_rfl) rfl
  have hpos : 0 < l.length := List.length_pos_iff.2 h0
  obtain ⟨x0, hx0⟩ : ∃ x, l[0]? = some x := ⟨_, List.getElem?_eq_getElem hpos⟩
  obtain ⟨b0, off, rfl, hb0, hcx⟩ := HR 0 x0 hx0
  have HC := Lib.hid hcx
  have hS0 : mostV (l.take 1) = x0 := by
    cases l with
    | nil => simp at hx0
    | cons a l => simp at hx0; subst hx0; rfl
  have HB := Lib.hid (HC.out 0 x0 hx0)
  have ba : Below w.heap.size w (w.alloc (.cells #[.int .i64 0, .int .i64 0, .string ⟨#[]⟩] 23)) := (Below.refl _ w).alloc (Nat.le_refl _) _
  have hc1 : ∀ q u, (encU x0)[q]? = some u → (w.alloc (.cells #[.int .i64 0, .int .i64 0, .string ⟨#[]⟩] 23)).cell? ⟨b0, off + q, none⟩ = some u := fun q u hu => (ba.cell (p := ⟨b0, _, none⟩) hb0).trans (by simpa using HB.out q u hu)
  have g0 := hc1 0 _ rfl
  have g1 := hc1 1 _ rfl
  have g2 := hc1 2 _ rfl
  simp only [Nat.add_zero] at g0
  have BR := Lib.hid ((Box.new w #[.int .i64 0, .int .i64 0, .string ⟨#[]⟩] 23).alloc (.cells #[.int .i64 x0.k, .int .i64 x0.n, .string x0.s] 23))
  have BM := Lib.hid (Box.new (w.alloc (.cells #[.int .i64 0, .int .i64 0, .string ⟨#[]⟩] 23)) #[.int .i64 x0.k, .int .i64 x0.n, .string x0.s] 23)
  have HF := Lib.hid ((ba.alloc (by simp) (.cells #[.int .i64 x0.k, .int .i64 x0.n, .string x0.s] 23)))
  have HS0 := Lib.hid hS0
  simp only [World.size_alloc] at BM
  clear ba hcx hx0 hc1 h0 hS0 HR HB
  go_enter Try.func24, Try.ntmps24
  go_wp2_with fail
  clear g0 g1 g2
  generalize hw1 : (w.alloc (.cells #[.int .i64 0, .int .i64 0, .string ⟨#[]⟩] 23)).alloc (.cells #[.int .i64 x0.k, .int .i64 x0.n, .string x0.s] 23) = w1 at *
  have hz1 : w.heap.size + 2 ≤ w1.heap.size := by rw [← hw1]; simp
  clear hw1
  go_loopw [6] (fun s6 wr => ∃ j : Nat, 1 ≤ j ∧ j ≤ l.length ∧ s6 = .int .i64 j ∧ Hid (Below w.heap.size w wr) ∧ w.heap.size + 2 ≤ wr.heap.size ∧ Hid (Box wr w.heap.size [.int .i64 0, .int .i64 0, .string ⟨#[]⟩]) ∧ Hid (Box wr (w.heap.size + 1) [.int .i64 (mostV (l.take j)).k, .int .i64 (mostV (l.take j)).n, .string (mostV (l.take j)).s])) (fun s6 _ => l.length - (Lib.intOf s6).toNat)
  case atStart => exact ⟨1, Nat.le_refl _, by omega, rfl, HF, hz1, BR, by rw [HS0.out]; exact BM⟩
  case round =>
    clear hz1
    obtain ⟨j, h1j, hj, rfl, HFr, hzr, HR0, HM0⟩ := hrel
    by_cases hlt : j < l.length
    · obtain ⟨x, hx⟩ : ∃ x, l[j]? = some x := ⟨_, List.getElem?_eq_getElem hlt⟩
      have kc : ∀ q u, (encU x)[q]? = some u → wr.cell? ⟨b0, off + j * 3 + q, none⟩ = some u := fun q u hu => (HFr.out.cell (p := ⟨b0, _, none⟩) hb0).trans (HC.out j x hx q u hu)
      have g0 := kc 0 _ rfl
      have g1 := kc 1 _ rfl
      have g2 := kc 2 _ rfl
      simp only [Nat.add_zero] at g0
      have HSN := Lib.hid (most_snoc (by omega) hx)
      have hb2 : b0 < wr.heap.size := by omega
      clear kc hx
      have hod := fun W => order_any x.k x.n x.s (mostV (l.take j)).k (mostV (l.take j)).n (mostV (l.take j)).s W
      have heta : vorder ⟨x.k, x.n, x.s⟩ ⟨(mostV (l.take j)).k, (mostV (l.take j)).n, (mostV (l.take j)).s⟩ = vorder x (mostV (l.take j)) := rfl
      rw [heta] at hod
      clear heta
      generalize mostV (l.take j) = m at *
      generalize hvo : vorder x m = vo at *
      clear hvo
      have C1 : Hid (∀ p : Later wr, Calls Try.prog 10 #[.agg #[.int .i64 x.k, .int .i64 x.n, .string x.s], .agg #[.int .i64 m.k, .int .i64 m.n, .string m.s]] p.W fun e w' => e = .returned (.int .i64 vo) ∧ Below p.W.heap.size p.W w') := Lib.hid (fun p => hod p.W)
      clear hod
      obtain ⟨xk, xn, xs⟩ := x
      dsimp only at *
      have p0 := later_cell hb2 g0
      have p1 := later_cell hb2 g1
      have p2 := later_cell hb2 g2
      have r0 := later_cell HM0.out.lt (HM0.out.c 0 _ rfl)
      have r1 := later_cell HM0.out.lt (HM0.out.c 1 _ rfl)
      have r2 := later_cell HM0.out.lt (HM0.out.c 2 _ rfl)
      by_cases hvo : 0 < vo
      · have HSN' := Lib.hid (HSN.out.trans (if_pos hvo))
        go_wp2_with fail
        (refine wp_region_later (by kernel_rfl) (by kernel_rfl) ?_
         repeat (first | go_big_quiet_step ((go_at_fn 10; exact later_of (C1.out _))) | quiet_step ((go_at_fn 10; exact later_of (C1.out _))))
         refine wpQuiet_nil ?_
         intro _ hw'
         obtain ⟨qL, hw''⟩ := hw'
         subst hw''
         obtain ⟨wL, h⟩ := qL)
        have HFL := Lib.hid (HFr.out.trans (h.mono (by omega)))
        have HRL := Lib.hid (HR0.out.step h)
        have HML := Lib.hid (HM0.out.step h)
        have d0 := p0 ⟨wL, h⟩
        have d1 := p1 ⟨wL, h⟩
        have d2 := p2 ⟨wL, h⟩
        have e0 := HML.out.c 0 _ rfl
        have e1 := HML.out.c 1 _ rfl
        have e2 := HML.out.c 2 _ rfl
        have f0 := HML.out.f 0 (by simp)
        have f1 := HML.out.f 1 (by simp)
        have f2 := HML.out.f 2 (by simp)
        have le := HML.out.lt
        dsimp only at d0 d1 d2
        clear p0 p1 p2 r0 r1 r2 C1 HSN
        go_wp2
        go_roundw
        case rel =>
          refine ⟨j + 1, by omega, by omega, by go_num, Lib.hid ?_, by simp; omega, Lib.hid ?_, Lib.hid ?_⟩
          · exact Below.setCell (Below.setCell (Below.setCell HFL.out (by simp) _) (by simp) _) (by simp) _
          · exact ((HRL.out.other _ _ (by simp)).other _ _ (by simp)).other _ _ (by simp)
          · rw [HSN'.out]
            exact ((HML.out.set 0 _ (by simp)).set 1 _ (by simp)).set 2 _ (by simp)
        case measure => simp [Lib.intOf]; omega
      · have HSN' := Lib.hid (HSN.out.trans (if_neg hvo))
        go_wp2_with fail
        (refine wp_region_later (by kernel_rfl) (by kernel_rfl) ?_
         repeat (first | go_big_quiet_step ((go_at_fn 10; exact later_of (C1.out _))) | quiet_step ((go_at_fn 10; exact later_of (C1.out _))))
         refine wpQuiet_nil ?_
         intro _ hw'
         obtain ⟨qL, hw''⟩ := hw'
         subst hw''
         obtain ⟨wL, h⟩ := qL)
        have HFL := Lib.hid (HFr.out.trans (h.mono (by omega)))
        have HRL := Lib.hid (HR0.out.step h)
        have HML := Lib.hid (HM0.out.step h)
        have zL := h.size
        clear p0 p1 p2 r0 r1 r2 C1 HSN
        go_wp2
        go_roundw
        case rel => exact ⟨j + 1, by omega, by omega, by go_num, HFL, by omega, HRL, by rw [HSN'.out]; exact HML⟩
        case measure => simp [Lib.intOf]; omega
    · obtain rfl : j = l.length := by omega
      rw [List.take_length] at HM0
      have cHR00 := HR0.out.c 0 _ rfl; have fHR00 := HR0.out.f 0 (by simp); have cHR01 := HR0.out.c 1 _ rfl; have fHR01 := HR0.out.f 1 (by simp); have cHR02 := HR0.out.c 2 _ rfl; have fHR02 := HR0.out.f 2 (by simp); have lHR0 := HR0.out.lt; have cHM00 := HM0.out.c 0 _ rfl; have fHM00 := HM0.out.f 0 (by simp); have cHM01 := HM0.out.c 1 _ rfl; have fHM01 := HM0.out.f 1 (by simp); have cHM02 := HM0.out.c 2 _ rfl; have fHM02 := HM0.out.f 2 (by simp); have lHM0 := HM0.out.lt
      go_wp2
      exact bodyPost_ret (v := .agg #[.int .i64 (mostV l).k, .int .i64 (mostV l).n, .string (mostV l).s]) (by simp [results, Try.results24, go_sem, cHR00, cHR01, cHR02, lHR0]) rfl ⟨rfl, Below.setCell (Below.setCell (Below.setCell HFr.out (Nat.le_refl _) _) (Nat.le_refl _) _) (Nat.le_refl _) _⟩
end Go.Proofs.Ytbhajjinlbadhaa
