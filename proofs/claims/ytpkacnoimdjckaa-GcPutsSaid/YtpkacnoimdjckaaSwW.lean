/- Package gc: Sweep, Undo, Commit. -/
import Derived.Test.YtpkacnoimdjckaaCloG
namespace Go.Proofs.Ytpkacnoimdjckaa
open Go.RowKit
open Go.Shelf
set_option linter.unusedVariables false
set_option linter.unusedSimpArgs false
theorem pruneR_le (h : Int) (l : List Ver) : (pruneR h l).length ≤ l.length := by
  unfold pruneR; split
  · exact prune_len h l
  · simp
theorem undo_le (t : Int) (l : List Ver) : (undo t l).length ≤ l.length := by
  unfold undo; (repeat' split) <;> simp
theorem commitT_le (t s : Int) (l : List Ver) : (commitT t s l).1.length ≤ l.length := by
  cases l with
  | nil => simp [commitT]
  | cons x m =>
    show (if x.st = 0 ∧ x.tx = t then commitR t s x.gone x.val m else (x :: m, 0)).1.length ≤ _
    unfold commitR; (repeat' split) <;> simp
def sweepT (h : Int) (l : List Ver) : List Ver × Int := (pruneR h l, chk l)
def undoT (t : Int) (l : List Ver) : List Ver × Int := (undo t l, chk l)
set_option maxHeartbeats 4000000 in
set_option maxRecDepth 100000 in
theorem sweep_any (AK AL : Option Addr) (ck cl : Nat) (ks : List ByteArray) (ls : List (List Ver)) (h : Int) (w : World)
    (HK : RowE encS 1 w AK ks) (HL : RowL w AL ls) (hk : ks.length ≤ 140737488355328) (hl : ls.length ≤ 140737488355328) :
    Calls Try.prog 15 #[.agg #[.slice AK ks.length ck, .slice AL ls.length cl], .int .i64 h] w fun e w' =>
      ∃ v, e = .returned (.tuple #[v, .int .i64 (chgR (sweepT h) ks ls).2.2.1, .int .i64 (chgR (sweepT h) ks ls).2.2.2]) ∧ ChB w.heap.size w' v (chgR (sweepT h) ks ls).1 (chgR (sweepT h) ks ls).2.1 ∧ Below w.heap.size w w' := by
  have eg : ∀ args w, (callFunc 37 args).run Try.prog w = .ok (.enter 37 args) w := enters_of Try.func37 (by kernel_rfl) rfl
  have BC := Lib.hid (((Box.new w #[.slice AK ks.length ck, .slice AL ls.length cl] 28).alloc (.cells #[.int .i64 h] 3)).alloc (.cells #[.slice none 0 0, .slice none 0 0] 28))
  have BI0 := Lib.hid ((Box.new (w.alloc (.cells #[.slice AK ks.length ck, .slice AL ls.length cl] 28)) #[.int .i64 h] 3).alloc (.cells #[.slice none 0 0, .slice none 0 0] 28))
  have BR := Lib.hid (Box.new ((w.alloc (.cells #[.slice AK ks.length ck, .slice AL ls.length cl] 28)).alloc (.cells #[.int .i64 h] 3)) #[.slice none 0 0, .slice none 0 0] 28)
  have h0 : Below w.heap.size w (((w.alloc (.cells #[.slice AK ks.length ck, .slice AL ls.length cl] 28)).alloc (.cells #[.int .i64 h] 3)).alloc (.cells #[.slice none 0 0, .slice none 0 0] 28)) := (by (repeat (first | (with_reducible exact Below.refl _ _) | apply below_alloc _ (Nat.le_refl _) | refine below_set ?_ (by first | exact Nat.le_refl _ | omega) | apply below_drewN | refine below_step ?_ HB)))
  have RK := Lib.hid (HK.below h0)
  have RL := Lib.hid (HL.below h0)
  have HF := Lib.hid h0
  simp only [World.size_alloc, Nat.add_assoc, Nat.reduceAdd] at BI0 BR
  clear HK HL h0
  obtain ⟨g, hg⟩ : ∃ g, g = chgR (sweepT h) ks ls := ⟨_, rfl⟩
  rw [← hg]
  replace hg := Lib.hid hg
  go_enter Try.func15, Try.ntmps15
  have cBC0 := BC.out.c 0 _ rfl; have fBC0 := BC.out.f 0 (by simp); have cBC1 := BC.out.c 1 _ rfl; have fBC1 := BC.out.f 1 (by simp); have lBC := BC.out.lt; have cBR0 := BR.out.c 0 _ rfl; have fBR0 := BR.out.f 0 (by simp); have cBR1 := BR.out.c 1 _ rfl; have fBR1 := BR.out.f 1 (by simp); have lBR := BR.out.lt; have cBI00 := BI0.out.c 0 _ rfl; have fBI00 := BI0.out.f 0 (by simp); have lBI0 := BI0.out.lt
  go_wp2_with fail
  generalize (((w.alloc (.cells #[.slice AK ks.length ck, .slice AL ls.length cl] 28)).alloc (.cells #[.int .i64 h] 3)).alloc (.cells #[.slice none 0 0, .slice none 0 0] 28)) = w0 at *
  clear cBC0 fBC0 cBC1 fBC1 lBC; clear cBR0 fBR0 cBR1 fBR1 lBR; clear cBI00 fBI00 lBI0
  have hz0 : w.heap.size + 3 ≤ w0.heap.size := BR.out.lt
  have hch := change_any AK AL ck cl ks ls 37 #[] #[.pointer (some ⟨w.heap.size + 1, 0, none⟩)] (sweepT h) w0 RK.out RL.out hk hl (fun l hc => Nat.le_trans (pruneR_le h l) (by have := chk_len hc; omega)) eg (fun W A c l h0 hc hb hr hn hcap => sweep1_any (w.heap.size + 1) h A c l W (BI0.out.step hb) hr hn hcap)
  rw [← hg.out] at hch
  clear hg
  refine hch.mono ?_; rintro e w1 ⟨v, rfl, hv, hb⟩
  replace BC := Lib.hid (BC.out.below hb BC.out.lt); replace BR := Lib.hid (BR.out.below hb BR.out.lt); replace HF := Lib.hid (below_step' HF.out hb)
  have HV := Lib.hid (hv.mono hz0)
  obtain ⟨AK', AL', ck', cl', rfl, _⟩ := hv
  clear hch hb RK RL
  have BR2 := BR
  have HV2 := HV
  have HF2 := HF
  clear BR HV HF
  have cBC0 := BC.out.c 0 _ rfl; have fBC0 := BC.out.f 0 (by simp); have cBC1 := BC.out.c 1 _ rfl; have fBC1 := BC.out.f 1 (by simp); have lBC := BC.out.lt; have cBR20 := BR2.out.c 0 _ rfl; have fBR20 := BR2.out.f 0 (by simp); have cBR21 := BR2.out.c 1 _ rfl; have fBR21 := BR2.out.f 1 (by simp); have lBR2 := BR2.out.lt
  go_wp2_with fail
  clear cBC0 fBC0 cBC1 fBC1 lBC; clear cBR20 fBR20 cBR21 fBR21 lBR2
  have HX := Lib.hid (below_set (g := w.heap.size + 2) (j := 1) (v := .slice AL' g.2.1.length cl') (below_set (g := w.heap.size + 2) (j := 0) (v := .slice AK' g.1.length ck') HF2.out (Nat.le_add_right _ _)) (Nat.le_add_right _ _))
  have BX : Hid (Box ((w1.setCell ⟨w.heap.size + 2, 0, none⟩ (.slice AK' g.1.length ck')).setCell ⟨w.heap.size + 2, 1, none⟩ (.slice AL' g.2.1.length cl')) (w.heap.size + 2) [.slice AK' g.1.length ck', .slice AL' g.2.1.length cl']) := Lib.hid ((BR2.out.set 0 (.slice AK' g.1.length ck') (by simp)).set 1 (.slice AL' g.2.1.length cl') (by simp))
  have HV3 : Hid (ChB w.heap.size ((w1.setCell ⟨w.heap.size + 2, 0, none⟩ (.slice AK' g.1.length ck')).setCell ⟨w.heap.size + 2, 1, none⟩ (.slice AL' g.2.1.length cl')) (.agg #[.slice AK' g.1.length ck', .slice AL' g.2.1.length cl']) g.1 g.2.1) := Lib.hid (((HV2.out.set ⟨w.heap.size + 2, 0, none⟩ _ (Nat.lt_succ_self _)).set ⟨w.heap.size + 2, 1, none⟩ _ (Nat.lt_succ_self _)).mono (by omega))
  generalize (w1.setCell ⟨w.heap.size + 2, 0, none⟩ (.slice AK' g.1.length ck')).setCell ⟨w.heap.size + 2, 1, none⟩ (.slice AL' g.2.1.length cl') = wz at *
  have cBX0 := BX.out.c 0 _ rfl; have fBX0 := BX.out.f 0 (by simp); have cBX1 := BX.out.c 1 _ rfl; have fBX1 := BX.out.f 1 (by simp); have lBX := BX.out.lt
  refine bodyPost_ret (v := .tuple #[.agg #[.slice AK' g.1.length ck', .slice AL' g.2.1.length cl'], .int .i64 g.2.2.1, .int .i64 g.2.2.2]) (by simp [results, Try.results15, go_sem, cBX0, cBX1]) rfl ?_
  exact ⟨_, rfl, HV3.out, HX.out⟩
set_option maxHeartbeats 4000000 in
set_option maxRecDepth 100000 in
theorem gundo_any (AK AL : Option Addr) (ck cl : Nat) (ks : List ByteArray) (ls : List (List Ver)) (h : Int) (w : World)
    (HK : RowE encS 1 w AK ks) (HL : RowL w AL ls) (hk : ks.length ≤ 140737488355328) (hl : ls.length ≤ 140737488355328) :
    Calls Try.prog 23 #[.agg #[.slice AK ks.length ck, .slice AL ls.length cl], .int .i64 h] w fun e w' =>
      ∃ v, e = .returned (.tuple #[v, .int .i64 (chgR (undoT h) ks ls).2.2.2]) ∧ ChB w.heap.size w' v (chgR (undoT h) ks ls).1 (chgR (undoT h) ks ls).2.1 ∧ Below w.heap.size w w' := by
  have eg : ∀ args w, (callFunc 44 args).run Try.prog w = .ok (.enter 44 args) w := enters_of Try.func44 (by kernel_rfl) rfl
  have BC := Lib.hid (((Box.new w #[.slice AK ks.length ck, .slice AL ls.length cl] 28).alloc (.cells #[.int .i64 h] 3)).alloc (.cells #[.slice none 0 0, .slice none 0 0] 28))
  have BI0 := Lib.hid ((Box.new (w.alloc (.cells #[.slice AK ks.length ck, .slice AL ls.length cl] 28)) #[.int .i64 h] 3).alloc (.cells #[.slice none 0 0, .slice none 0 0] 28))
  have BR := Lib.hid (Box.new ((w.alloc (.cells #[.slice AK ks.length ck, .slice AL ls.length cl] 28)).alloc (.cells #[.int .i64 h] 3)) #[.slice none 0 0, .slice none 0 0] 28)
  have h0 : Below w.heap.size w (((w.alloc (.cells #[.slice AK ks.length ck, .slice AL ls.length cl] 28)).alloc (.cells #[.int .i64 h] 3)).alloc (.cells #[.slice none 0 0, .slice none 0 0] 28)) := (by (repeat (first | (with_reducible exact Below.refl _ _) | apply below_alloc _ (Nat.le_refl _) | refine below_set ?_ (by first | exact Nat.le_refl _ | omega) | apply below_drewN | refine below_step ?_ HB)))
  have RK := Lib.hid (HK.below h0)
  have RL := Lib.hid (HL.below h0)
  have HF := Lib.hid h0
  simp only [World.size_alloc, Nat.add_assoc, Nat.reduceAdd] at BI0 BR
  clear HK HL h0
  obtain ⟨g, hg⟩ : ∃ g, g = chgR (undoT h) ks ls := ⟨_, rfl⟩
  rw [← hg]
  replace hg := Lib.hid hg
  go_enter Try.func23, Try.ntmps23
  have cBC0 := BC.out.c 0 _ rfl; have fBC0 := BC.out.f 0 (by simp); have cBC1 := BC.out.c 1 _ rfl; have fBC1 := BC.out.f 1 (by simp); have lBC := BC.out.lt; have cBR0 := BR.out.c 0 _ rfl; have fBR0 := BR.out.f 0 (by simp); have cBR1 := BR.out.c 1 _ rfl; have fBR1 := BR.out.f 1 (by simp); have lBR := BR.out.lt; have cBI00 := BI0.out.c 0 _ rfl; have fBI00 := BI0.out.f 0 (by simp); have lBI0 := BI0.out.lt
  go_wp2_with fail
  generalize (((w.alloc (.cells #[.slice AK ks.length ck, .slice AL ls.length cl] 28)).alloc (.cells #[.int .i64 h] 3)).alloc (.cells #[.slice none 0 0, .slice none 0 0] 28)) = w0 at *
  clear cBC0 fBC0 cBC1 fBC1 lBC; clear cBR0 fBR0 cBR1 fBR1 lBR; clear cBI00 fBI00 lBI0
  have hz0 : w.heap.size + 3 ≤ w0.heap.size := BR.out.lt
  have hch := change_any AK AL ck cl ks ls 44 #[] #[.pointer (some ⟨w.heap.size + 1, 0, none⟩)] (undoT h) w0 RK.out RL.out hk hl (fun l hc => Nat.le_trans (undo_le h l) (by have := chk_len hc; omega)) eg (fun W A c l h0 hc hb hr hn hcap => undo1_any (w.heap.size + 1) h A c l W (BI0.out.step hb) hr hn)
  rw [← hg.out] at hch
  clear hg
  refine hch.mono ?_; rintro e w1 ⟨v, rfl, hv, hb⟩
  replace BC := Lib.hid (BC.out.below hb BC.out.lt); replace BR := Lib.hid (BR.out.below hb BR.out.lt); replace HF := Lib.hid (below_step' HF.out hb)
  have HV := Lib.hid (hv.mono hz0)
  obtain ⟨AK', AL', ck', cl', rfl, _⟩ := hv
  clear hch hb RK RL
  have cBC0 := BC.out.c 0 _ rfl; have fBC0 := BC.out.f 0 (by simp); have cBC1 := BC.out.c 1 _ rfl; have fBC1 := BC.out.f 1 (by simp); have lBC := BC.out.lt; have cBR0 := BR.out.c 0 _ rfl; have fBR0 := BR.out.f 0 (by simp); have cBR1 := BR.out.c 1 _ rfl; have fBR1 := BR.out.f 1 (by simp); have lBR := BR.out.lt
  go_upto_region 2 with (fail)
  clear cBC0 fBC0 cBC1 fBC1 lBC; clear cBR0 fBR0 cBR1 fBR1 lBR
  have HF2 := Lib.hid (HF.out.alloc HF.out.size (.cells #[.slice AK' g.1.length ck', .slice AL' g.2.1.length cl'] 28))
  have BN : Hid (Box (w1.alloc (.cells #[.slice AK' g.1.length ck', .slice AL' g.2.1.length cl'] 28)) w1.heap.size [.slice AK' g.1.length ck', .slice AL' g.2.1.length cl']) := Lib.hid (Box.new w1 #[.slice AK' g.1.length ck', .slice AL' g.2.1.length cl'] 28)
  have BR2 := Lib.hid (BR.out.alloc (.cells #[.slice AK' g.1.length ck', .slice AL' g.2.1.length cl'] 28))
  have HV2 := Lib.hid (HV.out.alloc (.cells #[.slice AK' g.1.length ck', .slice AL' g.2.1.length cl'] 28))
  clear BC BR HV HF
  generalize w1.alloc (.cells #[.slice AK' g.1.length ck', .slice AL' g.2.1.length cl'] 28) = w2 at *
  generalize w1.heap.size = g1 at *
  have cBN0 := BN.out.c 0 _ rfl; have fBN0 := BN.out.f 0 (by simp); have cBN1 := BN.out.c 1 _ rfl; have fBN1 := BN.out.f 1 (by simp); have lBN := BN.out.lt; have cBR20 := BR2.out.c 0 _ rfl; have fBR20 := BR2.out.f 0 (by simp); have cBR21 := BR2.out.c 1 _ rfl; have fBR21 := BR2.out.f 1 (by simp); have lBR2 := BR2.out.lt
  go_wp2_with fail
  clear cBN0 fBN0 cBN1 fBN1 lBN; clear cBR20 fBR20 cBR21 fBR21 lBR2
  have HX := Lib.hid (below_set (g := w.heap.size + 2) (j := 1) (v := .slice AL' g.2.1.length cl') (below_set (g := w.heap.size + 2) (j := 0) (v := .slice AK' g.1.length ck') HF2.out (Nat.le_add_right _ _)) (Nat.le_add_right _ _))
  have BX : Hid (Box ((w2.setCell ⟨w.heap.size + 2, 0, none⟩ (.slice AK' g.1.length ck')).setCell ⟨w.heap.size + 2, 1, none⟩ (.slice AL' g.2.1.length cl')) (w.heap.size + 2) [.slice AK' g.1.length ck', .slice AL' g.2.1.length cl']) := Lib.hid ((BR2.out.set 0 (.slice AK' g.1.length ck') (by simp)).set 1 (.slice AL' g.2.1.length cl') (by simp))
  have HV3 : Hid (ChB w.heap.size ((w2.setCell ⟨w.heap.size + 2, 0, none⟩ (.slice AK' g.1.length ck')).setCell ⟨w.heap.size + 2, 1, none⟩ (.slice AL' g.2.1.length cl')) (.agg #[.slice AK' g.1.length ck', .slice AL' g.2.1.length cl']) g.1 g.2.1) := Lib.hid (((HV2.out.set ⟨w.heap.size + 2, 0, none⟩ _ (Nat.lt_succ_self _)).set ⟨w.heap.size + 2, 1, none⟩ _ (Nat.lt_succ_self _)).mono (by omega))
  generalize (w2.setCell ⟨w.heap.size + 2, 0, none⟩ (.slice AK' g.1.length ck')).setCell ⟨w.heap.size + 2, 1, none⟩ (.slice AL' g.2.1.length cl') = wz at *
  have cBX0 := BX.out.c 0 _ rfl; have fBX0 := BX.out.f 0 (by simp); have cBX1 := BX.out.c 1 _ rfl; have fBX1 := BX.out.f 1 (by simp); have lBX := BX.out.lt
  refine bodyPost_ret (v := .tuple #[.agg #[.slice AK' g.1.length ck', .slice AL' g.2.1.length cl'], .int .i64 g.2.2.2]) (by simp [results, Try.results23, go_sem, cBX0, cBX1]) rfl ?_
  exact ⟨_, rfl, HV3.out, HX.out⟩
set_option maxHeartbeats 4000000 in
set_option maxRecDepth 100000 in
theorem gcommit_any (AK AL : Option Addr) (ck cl : Nat) (ks : List ByteArray) (ls : List (List Ver)) (t s : Int) (w : World)
    (HK : RowE encS 1 w AK ks) (HL : RowL w AL ls) (hk : ks.length ≤ 140737488355328) (hl : ls.length ≤ 140737488355328) :
    Calls Try.prog 35 #[.agg #[.slice AK ks.length ck, .slice AL ls.length cl], .int .i64 t, .int .i64 s] w fun e w' =>
      ∃ v, e = .returned (.tuple #[v, .int .i64 (chgR (commitT t s) ks ls).2.2.2]) ∧ ChB w.heap.size w' v (chgR (commitT t s) ks ls).1 (chgR (commitT t s) ks ls).2.1 ∧ Below w.heap.size w w' := by
  have eg : ∀ args w, (callFunc 58 args).run Try.prog w = .ok (.enter 58 args) w := enters_of Try.func58 (by kernel_rfl) rfl
  have BC := Lib.hid ((((Box.new w #[.slice AK ks.length ck, .slice AL ls.length cl] 28).alloc (.cells #[.int .i64 t] 3)).alloc (.cells #[.int .i64 s] 3)).alloc (.cells #[.slice none 0 0, .slice none 0 0] 28))
  have BI0 := Lib.hid (((Box.new (w.alloc (.cells #[.slice AK ks.length ck, .slice AL ls.length cl] 28)) #[.int .i64 t] 3).alloc (.cells #[.int .i64 s] 3)).alloc (.cells #[.slice none 0 0, .slice none 0 0] 28))
  have BI1 := Lib.hid ((Box.new ((w.alloc (.cells #[.slice AK ks.length ck, .slice AL ls.length cl] 28)).alloc (.cells #[.int .i64 t] 3)) #[.int .i64 s] 3).alloc (.cells #[.slice none 0 0, .slice none 0 0] 28))
  have BR := Lib.hid (Box.new (((w.alloc (.cells #[.slice AK ks.length ck, .slice AL ls.length cl] 28)).alloc (.cells #[.int .i64 t] 3)).alloc (.cells #[.int .i64 s] 3)) #[.slice none 0 0, .slice none 0 0] 28)
  have h0 : Below w.heap.size w ((((w.alloc (.cells #[.slice AK ks.length ck, .slice AL ls.length cl] 28)).alloc (.cells #[.int .i64 t] 3)).alloc (.cells #[.int .i64 s] 3)).alloc (.cells #[.slice none 0 0, .slice none 0 0] 28)) := (by (repeat (first | (with_reducible exact Below.refl _ _) | apply below_alloc _ (Nat.le_refl _) | refine below_set ?_ (by first | exact Nat.le_refl _ | omega) | apply below_drewN | refine below_step ?_ HB)))
  have RK := Lib.hid (HK.below h0)
  have RL := Lib.hid (HL.below h0)
  have HF := Lib.hid h0
  simp only [World.size_alloc, Nat.add_assoc, Nat.reduceAdd] at BI0 BI1 BR
  clear HK HL h0
  obtain ⟨g, hg⟩ : ∃ g, g = chgR (commitT t s) ks ls := ⟨_, rfl⟩
  rw [← hg]
  replace hg := Lib.hid hg
  go_enter Try.func35, Try.ntmps35
  have cBC0 := BC.out.c 0 _ rfl; have fBC0 := BC.out.f 0 (by simp); have cBC1 := BC.out.c 1 _ rfl; have fBC1 := BC.out.f 1 (by simp); have lBC := BC.out.lt; have cBR0 := BR.out.c 0 _ rfl; have fBR0 := BR.out.f 0 (by simp); have cBR1 := BR.out.c 1 _ rfl; have fBR1 := BR.out.f 1 (by simp); have lBR := BR.out.lt; have cBI00 := BI0.out.c 0 _ rfl; have fBI00 := BI0.out.f 0 (by simp); have lBI0 := BI0.out.lt; have cBI10 := BI1.out.c 0 _ rfl; have fBI10 := BI1.out.f 0 (by simp); have lBI1 := BI1.out.lt
  go_wp2_with fail
  generalize ((((w.alloc (.cells #[.slice AK ks.length ck, .slice AL ls.length cl] 28)).alloc (.cells #[.int .i64 t] 3)).alloc (.cells #[.int .i64 s] 3)).alloc (.cells #[.slice none 0 0, .slice none 0 0] 28)) = w0 at *
  clear cBC0 fBC0 cBC1 fBC1 lBC; clear cBR0 fBR0 cBR1 fBR1 lBR; clear cBI00 fBI00 lBI0; clear cBI10 fBI10 lBI1
  have hz0 : w.heap.size + 4 ≤ w0.heap.size := BR.out.lt
  have hch := change_any AK AL ck cl ks ls 58 #[] #[.pointer (some ⟨w.heap.size + 1, 0, none⟩), .pointer (some ⟨w.heap.size + 2, 0, none⟩)] (commitT t s) w0 RK.out RL.out hk hl (fun l hc => Nat.le_trans (commitT_le t s l) (by have := chk_len hc; omega)) eg (fun W A c l h0 hc hb hr hn hcap => commit1_any (w.heap.size + 1) (w.heap.size + 2) t s A c l W (BI0.out.step hb) (BI1.out.step hb) hr hn h0 hc)
  rw [← hg.out] at hch
  clear hg
  refine hch.mono ?_; rintro e w1 ⟨v, rfl, hv, hb⟩
  replace BC := Lib.hid (BC.out.below hb BC.out.lt); replace BR := Lib.hid (BR.out.below hb BR.out.lt); replace HF := Lib.hid (below_step' HF.out hb)
  have HV := Lib.hid (hv.mono hz0)
  obtain ⟨AK', AL', ck', cl', rfl, _⟩ := hv
  clear hch hb RK RL
  have cBC0 := BC.out.c 0 _ rfl; have fBC0 := BC.out.f 0 (by simp); have cBC1 := BC.out.c 1 _ rfl; have fBC1 := BC.out.f 1 (by simp); have lBC := BC.out.lt; have cBR0 := BR.out.c 0 _ rfl; have fBR0 := BR.out.f 0 (by simp); have cBR1 := BR.out.c 1 _ rfl; have fBR1 := BR.out.f 1 (by simp); have lBR := BR.out.lt
  go_upto_region 2 with (fail)
  clear cBC0 fBC0 cBC1 fBC1 lBC; clear cBR0 fBR0 cBR1 fBR1 lBR
  have HF2 := Lib.hid (HF.out.alloc HF.out.size (.cells #[.slice AK' g.1.length ck', .slice AL' g.2.1.length cl'] 28))
  have BN : Hid (Box (w1.alloc (.cells #[.slice AK' g.1.length ck', .slice AL' g.2.1.length cl'] 28)) w1.heap.size [.slice AK' g.1.length ck', .slice AL' g.2.1.length cl']) := Lib.hid (Box.new w1 #[.slice AK' g.1.length ck', .slice AL' g.2.1.length cl'] 28)
  have BR2 := Lib.hid (BR.out.alloc (.cells #[.slice AK' g.1.length ck', .slice AL' g.2.1.length cl'] 28))
  have HV2 := Lib.hid (HV.out.alloc (.cells #[.slice AK' g.1.length ck', .slice AL' g.2.1.length cl'] 28))
  clear BC BR HV HF
  generalize w1.alloc (.cells #[.slice AK' g.1.length ck', .slice AL' g.2.1.length cl'] 28) = w2 at *
  generalize w1.heap.size = g1 at *
  have cBN0 := BN.out.c 0 _ rfl; have fBN0 := BN.out.f 0 (by simp); have cBN1 := BN.out.c 1 _ rfl; have fBN1 := BN.out.f 1 (by simp); have lBN := BN.out.lt; have cBR20 := BR2.out.c 0 _ rfl; have fBR20 := BR2.out.f 0 (by simp); have cBR21 := BR2.out.c 1 _ rfl; have fBR21 := BR2.out.f 1 (by simp); have lBR2 := BR2.out.lt
  go_wp2_with fail
  clear cBN0 fBN0 cBN1 fBN1 lBN; clear cBR20 fBR20 cBR21 fBR21 lBR2
  have HX := Lib.hid (below_set (g := w.heap.size + 3) (j := 1) (v := .slice AL' g.2.1.length cl') (below_set (g := w.heap.size + 3) (j := 0) (v := .slice AK' g.1.length ck') HF2.out (Nat.le_add_right _ _)) (Nat.le_add_right _ _))
  have BX : Hid (Box ((w2.setCell ⟨w.heap.size + 3, 0, none⟩ (.slice AK' g.1.length ck')).setCell ⟨w.heap.size + 3, 1, none⟩ (.slice AL' g.2.1.length cl')) (w.heap.size + 3) [.slice AK' g.1.length ck', .slice AL' g.2.1.length cl']) := Lib.hid ((BR2.out.set 0 (.slice AK' g.1.length ck') (by simp)).set 1 (.slice AL' g.2.1.length cl') (by simp))
  have HV3 : Hid (ChB w.heap.size ((w2.setCell ⟨w.heap.size + 3, 0, none⟩ (.slice AK' g.1.length ck')).setCell ⟨w.heap.size + 3, 1, none⟩ (.slice AL' g.2.1.length cl')) (.agg #[.slice AK' g.1.length ck', .slice AL' g.2.1.length cl']) g.1 g.2.1) := Lib.hid (((HV2.out.set ⟨w.heap.size + 3, 0, none⟩ _ (Nat.lt_succ_self _)).set ⟨w.heap.size + 3, 1, none⟩ _ (Nat.lt_succ_self _)).mono (by omega))
  generalize (w2.setCell ⟨w.heap.size + 3, 0, none⟩ (.slice AK' g.1.length ck')).setCell ⟨w.heap.size + 3, 1, none⟩ (.slice AL' g.2.1.length cl') = wz at *
  have cBX0 := BX.out.c 0 _ rfl; have fBX0 := BX.out.f 0 (by simp); have cBX1 := BX.out.c 1 _ rfl; have fBX1 := BX.out.f 1 (by simp); have lBX := BX.out.lt
  refine bodyPost_ret (v := .tuple #[.agg #[.slice AK' g.1.length ck', .slice AL' g.2.1.length cl'], .int .i64 g.2.2.2]) (by simp [results, Try.results35, go_sem, cBX0, cBX1]) rfl ?_
  exact ⟨_, rfl, HV3.out, HX.out⟩
end Go.Proofs.Ytpkacnoimdjckaa
