/- The law GcPuts. -/
import Derived.Test.YtpkacnoimdjckaaRefG
import Derived.Test.YtpkacnoimdjckaaWriteA
import Derived.Test.YtpkacnoimdjckaaAliveG
import Derived.Test.YtpkacnoimdjckaaAlikeG
namespace Go.Proofs.Ytpkacnoimdjckaa
open Go.RowKit
open Go.Shelf
set_option linter.unusedVariables false
set_option linter.unusedSimpArgs false
theorem infoRef : ∃ i0, Try.prog.info? 41 = some i0 ∧ i0.zero = some (.agg #[.int .i64 0, .int .i64 0, .bool false, .string ⟨#[]⟩]) ∧ i0.size = 4 ∧ i0.bytes = 40 :=
  info_parts (show (Try.prog.info? 41).map (fun i => (i.zero, i.size, i.bytes)) = some (some (.agg #[.int .i64 0, .int .i64 0, .bool false, .string ⟨#[]⟩]), 4, 40) by kernel_rfl)
theorem row_nil {w : World} {A : Option Addr} {l : List Ver} (h : RowE encVer 4 w A l) (hA : A = none) : l = [] := by
  cases l with
  | nil => rfl
  | cons k m => obtain ⟨b, off, e2, _⟩ := h 0 k rfl; rw [hA] at e2; cases e2
/-- 'append(row, versions..)'. -/
theorem append_vers (w : World) (ty : TypeId) (base : Nat) (v0 : Value) (n : Nat) (xs : List Value) (h0 : w.ownsRow base 41 4 v0 n xs) (hn64 : n ≤ 64) (A : Option Addr) (c : Nat) (l : List Ver) (HR : RowE encVer 4 w A l) (hn : A = none → c = 0) (hl : l.length * 40 ≤ 140737488351232) (hb : base ≤ w.heap.size) :
    ∃ v' w', (Builtin.append_ #[39, 39] ty #[v0, .slice A l.length c]).run Try.prog w = .ok v' w' ∧ w'.ownsRow base 41 4 v' (n + l.length) (xs ++ l.flatMap encVer) ∧ w.grownBy w' v0.ownBlock := by
  obtain ⟨iS, hiS1, hiS2, hiS3, hiS4⟩ := infoRef
  cases A with
  | none =>
    obtain rfl := row_nil HR rfl
    obtain rfl := hn rfl
    exact ⟨_, w, run_append_owned_none (P := Try.prog) (w := w) base 39 ty 41 iS 4 Try.underlying39 hiS1 v0 n xs h0, by simpa using h0, World.grownBy.refl w _⟩
  | some ad =>
    have hc : ∀ j u, (l.flatMap encVer)[j]? = some u → w.cell? (ad.add j) = some u := fun j u hu => by
      by_cases h0 : l = []
      · subst h0; simp at hu
      · obtain ⟨b, off, hA, hlt, hc⟩ := HR.cells encVer_len (by decide) h0
        obtain rfl : ad = ⟨b, off, none⟩ := Option.some.inj hA
        rw [Addr.add_lit]; exact hc j u hu
    obtain ⟨v', w', hrun, h1, h2, _⟩ := run_append_own_at (P := Try.prog) w base 39 ty 41 iS _ 4 40 Try.underlying39 hiS1 hiS2 hiS3 hiS4 rfl (by decide) v0 n xs h0 ad l.length c (l.flatMap encVer) (by rw [flat_len encVer_len]) hc (encVer_one l) (by simp only [maxLen]; omega) (by omega) hb
    exact ⟨v', w', hrun, h1, h2⟩
set_option maxHeartbeats 4000000 in
set_option maxRecDepth 100000 in
theorem rown_any (A : Option Addr) (c : Nat) (l : List Ver) (w : World) (HR : RowE encVer 4 w A l) (hn : A = none → c = 0) (hl : l.length * 40 ≤ 140737488351232) :
    Calls Try.prog 57 #[.slice A l.length c] w fun e w' => ∃ v, e = .returned v ∧ w'.ownsRow w.heap.size 41 4 v l.length (l.flatMap encVer) ∧ Below w.heap.size w w' := by
  obtain ⟨v', w', hrun, ho, hg⟩ := append_vers w 39 w.heap.size (.slice none 0 0) 0 [] (World.ownsRow_nil _ _ _ _) (by decide) A c l HR hn hl (Nat.le_refl _)
  have HB := Lib.hid ((Below.refl w.heap.size w).grown hg (Nat.le_refl _) (fun k hk => by simp [Value.ownBlock] at hk))
  rw [Nat.zero_add, List.nil_append] at ho
  have HO := Lib.hid ho
  clear ho hg HR
  go_enter Try.func57, Try.ntmps57
  go_wp2_with (at_builtin; refine Lib.wpList_append_run _ rfl _ _ _ _ rfl _ _ rfl rfl _ _ hrun ?_)
  go_ret
  exact ⟨v', rfl, HO.out, HB.out⟩
set_option maxHeartbeats 4000000 in
set_option maxRecDepth 100000 in
theorem rwrite_any (A : Option Addr) (c : Nat) (l : List Ver) (snap tx : Int) (gone : Bool) (val : ByteArray) (w : World) (HR : RowE encVer 4 w A l) (hn : A = none → c = 0) :
    Calls Try.prog 31 #[.slice A l.length c, .int .i64 snap, .int .i64 tx, .bool gone, .string val] w fun e w' => ∃ v, e = .returned (.tuple #[v, .int .i64 (write snap tx gone val l).2]) ∧ SlV w.heap.size w' v (write snap tx gone val l).1 ∧ Below w.heap.size w w' := by
  have hck := rcheck_any A c l w HR
  have RR := Lib.hid HR
  have HN := Lib.hid hn
  obtain ⟨r, hr⟩ : ∃ r, r = write snap tx gone val l := ⟨_, rfl⟩
  rw [← hr]
  have E0 : Hid (chk l ≠ 0 → r = ([], chk l)) := Lib.hid (fun h => by rw [hr]; unfold write; rw [if_pos h])
  have E1 : Hid (chk l = 0 → (tx < 1 ∨ 1099511627776 < tx) → r = ([], 4)) := Lib.hid (fun h h1 => by rw [hr]; unfold write; rw [if_neg (by simp [h]), if_pos h1])
  have E2 : Hid (chk l = 0 → ¬ (tx < 1 ∨ 1099511627776 < tx) → ((4096 : Int) < val.size ∨ (gone = true ∧ val.toList.isEmpty = false)) → r = ([], 5)) := Lib.hid (fun h h1 h2 => by rw [hr]; unfold write; rw [if_neg (by simp [h]), if_neg h1, if_pos h2])
  have E3 : Hid (chk l = 0 → ¬ (tx < 1 ∨ 1099511627776 < tx) → ¬ ((4096 : Int) < val.size ∨ (gone = true ∧ val.toList.isEmpty = false)) → r = if openB tx l = true then (⟨0, tx, gone, val⟩ :: l.tail, 0) else if clash snap l = true then ([], 95) else if l.length = 64 then ([], 51) else (⟨0, tx, gone, val⟩ :: l, 0)) := Lib.hid (fun h h1 h2 => by rw [hr]; unfold write; rw [if_neg (by simp [h]), if_neg h1, if_neg h2])
  have CL := Lib.hid (fun h : chk l = 0 => chk_len h)
  have CF := Lib.hid (fun h : chk l = 0 => chk_from h)
  have C9 := chk_or l
  clear HR hn hr
  generalize chk l = k at *
  go_enter Try.func31, Try.ntmps31
  go_wp2_with fail
  refine hck.mono ?_; rintro e w1 ⟨rfl, h1⟩
  have HF := Lib.hid h1
  have RR1 := Lib.hid (RR.out.below h1)
  clear hck h1 RR
  rcases C9 with rfl | rfl
  · have hl64 := CL.out (by trivial)
    have hcf := CF.out (by trivial)
    by_cases k1 : tx < 1 ∨ 1099511627776 < tx
    · have EE := Lib.hid (E1.out (by trivial) k1)
      clear E0 E1 E2 E3 CL CF hcf RR1 HN
      by_cases k1a : tx < 1
      · clear k1
        go_wp2_with fail
        go_ret2
        exact ⟨_, by rw [EE.out]; rfl, by rw [EE.out]; exact SlB.nil _, HF.out⟩
      · have k1b : 1099511627776 < tx := by omega
        clear k1
        go_wp2_with fail
        go_ret2
        exact ⟨_, by rw [EE.out]; rfl, by rw [EE.out]; exact SlB.nil _, HF.out⟩
    · have t1 : ¬ tx < 1 := by omega
      have t2 : ¬ 1099511627776 < tx := by omega
      have E2x := Lib.hid (E2.out (by trivial) k1)
      have E3x := Lib.hid (E3.out (by trivial) k1)
      clear E0 E1 E2 E3 CL CF k1
      by_cases k2 : (4096 : Int) < val.size
      · have EE := Lib.hid (E2x.out (.inl k2))
        clear E2x E3x hcf RR1 HN
        go_wp2_with fail
        go_ret2
        exact ⟨_, by rw [EE.out]; rfl, by rw [EE.out]; exact SlB.nil _, HF.out⟩
      · have goon : ∀ (hq : Hid (¬ (gone = true ∧ val.toList.isEmpty = false))), Hid (r = if openB tx l = true then (⟨0, tx, gone, val⟩ :: l.tail, 0) else if clash snap l = true then ([], 95) else if l.length = 64 then ([], 51) else (⟨0, tx, gone, val⟩ :: l, 0)) := fun hq => Lib.hid (E3x.out (fun h => h.elim (fun h => k2 h) hq.out))
        have hie : val.toList.isEmpty = (val.toList == []) := by cases val.toList <;> rfl
        have HIE := Lib.hid hie
        clear hie E3x
        have main : ∀ (ht0 : Hid ((gone && !(val.toList == [])) = false)), True := fun _ => trivial
        clear main
        cases hgv : (gone && !(val.toList == [])) with
        | true =>
          obtain ⟨rfl, ht⟩ : gone = true ∧ (val.toList == []) = false := by simpa using hgv
          have ht' : ¬ val.toList = [] := by simpa using ht
          have EE := Lib.hid (E2x.out (.inr ⟨rfl, by rw [HIE.out, ht]⟩))
          clear E2x goon hcf RR1 HN HIE hgv
          go_wp2_with fail
          go_ret2
          exact ⟨_, by rw [EE.out]; rfl, by rw [EE.out]; exact SlB.nil _, HF.out⟩
        | false =>
          have E4 := goon (Lib.hid (by rw [HIE.out]; rintro ⟨rfl, h⟩; rw [h] at hgv; simp at hgv))
          clear E2x goon HIE
          have hguard : gone = false ∨ (gone = true ∧ (val.toList == []) = true ∧ val.toList = []) := by
            cases gone with
            | false => exact .inl rfl
            | true => right; refine ⟨rfl, ?_, ?_⟩ <;> simpa using hgv
          clear hgv
          rcases hguard with rfl | ⟨rfl, ht, ht'⟩
          · skip
            go_upto_region 8 with (fail)
            have BV := Lib.hid (Box.new w1 #[.int .i64 0, .int .i64 tx, .bool false, .string val] 41)
            have HB := (Below.refl _ w1).alloc (Nat.le_refl _) (.cells #[.int .i64 0, .int .i64 tx, .bool false, .string val] 41)
            have HF2 := Lib.hid (below_step' HF.out HB)
            have RR2 := Lib.hid (RR1.out.below HB)
            have hz1 : w.heap.size ≤ w1.heap.size := HF.out.size
            clear HF RR1 HB
            generalize w1.alloc (.cells #[.int .i64 0, .int .i64 tx, .bool false, .string val] 41) = w2 at *
            generalize w1.heap.size = bv at *
            clear w1
            have hz2 : w.heap.size ≤ w2.heap.size := HF2.out.size
            cases l with
            | nil =>
              have EE : Hid (r = ([⟨0, tx, false, val⟩], 0)) := Lib.hid (by rw [E4.out]; simp [openB, clash])
              clear E4 hcf hl64
              simp only [List.length_nil]
              have BQ := (Below.refl _ w2).alloc (Nat.le_refl _) (.cells #[.int .i64 0, .int .i64 tx, .bool false, .string val] 41)
              obtain ⟨v', w', hrun, ho, hg⟩ := append_vers (w2.alloc (.cells #[.int .i64 0, .int .i64 tx, .bool false, .string val] 41)) 39 w2.heap.size (.slice (some ⟨w2.heap.size, 0, none⟩) 1 1) 1 _ (World.ownsRow_lit w2 #[.int .i64 0, .int .i64 tx, .bool false, .string val] 1 (Nat.le_refl _) (by decide) rfl) (by decide) A c [] (RR2.out.below BQ) HN.out (by first | omega | (simp; done) | (simp; omega)) BQ.size
              have HF3 : Hid (Below w.heap.size w w') := Lib.hid ((HF2.out.alloc HF2.out.size (.cells #[.int .i64 0, .int .i64 tx, .bool false, .string val] 41)).grown hg (by first | omega | (simp; done) | (simp; omega)) (fun k hk => by simp [Value.ownBlock] at hk; omega))
              have HO : Hid (w'.ownsRow w2.heap.size 41 4 v' ([] : List Ver).length.succ ((⟨0, tx, false, val⟩ :: [] : List Ver).flatMap encVer)) := Lib.hid (by rw [Nat.succ_eq_add_one, Nat.add_comm]; exact ho)
              clear ho hg BQ RR2 HN
              try simp only [List.length_cons, List.length_nil] at hrun
              have cBV0 := BV.out.c 0 _ rfl; have fBV0 := BV.out.f 0 (by simp); have cBV1 := BV.out.c 1 _ rfl; have fBV1 := BV.out.f 1 (by simp); have cBV2 := BV.out.c 2 _ rfl; have fBV2 := BV.out.f 2 (by simp); have cBV3 := BV.out.c 3 _ rfl; have fBV3 := BV.out.f 3 (by simp); have lBV := BV.out.lt
              go_wp2_with (at_builtin; refine Lib.wpList_append_run _ rfl _ _ _ _ rfl _ _ rfl rfl _ _ hrun ?_)
              go_ret2
              exact ⟨v', by rw [EE.out]; rfl, by rw [EE.out]; exact SlB.of_own (l := ⟨0, tx, false, val⟩ :: []) encVer_len (by decide) hz2 HO.out, HF3.out⟩

            | cons x m =>
              obtain ⟨b0, off, rfl, hb0, g0, g1, g2, g3⟩ := RR2.out.four (j := 0) (x := x) (B := 0) rfl (Below.refl _ _)
              obtain ⟨st, tx', gn, vl⟩ := x
              simp only [Nat.zero_mul, Nat.add_zero] at g0 g1
              have hst : 0 ≤ st := by
                rw [chkFrom_cons] at hcf
                simp only [Bool.and_eq_true] at hcf
                have h1 := hcf.1.1.1
                unfold vmay at h1
                simp only [Bool.and_eq_true, decide_eq_true_eq] at h1
                omega
              have hp2 : (0 : Int) < (m.length : Int) + 1 := by omega
              have hm64 : (m.length : Int) + 1 ≤ 64 := by simp at hl64; omega
              clear hcf g2 g3
              simp only [List.length_cons] at *
              by_cases hs0 : st = 0
              · subst hs0
                by_cases htx : tx' = tx
                · subst htx
                  have EE : Hid (r = (⟨0, tx', false, val⟩ :: m, 0)) := Lib.hid (by rw [E4.out]; simp [openB])
                  have how := rown_any (some ⟨b0, off, none⟩) c (⟨0, tx', gn, vl⟩ :: m) w2 RR2.out HN.out (by first | omega | (simp; done) | (simp; omega))
                  simp only [List.length_cons] at how
                  clear E4
                  go_wp2_with (go_at_call 57; (with_reducible refine how.mono ?_); rintro e w3 ⟨v3, rfl, ho3, h3⟩; (obtain ⟨g3, c3, rfl, hc3, hbg3, hg3⟩ := own_some ho3 (Nat.succ_pos _)); replace BV := Lib.hid (BV.out.below h3 BV.out.lt); replace HF2 := Lib.hid (below_step' HF2.out h3); (have q0 : w3.cell? ⟨g3, 0, none⟩ = some (.int .i64 0) := by rw [ho3.cellAt 0 (by omega)]; rfl); (have q1 : w3.cell? ⟨g3, 1, none⟩ = some (.int .i64 tx') := by rw [ho3.cellAt 1 (by omega)]; rfl); (have q2 : w3.cell? ⟨g3, 2, none⟩ = some (.bool gn) := by rw [ho3.cellAt 2 (by omega)]; rfl); (have q3 : w3.cell? ⟨g3, 3, none⟩ = some (.string vl) := by rw [ho3.cellAt 3 (by omega)]; rfl); (have f0 := ho3.frozenAt 0); (have f1 := ho3.frozenAt 1); (have f2 := ho3.frozenAt 2); (have f3 := ho3.frozenAt 3); (have HO3 := Lib.hid ho3); clear ho3 h3; have cBV0 := BV.out.c 0 _ rfl; have fBV0 := BV.out.f 0 (by simp); have cBV1 := BV.out.c 1 _ rfl; have fBV1 := BV.out.f 1 (by simp); have cBV2 := BV.out.c 2 _ rfl; have fBV2 := BV.out.f 2 (by simp); have cBV3 := BV.out.c 3 _ rfl; have fBV3 := BV.out.f 3 (by simp); have lBV := BV.out.lt)
                  have HO4 := (HO3.out.stored 0 (.int .i64 0)).1
                  have HO5 := (HO4.stored 1 (.int .i64 tx')).1
                  have HO6 := (HO5.stored 2 (.bool false)).1
                  have HO7 := (HO6.stored 3 (.string val)).1
                  go_ret2
                  exact ⟨_, by rw [EE.out]; rfl, by rw [EE.out]; exact SlB.of_own (l := ⟨0, tx', false, val⟩ :: m) encVer_len (by decide) hz2 HO7, below_set (below_set (below_set (below_set HF2.out (by omega)) (by omega)) (by omega)) (by omega)⟩
                · have ht1 : (tx' == tx) = false := by simpa using htx
                  have EE : Hid (r = ([], 95)) := Lib.hid (by rw [E4.out]; simp [openB, clash, htx])
                  clear E4
                  go_wp2_with fail
                  go_ret2
                  exact ⟨_, by rw [EE.out]; rfl, by rw [EE.out]; exact SlB.nil _, HF2.out⟩
              · have hs1 : (st == 0) = false := by simpa using hs0
                have hs2 : 0 < st := by omega
                by_cases hsn : snap < st
                · have EE : Hid (r = ([], 95)) := Lib.hid (by rw [E4.out]; simp [openB, clash, hs0, hsn])
                  clear E4
                  go_wp2_with fail
                  go_ret2
                  exact ⟨_, by rw [EE.out]; rfl, by rw [EE.out]; exact SlB.nil _, HF2.out⟩
                · by_cases hfu : (m.length : Int) + 1 = 64
                  · have EE : Hid (r = ([], 51)) := Lib.hid (by rw [E4.out, if_neg (by simp [openB, hs0]), if_neg (by simp [clash, hs0]; omega), if_pos (by omega)])
                    have hfg : (64 : Int) ≤ (m.length : Int) + 1 := by omega
                    clear E4
                    go_wp2_with fail
                    go_ret2
                    exact ⟨_, by rw [EE.out]; rfl, by rw [EE.out]; exact SlB.nil _, HF2.out⟩
                  · have hfg : ¬ (64 : Int) ≤ (m.length : Int) + 1 := by omega
                    have EE : Hid (r = (⟨0, tx, false, val⟩ :: ⟨st, tx', gn, vl⟩ :: m, 0)) := Lib.hid (by rw [E4.out, if_neg (by simp [openB, hs0]), if_neg (by simp [clash, hs0]; omega), if_neg (by omega)])
                    clear E4
                    have BQ := (Below.refl _ w2).alloc (Nat.le_refl _) (.cells #[.int .i64 0, .int .i64 tx, .bool false, .string val] 41)
                    obtain ⟨v', w', hrun, ho, hg⟩ := append_vers (w2.alloc (.cells #[.int .i64 0, .int .i64 tx, .bool false, .string val] 41)) 39 w2.heap.size (.slice (some ⟨w2.heap.size, 0, none⟩) 1 1) 1 _ (World.ownsRow_lit w2 #[.int .i64 0, .int .i64 tx, .bool false, .string val] 1 (Nat.le_refl _) (by decide) rfl) (by decide) (some ⟨b0, off, none⟩) c (⟨st, tx', gn, vl⟩ :: m) (RR2.out.below BQ) HN.out (by first | omega | (simp; done) | (simp; omega)) BQ.size
                    have HF3 : Hid (Below w.heap.size w w') := Lib.hid ((HF2.out.alloc HF2.out.size (.cells #[.int .i64 0, .int .i64 tx, .bool false, .string val] 41)).grown hg (by first | omega | (simp; done) | (simp; omega)) (fun k hk => by simp [Value.ownBlock] at hk; omega))
                    have HO : Hid (w'.ownsRow w2.heap.size 41 4 v' ((⟨st, tx', gn, vl⟩ :: m) : List Ver).length.succ ((⟨0, tx, false, val⟩ :: (⟨st, tx', gn, vl⟩ :: m) : List Ver).flatMap encVer)) := Lib.hid (by rw [Nat.succ_eq_add_one, Nat.add_comm]; exact ho)
                    clear ho hg BQ RR2 HN
                    try simp only [List.length_cons, List.length_nil] at hrun
                    have cBV0 := BV.out.c 0 _ rfl; have fBV0 := BV.out.f 0 (by simp); have cBV1 := BV.out.c 1 _ rfl; have fBV1 := BV.out.f 1 (by simp); have cBV2 := BV.out.c 2 _ rfl; have fBV2 := BV.out.f 2 (by simp); have cBV3 := BV.out.c 3 _ rfl; have fBV3 := BV.out.f 3 (by simp); have lBV := BV.out.lt
                    go_wp2_with (at_builtin; refine Lib.wpList_append_run _ rfl _ _ _ _ rfl _ _ rfl rfl _ _ hrun ?_)
                    go_ret2
                    exact ⟨v', by rw [EE.out]; rfl, by rw [EE.out]; exact SlB.of_own (l := ⟨0, tx, false, val⟩ :: (⟨st, tx', gn, vl⟩ :: m)) encVer_len (by decide) hz2 HO.out, HF3.out⟩

          · skip
            go_upto_region 8 with (fail)
            have BV := Lib.hid (Box.new w1 #[.int .i64 0, .int .i64 tx, .bool true, .string val] 41)
            have HB := (Below.refl _ w1).alloc (Nat.le_refl _) (.cells #[.int .i64 0, .int .i64 tx, .bool true, .string val] 41)
            have HF2 := Lib.hid (below_step' HF.out HB)
            have RR2 := Lib.hid (RR1.out.below HB)
            have hz1 : w.heap.size ≤ w1.heap.size := HF.out.size
            clear HF RR1 HB
            generalize w1.alloc (.cells #[.int .i64 0, .int .i64 tx, .bool true, .string val] 41) = w2 at *
            generalize w1.heap.size = bv at *
            clear w1
            have hz2 : w.heap.size ≤ w2.heap.size := HF2.out.size
            cases l with
            | nil =>
              have EE : Hid (r = ([⟨0, tx, true, val⟩], 0)) := Lib.hid (by rw [E4.out]; simp [openB, clash])
              clear E4 hcf hl64
              simp only [List.length_nil]
              have BQ := (Below.refl _ w2).alloc (Nat.le_refl _) (.cells #[.int .i64 0, .int .i64 tx, .bool true, .string val] 41)
              obtain ⟨v', w', hrun, ho, hg⟩ := append_vers (w2.alloc (.cells #[.int .i64 0, .int .i64 tx, .bool true, .string val] 41)) 39 w2.heap.size (.slice (some ⟨w2.heap.size, 0, none⟩) 1 1) 1 _ (World.ownsRow_lit w2 #[.int .i64 0, .int .i64 tx, .bool true, .string val] 1 (Nat.le_refl _) (by decide) rfl) (by decide) A c [] (RR2.out.below BQ) HN.out (by first | omega | (simp; done) | (simp; omega)) BQ.size
              have HF3 : Hid (Below w.heap.size w w') := Lib.hid ((HF2.out.alloc HF2.out.size (.cells #[.int .i64 0, .int .i64 tx, .bool true, .string val] 41)).grown hg (by first | omega | (simp; done) | (simp; omega)) (fun k hk => by simp [Value.ownBlock] at hk; omega))
              have HO : Hid (w'.ownsRow w2.heap.size 41 4 v' ([] : List Ver).length.succ ((⟨0, tx, true, val⟩ :: [] : List Ver).flatMap encVer)) := Lib.hid (by rw [Nat.succ_eq_add_one, Nat.add_comm]; exact ho)
              clear ho hg BQ RR2 HN
              try simp only [List.length_cons, List.length_nil] at hrun
              have cBV0 := BV.out.c 0 _ rfl; have fBV0 := BV.out.f 0 (by simp); have cBV1 := BV.out.c 1 _ rfl; have fBV1 := BV.out.f 1 (by simp); have cBV2 := BV.out.c 2 _ rfl; have fBV2 := BV.out.f 2 (by simp); have cBV3 := BV.out.c 3 _ rfl; have fBV3 := BV.out.f 3 (by simp); have lBV := BV.out.lt
              go_wp2_with (at_builtin; refine Lib.wpList_append_run _ rfl _ _ _ _ rfl _ _ rfl rfl _ _ hrun ?_)
              go_ret2
              exact ⟨v', by rw [EE.out]; rfl, by rw [EE.out]; exact SlB.of_own (l := ⟨0, tx, true, val⟩ :: []) encVer_len (by decide) hz2 HO.out, HF3.out⟩

            | cons x m =>
              obtain ⟨b0, off, rfl, hb0, g0, g1, g2, g3⟩ := RR2.out.four (j := 0) (x := x) (B := 0) rfl (Below.refl _ _)
              obtain ⟨st, tx', gn, vl⟩ := x
              simp only [Nat.zero_mul, Nat.add_zero] at g0 g1
              have hst : 0 ≤ st := by
                rw [chkFrom_cons] at hcf
                simp only [Bool.and_eq_true] at hcf
                have h1 := hcf.1.1.1
                unfold vmay at h1
                simp only [Bool.and_eq_true, decide_eq_true_eq] at h1
                omega
              have hp2 : (0 : Int) < (m.length : Int) + 1 := by omega
              have hm64 : (m.length : Int) + 1 ≤ 64 := by simp at hl64; omega
              clear hcf g2 g3
              simp only [List.length_cons] at *
              by_cases hs0 : st = 0
              · subst hs0
                by_cases htx : tx' = tx
                · subst htx
                  have EE : Hid (r = (⟨0, tx', true, val⟩ :: m, 0)) := Lib.hid (by rw [E4.out]; simp [openB])
                  have how := rown_any (some ⟨b0, off, none⟩) c (⟨0, tx', gn, vl⟩ :: m) w2 RR2.out HN.out (by first | omega | (simp; done) | (simp; omega))
                  simp only [List.length_cons] at how
                  clear E4
                  go_wp2_with (go_at_call 57; (with_reducible refine how.mono ?_); rintro e w3 ⟨v3, rfl, ho3, h3⟩; (obtain ⟨g3, c3, rfl, hc3, hbg3, hg3⟩ := own_some ho3 (Nat.succ_pos _)); replace BV := Lib.hid (BV.out.below h3 BV.out.lt); replace HF2 := Lib.hid (below_step' HF2.out h3); (have q0 : w3.cell? ⟨g3, 0, none⟩ = some (.int .i64 0) := by rw [ho3.cellAt 0 (by omega)]; rfl); (have q1 : w3.cell? ⟨g3, 1, none⟩ = some (.int .i64 tx') := by rw [ho3.cellAt 1 (by omega)]; rfl); (have q2 : w3.cell? ⟨g3, 2, none⟩ = some (.bool gn) := by rw [ho3.cellAt 2 (by omega)]; rfl); (have q3 : w3.cell? ⟨g3, 3, none⟩ = some (.string vl) := by rw [ho3.cellAt 3 (by omega)]; rfl); (have f0 := ho3.frozenAt 0); (have f1 := ho3.frozenAt 1); (have f2 := ho3.frozenAt 2); (have f3 := ho3.frozenAt 3); (have HO3 := Lib.hid ho3); clear ho3 h3; have cBV0 := BV.out.c 0 _ rfl; have fBV0 := BV.out.f 0 (by simp); have cBV1 := BV.out.c 1 _ rfl; have fBV1 := BV.out.f 1 (by simp); have cBV2 := BV.out.c 2 _ rfl; have fBV2 := BV.out.f 2 (by simp); have cBV3 := BV.out.c 3 _ rfl; have fBV3 := BV.out.f 3 (by simp); have lBV := BV.out.lt)
                  have HO4 := (HO3.out.stored 0 (.int .i64 0)).1
                  have HO5 := (HO4.stored 1 (.int .i64 tx')).1
                  have HO6 := (HO5.stored 2 (.bool true)).1
                  have HO7 := (HO6.stored 3 (.string val)).1
                  go_ret2
                  exact ⟨_, by rw [EE.out]; rfl, by rw [EE.out]; exact SlB.of_own (l := ⟨0, tx', true, val⟩ :: m) encVer_len (by decide) hz2 HO7, below_set (below_set (below_set (below_set HF2.out (by omega)) (by omega)) (by omega)) (by omega)⟩
                · have ht1 : (tx' == tx) = false := by simpa using htx
                  have EE : Hid (r = ([], 95)) := Lib.hid (by rw [E4.out]; simp [openB, clash, htx])
                  clear E4
                  go_wp2_with fail
                  go_ret2
                  exact ⟨_, by rw [EE.out]; rfl, by rw [EE.out]; exact SlB.nil _, HF2.out⟩
              · have hs1 : (st == 0) = false := by simpa using hs0
                have hs2 : 0 < st := by omega
                by_cases hsn : snap < st
                · have EE : Hid (r = ([], 95)) := Lib.hid (by rw [E4.out]; simp [openB, clash, hs0, hsn])
                  clear E4
                  go_wp2_with fail
                  go_ret2
                  exact ⟨_, by rw [EE.out]; rfl, by rw [EE.out]; exact SlB.nil _, HF2.out⟩
                · by_cases hfu : (m.length : Int) + 1 = 64
                  · have EE : Hid (r = ([], 51)) := Lib.hid (by rw [E4.out, if_neg (by simp [openB, hs0]), if_neg (by simp [clash, hs0]; omega), if_pos (by omega)])
                    have hfg : (64 : Int) ≤ (m.length : Int) + 1 := by omega
                    clear E4
                    go_wp2_with fail
                    go_ret2
                    exact ⟨_, by rw [EE.out]; rfl, by rw [EE.out]; exact SlB.nil _, HF2.out⟩
                  · have hfg : ¬ (64 : Int) ≤ (m.length : Int) + 1 := by omega
                    have EE : Hid (r = (⟨0, tx, true, val⟩ :: ⟨st, tx', gn, vl⟩ :: m, 0)) := Lib.hid (by rw [E4.out, if_neg (by simp [openB, hs0]), if_neg (by simp [clash, hs0]; omega), if_neg (by omega)])
                    clear E4
                    have BQ := (Below.refl _ w2).alloc (Nat.le_refl _) (.cells #[.int .i64 0, .int .i64 tx, .bool true, .string val] 41)
                    obtain ⟨v', w', hrun, ho, hg⟩ := append_vers (w2.alloc (.cells #[.int .i64 0, .int .i64 tx, .bool true, .string val] 41)) 39 w2.heap.size (.slice (some ⟨w2.heap.size, 0, none⟩) 1 1) 1 _ (World.ownsRow_lit w2 #[.int .i64 0, .int .i64 tx, .bool true, .string val] 1 (Nat.le_refl _) (by decide) rfl) (by decide) (some ⟨b0, off, none⟩) c (⟨st, tx', gn, vl⟩ :: m) (RR2.out.below BQ) HN.out (by first | omega | (simp; done) | (simp; omega)) BQ.size
                    have HF3 : Hid (Below w.heap.size w w') := Lib.hid ((HF2.out.alloc HF2.out.size (.cells #[.int .i64 0, .int .i64 tx, .bool true, .string val] 41)).grown hg (by first | omega | (simp; done) | (simp; omega)) (fun k hk => by simp [Value.ownBlock] at hk; omega))
                    have HO : Hid (w'.ownsRow w2.heap.size 41 4 v' ((⟨st, tx', gn, vl⟩ :: m) : List Ver).length.succ ((⟨0, tx, true, val⟩ :: (⟨st, tx', gn, vl⟩ :: m) : List Ver).flatMap encVer)) := Lib.hid (by rw [Nat.succ_eq_add_one, Nat.add_comm]; exact ho)
                    clear ho hg BQ RR2 HN
                    try simp only [List.length_cons, List.length_nil] at hrun
                    have cBV0 := BV.out.c 0 _ rfl; have fBV0 := BV.out.f 0 (by simp); have cBV1 := BV.out.c 1 _ rfl; have fBV1 := BV.out.f 1 (by simp); have cBV2 := BV.out.c 2 _ rfl; have fBV2 := BV.out.f 2 (by simp); have cBV3 := BV.out.c 3 _ rfl; have fBV3 := BV.out.f 3 (by simp); have lBV := BV.out.lt
                    go_wp2_with (at_builtin; refine Lib.wpList_append_run _ rfl _ _ _ _ rfl _ _ rfl rfl _ _ hrun ?_)
                    go_ret2
                    exact ⟨v', by rw [EE.out]; rfl, by rw [EE.out]; exact SlB.of_own (l := ⟨0, tx, true, val⟩ :: (⟨st, tx', gn, vl⟩ :: m)) encVer_len (by decide) hz2 HO.out, HF3.out⟩

  · have EE := Lib.hid (E0.out (by decide))
    clear E0 E1 E2 E3 CL CF RR1 HN
    go_wp2_with fail
    go_ret2
    exact ⟨_, by rw [EE.out]; rfl, by rw [EE.out]; exact SlB.nil _, HF.out⟩
end Go.Proofs.Ytpkacnoimdjckaa
namespace Go.Proofs.Ytpkacnoimdjckaa
open Go.RowKit
open Go.Shelf
set_option linter.unusedVariables false
set_option linter.unusedSimpArgs false
theorem infoR2 : ∃ i0, Try.prog.info? 39 = some i0 ∧ i0.zero = some (.slice none 0 0) ∧ i0.size = 1 ∧ i0.bytes = 24 :=
  info_parts (show (Try.prog.info? 39).map (fun i => (i.zero, i.size, i.bytes)) = some (some (.slice none 0 0), 1, 24) by kernel_rfl)
theorem rown_slv (A : Option Addr) (c : Nat) (l : List Ver) (w : World) (HR : RowE encVer 4 w A l) (hn : A = none → c = 0) (hl : l.length * 40 ≤ 140737488351232) :
    Calls Try.prog 57 #[.slice A l.length c] w fun e w' => ∃ v, e = .returned v ∧ SlV w.heap.size w' v l ∧ Below w.heap.size w w' := by
  refine (rown_any A c l w HR hn hl).mono ?_
  rintro e w' ⟨v, rfl, ho, hb⟩
  exact ⟨v, rfl, SlB.of_own encVer_len (by decide) (Nat.le_refl _) ho, hb⟩
/-- Chains of the call's own; an empty one may be. -/
structure OwnY (base : Nat) (w : World) (vk vl : Value) (ks : List ByteArray) (ls : List (List Ver)) (vs : List Value) : Prop where
  ok : w.ownsRow base 9 1 vk ks.length (ks.flatMap encS)
  ol : w.ownsRow base 39 1 vl ls.length vs
  el : ∀ (i : Nat) (l : List Ver), ls[i]? = some l → ∃ v, vs[i]? = some v ∧ NewZ base w vl v l
  dj : ∀ g, vk.ownBlock = some g → vl.ownBlock ≠ some g
section
variable {base : Nat} {w w' : World} {vk vl : Value} {ks : List ByteArray} {ls : List (List Ver)} {vs : List Value}
theorem OwnY.below (h : OwnY base w vk vl ks ls vs) (hb : Below w.heap.size w w') : OwnY base w' vk vl ks ls vs :=
  ⟨own_below h.ok hb, own_below h.ol hb, fun i l hi => by obtain ⟨v, hv, hs⟩ := h.el i l hi; exact ⟨v, hv, hs.below hb⟩, h.dj⟩
theorem OwnY.set (h : OwnY base w vk vl ks ls vs) (a : Addr) (u : Value) (ha : a.block < base) : OwnY base (w.setCell a u) vk vl ks ls vs :=
  ⟨own_set h.ok a u ha, own_set h.ol a u ha, fun i l hi => by obtain ⟨v, hv, hs⟩ := h.el i l hi; exact ⟨v, hv, hs.set a u ha⟩, h.dj⟩
theorem OwnY.list (h : OwnY base w vk vl ks ls vs) {vl' v : Value} {l : List Ver} (ho : w'.ownsRow base 39 1 vl' (ls.length + 1) (vs ++ [v])) (hg : w.grownBy w' vl.ownBlock) (ha : vl'.ownBlock = vl.ownBlock ∨ vl'.ownBlock = some w.heap.size)
    (hv : NewZ base w vl v l) : OwnY base w' vk vl' ks (ls ++ [l]) (vs ++ [v]) := by
  have hlen : vs.length = ls.length := by have := h.ol.1; simpa using this
  refine ⟨?_, by simpa using ho, fun i x hi => ?_, fun g hg1 hg2 => ?_⟩
  · refine h.ok.kept hg ?_
    cases hv : vk.ownBlock with
    | none => left; rfl
    | some g => right; intro e; exact h.dj g hv e.symm
  · rcases Nat.lt_or_ge i ls.length with q | q
    · rw [List.getElem?_append_left q] at hi
      obtain ⟨u, hu, hs⟩ := h.el i x hi
      exact ⟨u, by rw [List.getElem?_append_left (by omega)]; exact hu, hs.moved hg ha⟩
    · have e : i = ls.length := by
        have := lt_of_get hi
        simp at this; omega
      subst e
      rw [List.getElem?_append_right (Nat.le_refl _)] at hi
      obtain rfl : l = x := by simpa using hi
      exact ⟨v, by rw [List.getElem?_append_right (by omega)]; simp [hlen], hv.moved hg ha⟩
  · rcases ha with ha | ha
    · exact h.dj g hg1 (ha ▸ hg2)
    · have := (h.ok.lt g hg1).2
      rw [hg2] at ha; have := Option.some.inj ha; omega
theorem NewZ.rebase {b' : Nat} {vl v : Value} {l : List Ver} (h : NewZ base w vl v l) (hb : b' ≤ base) : NewZ b' w vl v l := by
  obtain ⟨A, c, h1, h2, h3, h4, h5, h6⟩ := h
  exact ⟨A, c, h1, h2, h3, fun a ha => Nat.le_trans hb (h4 a ha), h5, h6⟩
theorem OwnY.rebase {b' : Nat} (h : OwnY base w vk vl ks ls vs) (hb : b' ≤ base) : OwnY b' w vk vl ks ls vs :=
  ⟨own_base h.ok hb, own_base h.ol hb, fun i l hi => by obtain ⟨v, hv, hs⟩ := h.el i l hi; exact ⟨v, hv, hs.rebase hb⟩, h.dj⟩
theorem OwnY.chb (h : OwnY base w vk vl ks ls vs) : ChB base w (.agg #[vk, vl]) ks ls := by
  obtain ⟨AK, ck, rfl, hck, hrk, hnk, hNk⟩ := SlB.of_own (N := base) encS_len (by decide) (Nat.le_refl _) h.ok
  have hlen : vs.length = ls.length := by have := h.ol.1; simpa using this
  obtain ⟨AL, cl, rfl, hcl, hnl⟩ := own_slice h.ol
  refine ⟨AK, AL, ck, cl, rfl, hrk, fun i l hi => ?_, ⟨hck, hcl, hnk, hnl⟩, hNk, fun a ha => (h.ol.lt a.block (by rw [ha]; rfl)).1⟩
  obtain ⟨v, hv, A, c, rfl, h2, h3, h4, h5, h6⟩ := h.el i l hi
  have hil := lt_of_get hi
  obtain ⟨g, c', e, _, hbg, hg⟩ := own_some h.ol (by omega)
  have e2 : AL = some ⟨g, 0, none⟩ := by simpa using (Value.slice.inj e).1
  subst e2
  refine ⟨g, 0, _, rfl, hg, ?_, A, c, rfl, h2, h5, h3, h4⟩
  have := h.ol.cellAt i (by omega)
  rw [Nat.zero_add, this]; exact hv
end
set_option maxHeartbeats 4000000 in
set_option maxRecDepth 100000 in
theorem rgown_any (AK AL : Option Addr) (ck cl : Nat) (ks : List ByteArray) (ls : List (List Ver)) (w : World) (HK : RowE encS 1 w AK ks) (HL : RowL w AL ls) (hnk : AK = none → ck = 0) (hk : ks.length * 16 ≤ 140737488351232) (hl : ls.length * 24 ≤ 140737488351232) (hls : ∀ l ∈ ls, l.length * 40 ≤ 140737488351232) :
    Calls Try.prog 32 #[.agg #[.slice AK ks.length ck, .slice AL ls.length cl]] w fun e w' => ∃ vk vl vs, e = .returned (.agg #[vk, vl]) ∧ OwnY w.heap.size w' vk vl ks ls vs ∧ Below w.heap.size w w' := by
  obtain ⟨iS, hiS1, hiS2, hiS3, hiS4⟩ := infoS
  obtain ⟨iR, hiR1, hiR2, hiR3, hiR4⟩ := infoR2
  have h0 : Below w.heap.size w (((w.alloc (.cells #[.slice AK ks.length ck, .slice AL ls.length cl] 25)).alloc (.cells #[.slice none 0 0, .slice none 0 0] 25)).alloc (.cells #[.slice none 0 0, .slice none 0 0] 25)) := (by (repeat (first | (with_reducible exact Below.refl _ _) | apply below_alloc _ (Nat.le_refl _) | refine below_set ?_ (by first | exact Nat.le_refl _ | omega) | apply below_drewN | refine below_step ?_ HB)))
  have BC := Lib.hid (((Box.new w #[.slice AK ks.length ck, .slice AL ls.length cl] 25).alloc (.cells #[.slice none 0 0, .slice none 0 0] 25)).alloc (.cells #[.slice none 0 0, .slice none 0 0] 25))
  have BR := Lib.hid ((Box.new (w.alloc (.cells #[.slice AK ks.length ck, .slice AL ls.length cl] 25)) #[.slice none 0 0, .slice none 0 0] 25).alloc (.cells #[.slice none 0 0, .slice none 0 0] 25))
  have BO := Lib.hid (Box.new ((w.alloc (.cells #[.slice AK ks.length ck, .slice AL ls.length cl] 25)).alloc (.cells #[.slice none 0 0, .slice none 0 0] 25)) #[.slice none 0 0, .slice none 0 0] 25)
  have RK := Lib.hid (HK.below h0)
  have RL := Lib.hid HL
  have HF := Lib.hid h0
  have HLS := Lib.hid hls
  simp only [World.size_alloc, Nat.add_assoc, Nat.reduceAdd] at BR BO
  clear HK HL h0 hls
  go_enter Try.func32, Try.ntmps32
  go_upto_region 2 with (fail)
  generalize ((w.alloc (.cells #[.slice AK ks.length ck, .slice AL ls.length cl] 25)).alloc (.cells #[.slice none 0 0, .slice none 0 0] 25)).alloc (.cells #[.slice none 0 0, .slice none 0 0] 25) = w0 at *
  have hz0 : w.heap.size + 3 ≤ w0.heap.size := BO.out.lt
  obtain ⟨vk, w1, hrun, hok, hgr⟩ := append_keys w0 22 (w.heap.size + 3) AK ck ks RK.out hnk hk hz0
  obtain ⟨Ak, ckk, rfl, _, _⟩ := own_slice hok
  have BC1 := Lib.hid (BC.out.grown hgr (by simp))
  have BR1 := Lib.hid (BR.out.grown hgr (by simp))
  have BO1 := Lib.hid (BO.out.grown hgr (by simp))
  have HF1 := Lib.hid (HF.out.grown hgr HF.out.size (fun k hk => by cases hk))
  have HOK := Lib.hid hok
  have hrun' := hrun
  clear hok hgr hnk RK
  have cBC0 := BC.out.c 0 _ rfl; have fBC0 := BC.out.f 0 (by simp); have cBC1 := BC.out.c 1 _ rfl; have fBC1 := BC.out.f 1 (by simp); have lBC := BC.out.lt; have cBO0 := BO.out.c 0 _ rfl; have fBO0 := BO.out.f 0 (by simp); have cBO1 := BO.out.c 1 _ rfl; have fBO1 := BO.out.f 1 (by simp); have lBO := BO.out.lt
  go_wp2_with (at_builtin; refine Lib.wpList_append_run _ rfl _ _ _ _ rfl _ _ rfl rfl _ _ hrun ?_; clear cBC0 fBC0 cBC1 fBC1 lBC; clear cBO0 fBO0 cBO1 fBO1 lBO; have cBC10 := BC1.out.c 0 _ rfl; have fBC10 := BC1.out.f 0 (by simp); have cBC11 := BC1.out.c 1 _ rfl; have fBC11 := BC1.out.f 1 (by simp); have lBC1 := BC1.out.lt; have cBO10 := BO1.out.c 0 _ rfl; have fBO10 := BO1.out.f 0 (by simp); have cBO11 := BO1.out.c 1 _ rfl; have fBO11 := BO1.out.f 1 (by simp); have lBO1 := BO1.out.lt)
  clear cBC10 fBC10 cBC11 fBC11 lBC1; clear cBO10 fBO10 cBO11 fBO11 lBO1
  have HF2 := Lib.hid (below_set (g := w.heap.size + 1 + 1) (j := 0) (v := .slice Ak ks.length ckk) HF1.out (by omega))
  have BO2 : Hid (Box (w1.setCell ⟨w.heap.size + 1 + 1, 0, none⟩ (.slice Ak ks.length ckk)) (w.heap.size + 2) [.slice Ak ks.length ckk, .slice none 0 0]) := Lib.hid (BO1.out.set 0 (.slice Ak ks.length ckk) (by simp))
  have BC2 := Lib.hid (BC1.out.other ⟨w.heap.size + 1 + 1, 0, none⟩ (.slice Ak ks.length ckk) (by show w.heap.size + 1 + 1 ≠ w.heap.size; omega))
  have BR2 := Lib.hid (BR1.out.other ⟨w.heap.size + 1 + 1, 0, none⟩ (.slice Ak ks.length ckk) (by show w.heap.size + 1 + 1 ≠ w.heap.size + 1; omega))
  have HW0 : Hid (OwnY (w.heap.size + 3) w1 (.slice Ak ks.length ckk) (.slice none 0 0) ks [] []) := Lib.hid ⟨HOK.out, by simpa using World.ownsRow_nil w1 _ _ _, fun i l h => by simp at h, fun g _ h => by simp [Value.ownBlock] at h⟩
  have HW2 := Lib.hid (HW0.out.set ⟨w.heap.size + 1 + 1, 0, none⟩ (.slice Ak ks.length ckk) (by show w.heap.size + 1 + 1 < w.heap.size + 3; omega))
  clear HF1 BO1 BC1 BR1 BC BR BO HF HOK HW0 hrun hrun'
  generalize w1.setCell ⟨w.heap.size + 1 + 1, 0, none⟩ (.slice Ak ks.length ckk) = w2 at *
  clear w1 hz0
  go_loopw [4] (fun s4 wr => ∃ j : Nat, j ≤ ls.length ∧ s4 = .int .i64 j ∧ Hid (Below w.heap.size w wr) ∧ Hid (Box wr w.heap.size [.slice AK ks.length ck, .slice AL ls.length cl]) ∧ Hid (Box wr (w.heap.size + 1) [.slice none 0 0, .slice none 0 0]) ∧ ∃ vl vs, Hid (OwnY (w.heap.size + 3) wr (.slice Ak ks.length ckk) vl ks (ls.take j) vs) ∧ Hid (Box wr (w.heap.size + 2) [.slice Ak ks.length ckk, vl])) (fun s4 _ => ls.length - (Lib.intOf s4).toNat)
  case atStart => exact ⟨0, Nat.zero_le _, rfl, HF2, BC2, BR2, .slice none 0 0, [], HW2, BO2⟩
  case round =>
    obtain ⟨j, hj, rfl, HFr, BCr, BRr, vl, vs, HW, BOr⟩ := hrel
    clear HF2 BC2 BR2 HW2 BO2
    obtain ⟨Al2, cl2, rfl, _, _⟩ := own_slice HW.out.ol
    by_cases hlt : j < ls.length
    · obtain ⟨l, hl0⟩ : ∃ l, ls[j]? = some l := ⟨_, List.getElem?_eq_getElem hlt⟩
      obtain ⟨bl, ol, v, rfl, hbl, hcl, A, c', rfl, hlc, hrl, hnl⟩ := RL.out j l hl0
      have gl : wr.cell? ⟨bl, ol + j, none⟩ = some (.slice A l.length c') := (HFr.out.cell (p := ⟨bl, ol + j, none⟩) hbl).trans hcl
      have hta : ls.take (j + 1) = ls.take j ++ [l] := by rw [List.take_add_one, hl0]; rfl
      have hji : (j : Int) < (ls.length : Int) := by omega
      have htl : (ls.take j).length ≤ ls.length := by rw [List.length_take]; omega
      replace hta := Lib.hid hta
      have hl16 := HLS.out l (List.mem_of_getElem? hl0)
      clear hcl
      generalize ls.take j = L at *
      have cBCr0 := BCr.out.c 0 _ rfl; have fBCr0 := BCr.out.f 0 (by simp); have cBCr1 := BCr.out.c 1 _ rfl; have fBCr1 := BCr.out.f 1 (by simp); have lBCr := BCr.out.lt; have cBOr0 := BOr.out.c 0 _ rfl; have fBOr0 := BOr.out.f 0 (by simp); have cBOr1 := BOr.out.c 1 _ rfl; have fBOr1 := BOr.out.f 1 (by simp); have lBOr := BOr.out.lt
      go_upto_region 6 with (fail)
      clear cBCr0 fBCr0 cBCr1 fBCr1 lBCr; clear cBOr0 fBOr0 cBOr1 fBOr1 lBOr
      refine stage_begin (S := fun (L' : Array Bool) (w' : World) => (w'.cell? ⟨w.heap.size, 1, none⟩ = some (.slice (some ⟨bl, ol, none⟩) ls.length cl) ∧ w'.cell? ⟨bl, ol + j, none⟩ = some (.slice A l.length c')) ∧ (L'.getD 11 false = false → w'.cell? ⟨w.heap.size + 2, 1, none⟩ = some (.slice Al2 L.length cl2))) (by kernel_rfl) ?_
      have HFx : Hid (Below w.heap.size w wr.drew) := Lib.hid (below_drewN HFr.out 1)
      have BCx := Lib.hid BCr.out.drew
      have BRx := Lib.hid BRr.out.drew
      have BOx := Lib.hid BOr.out.drew
      have HWx : Hid (OwnY (w.heap.size + 3) wr.drew (.slice Ak ks.length ckk) (.slice Al2 L.length cl2) ks L vs) := Lib.hid (HW.out.below (below_drewN (Below.refl _ wr) 1))
      have gx : wr.drew.cell? ⟨bl, ol + j, none⟩ = some (.slice A l.length c') := gl
      have hof := rown_slv A c' l wr.drew (hrl.below HFx.out) hnl (HLS.out l (List.mem_of_getElem? hl0))
      have hz3 : w.heap.size + 3 ≤ wr.drew.heap.size := BOr.out.lt
      clear HFr BCr BRr BOr HW gl hrl
      generalize wr.drew = wd at *
      have hS1 := BOx.out.c 1 _ rfl
      have hS0 : (fun w' : World => w'.cell? ⟨w.heap.size, 1, none⟩ = some (.slice (some ⟨bl, ol, none⟩) ls.length cl) ∧ w'.cell? ⟨bl, ol + j, none⟩ = some (.slice A l.length c')) wd := ⟨BCx.out.c 1 _ rfl, gx⟩
      refine stage_take (i := 0) (oi := { dst := some 18, op := Go.Op.fieldAddr 25 (Go.Operand.tmp 3) 1, type := 0, pos := "ref.go:43", after := #[], guard := none }) (v := ?_) (T := fun _ => True) rfl (by kernel_rfl) (by kernel_rfl) (by kernel_rfl) (by kernel_rfl) (fun _ _ _ h => h) (fun L' w' hW hS => trivial) (fun L' w' hS => ⟨hS.1, fun h => hS.2 (by rw [getD_set_ne false (by decide)]; exact h)⟩) (Or.inl ⟨by rfl, ?_⟩) trivial (⟨hS0, fun _ => hS1⟩) ?_
      rotate_left 1
      · intro w9 _; go_simp; (try with_reducible rfl)
      try simp only [Act.put, List.setIfInBounds_toArray, List.set_cons_zero, List.set_cons_succ]
      refine stage_take (i := 1) (oi := { dst := some 19, op := Go.Op.load 23 (Go.Operand.tmp 18), type := 23, pos := "ref.go:43", after := #[{ on := 0, ground := Go.Ground.data }], guard := none }) (v := ?_) (T := fun w' : World => w'.cell? ⟨w.heap.size + 2, 1, none⟩ = some (.slice Al2 L.length cl2)) rfl (by kernel_rfl) (by kernel_rfl) (by kernel_rfl) (by kernel_rfl) (fun _ _ _ h => h) (fun L' w' hW hS => hS.2 (not_yet hW (by kernel_rfl))) (fun L' w' hS => ⟨hS.1, fun h => hS.2 (by rw [getD_set_ne false (by decide)]; exact h)⟩) (Or.inl ⟨by rfl, ?_⟩) (hS1) (⟨hS0, fun _ => hS1⟩) ?_
      rotate_left 1
      · intro w9 hS9; obtain z0 := hS9; go_simp; (try with_reducible rfl)
      try simp only [Act.put, List.setIfInBounds_toArray, List.set_cons_zero, List.set_cons_succ]
      refine stage_take (i := 2) (oi := { dst := some 20, op := Go.Op.fieldAddr 25 (Go.Operand.tmp 1) 1, type := 0, pos := "ref.go:43", after := #[], guard := none }) (v := ?_) (T := fun _ => True) rfl (by kernel_rfl) (by kernel_rfl) (by kernel_rfl) (by kernel_rfl) (fun _ _ _ h => h) (fun L' w' hW hS => trivial) (fun L' w' hS => ⟨hS.1, fun h => hS.2 (by rw [getD_set_ne false (by decide)]; exact h)⟩) (Or.inl ⟨by rfl, ?_⟩) trivial (⟨hS0, fun _ => hS1⟩) ?_
      rotate_left 1
      · intro w9 _; go_simp; (try with_reducible rfl)
      try simp only [Act.put, List.setIfInBounds_toArray, List.set_cons_zero, List.set_cons_succ]
      refine stage_take (i := 3) (oi := { dst := some 21, op := Go.Op.load 23 (Go.Operand.tmp 20), type := 23, pos := "ref.go:43", after := #[{ on := 2, ground := Go.Ground.data }], guard := none }) (v := ?_) (T := fun w' : World => w'.cell? ⟨w.heap.size, 1, none⟩ = some (.slice (some ⟨bl, ol, none⟩) ls.length cl) ∧ w'.cell? ⟨bl, ol + j, none⟩ = some (.slice A l.length c')) rfl (by kernel_rfl) (by kernel_rfl) (by kernel_rfl) (by kernel_rfl) (fun _ _ _ h => h) (fun L' w' hW hS => hS.1) (fun L' w' hS => ⟨hS.1, fun h => hS.2 (by rw [getD_set_ne false (by decide)]; exact h)⟩) (Or.inl ⟨by rfl, ?_⟩) (hS0) (⟨hS0, fun _ => hS1⟩) ?_
      rotate_left 1
      · intro w9 hS9; obtain ⟨z0, z1⟩ := hS9; go_simp; (try with_reducible rfl)
      try simp only [Act.put, List.setIfInBounds_toArray, List.set_cons_zero, List.set_cons_succ]
      refine stage_take (i := 4) (oi := { dst := some 22, op := Go.Op.move (Go.Operand.tmp 4), type := 3, pos := "ref.go:43", after := #[], guard := none }) (v := ?_) (T := fun _ => True) rfl (by kernel_rfl) (by kernel_rfl) (by kernel_rfl) (by kernel_rfl) (fun _ _ _ h => h) (fun L' w' hW hS => trivial) (fun L' w' hS => ⟨hS.1, fun h => hS.2 (by rw [getD_set_ne false (by decide)]; exact h)⟩) (Or.inl ⟨by rfl, ?_⟩) trivial (⟨hS0, fun _ => hS1⟩) ?_
      rotate_left 1
      · intro w9 _; go_simp; (try with_reducible rfl)
      try simp only [Act.put, List.setIfInBounds_toArray, List.set_cons_zero, List.set_cons_succ]
      refine stage_take (i := 5) (oi := { dst := some 23, op := Go.Op.indexAddr 23 (Go.Operand.tmp 21) (Go.Operand.tmp 22), type := 0, pos := "ref.go:43", after := #[{ on := 3, ground := Go.Ground.data }, { on := 4, ground := Go.Ground.data }], guard := none }) (v := ?_) (T := fun _ => True) rfl (by kernel_rfl) (by kernel_rfl) (by kernel_rfl) (by kernel_rfl) (fun _ _ _ h => h) (fun L' w' hW hS => trivial) (fun L' w' hS => ⟨hS.1, fun h => hS.2 (by rw [getD_set_ne false (by decide)]; exact h)⟩) (Or.inl ⟨by rfl, ?_⟩) trivial (⟨hS0, fun _ => hS1⟩) ?_
      rotate_left 1
      · intro w9 _; go_simp; (try with_reducible rfl)
      try simp only [Act.put, List.setIfInBounds_toArray, List.set_cons_zero, List.set_cons_succ]
      refine stage_take (i := 6) (oi := { dst := some 24, op := Go.Op.load 39 (Go.Operand.tmp 23), type := 39, pos := "ref.go:43", after := #[{ on := 5, ground := Go.Ground.data }], guard := none }) (v := ?_) (T := fun w' : World => w'.cell? ⟨w.heap.size, 1, none⟩ = some (.slice (some ⟨bl, ol, none⟩) ls.length cl) ∧ w'.cell? ⟨bl, ol + j, none⟩ = some (.slice A l.length c')) rfl (by kernel_rfl) (by kernel_rfl) (by kernel_rfl) (by kernel_rfl) (fun _ _ _ h => h) (fun L' w' hW hS => hS.1) (fun L' w' hS => ⟨hS.1, fun h => hS.2 (by rw [getD_set_ne false (by decide)]; exact h)⟩) (Or.inl ⟨by rfl, ?_⟩) (hS0) (⟨hS0, fun _ => hS1⟩) ?_
      rotate_left 1
      · intro w9 hS9; obtain ⟨z0, z1⟩ := hS9; go_simp; (try with_reducible rfl)
      try simp only [Act.put, List.setIfInBounds_toArray, List.set_cons_zero, List.set_cons_succ]
      clear hS0 hS1
      refine stage_all (rs := [7]) (by kernel_rfl) (by simp) (fun i0 hi0 => ?_)
      obtain rfl : i0 = 7 := by simpa using hi0
      refine stage_step (S := fun (L' : Array Bool) (w' : World) => (w'.cell? ⟨w.heap.size, 1, none⟩ = some (.slice (some ⟨bl, ol, none⟩) ls.length cl) ∧ w'.cell? ⟨bl, ol + j, none⟩ = some (.slice A l.length c')) ∧ (L'.getD 11 false = false → w'.cell? ⟨w.heap.size + 2, 1, none⟩ = some (.slice Al2 L.length cl2))) (o := { dst := some 25, op := Go.Op.call { callee := Go.Callee.value (Go.Operand.func 57), args := #[Go.Operand.tmp 24], argTypes := #[39] }, type := 39, pos := "ref.go:43", after := #[{ on := 6, ground := Go.Ground.data }], guard := none }) (by rfl) (fun K2 hK => ?_)
      go_simp
      go_wp2_with (go_at_call 57; (with_reducible refine hof.mono ?_); rintro e w2 ⟨v2, rfl, ⟨A2, c2, rfl, hc2, hr2, hn2, hN2⟩, h2⟩)
      replace HFx := Lib.hid (below_step' HFx.out h2)
      replace BCx := Lib.hid (BCx.out.step h2)
      replace BRx := Lib.hid (BRx.out.step h2)
      replace BOx := Lib.hid (BOx.out.step h2)
      replace gx := (h2.cell (p := ⟨bl, ol + j, none⟩) (World.block_lt_of_cell? _ _ gx)).trans gx
      have HNx : Hid (NewZ (w.heap.size + 3) w2 (.slice Al2 L.length cl2) (.slice A2 l.length c2) l) := Lib.hid ⟨A2, c2, rfl, hc2, hn2, fun a ha => Nat.le_trans hz3 (hN2 a ha), hr2, fun _ a ha e => by have := (HWx.out.ol.lt _ e).2; have := hN2 a ha; omega⟩
      replace HWx := Lib.hid (HWx.out.below h2)
      replace hz3 : w.heap.size + 3 ≤ w2.heap.size := BOx.out.lt
      clear hof hr2 hn2 hN2 h2
      refine hK.out _ _ (⟨⟨BCx.out.c 1 _ rfl, gx⟩, fun _ => BOx.out.c 1 _ rfl⟩) ?_
      clear hK K2
      try simp only [Act.put, List.setIfInBounds_toArray, List.set_cons_zero, List.set_cons_succ]
      refine stage_all (rs := [8]) (by kernel_rfl) (by simp) (fun i0 hi0 => ?_)
      obtain rfl : i0 = 8 := by simpa using hi0
      refine stage_step (S := fun (L' : Array Bool) (w' : World) => (w'.cell? ⟨w.heap.size, 1, none⟩ = some (.slice (some ⟨bl, ol, none⟩) ls.length cl) ∧ w'.cell? ⟨bl, ol + j, none⟩ = some (.slice A l.length c')) ∧ (L'.getD 11 false = false → w'.cell? ⟨w.heap.size + 2, 1, none⟩ = some (.slice Al2 L.length cl2))) (o := { dst := some 26, op := Go.Op.buildSlice 23 1 #[(0, Go.Operand.tmp 25)], type := 23, pos := "ref.go:43", after := #[{ on := 7, ground := Go.Ground.data }], guard := none }) (by rfl) (fun K2 hK => ?_)
      go_simp
      have N8 : Hid (Box (w2.alloc (.cells #[.slice A2 l.length c2] 39)) w2.heap.size [.slice A2 l.length c2]) := Lib.hid (Box.new w2 #[.slice A2 l.length c2] _)
      have h2 := (Below.refl w2.heap.size w2).alloc (Nat.le_refl _) (.cells #[.slice A2 l.length c2] 39)
      replace HFx := Lib.hid (below_step' HFx.out h2)
      replace BCx := Lib.hid (BCx.out.step h2)
      replace BRx := Lib.hid (BRx.out.step h2)
      replace BOx := Lib.hid (BOx.out.step h2)
      replace gx := (h2.cell (p := ⟨bl, ol + j, none⟩) (World.block_lt_of_cell? _ _ gx)).trans gx
      replace HWx := Lib.hid (HWx.out.below h2)
      replace HNx := Lib.hid (HNx.out.below h2)
      replace hz3 : w.heap.size + 3 ≤ (w2.alloc (.cells #[.slice A2 l.length c2] 39)).heap.size := BOx.out.lt
      clear h2
      refine hK.out _ _ (⟨⟨BCx.out.c 1 _ rfl, gx⟩, fun _ => BOx.out.c 1 _ rfl⟩) ?_
      clear hK K2
      try simp only [Act.put, List.setIfInBounds_toArray, List.set_cons_zero, List.set_cons_succ]
      generalize w2.alloc (.cells #[.slice A2 l.length c2] 39) = w8 at *
      generalize w2.heap.size = g8 at *
      clear w2
      refine stage_all (rs := [9]) (by kernel_rfl) (by simp) (fun i0 hi0 => ?_)
      obtain rfl : i0 = 9 := by simpa using hi0
      refine stage_step (S := fun (L' : Array Bool) (w' : World) => (w'.cell? ⟨w.heap.size, 1, none⟩ = some (.slice (some ⟨bl, ol, none⟩) ls.length cl) ∧ w'.cell? ⟨bl, ol + j, none⟩ = some (.slice A l.length c')) ∧ (L'.getD 11 false = false → w'.cell? ⟨w.heap.size + 2, 1, none⟩ = some (.slice Al2 L.length cl2))) (o := { dst := some 27, op := Go.Op.call { callee := Go.Callee.builtin Go.Builtin.append, args := #[Go.Operand.tmp 19, Go.Operand.tmp 26], argTypes := #[23, 23] }, type := 23, pos := "ref.go:43", after := #[{ on := 1, ground := Go.Ground.data }, { on := 8, ground := Go.Ground.data }, { on := 7, ground := Go.Ground.chain }], guard := none }) (by rfl) (fun K2 hK => ?_)
      refine step_append_at rfl _ _ 23 rfl (w.heap.size + 3) 39 iR (.slice none 0 0) 1 24 rfl hiR1 hiR2 hiR3 hiR4 rfl (by decide) _ L.length vs rfl HWx.out.ol ⟨g8, 0, none⟩ 1 1 [.slice A2 l.length c2] rfl rfl (fun i u hi => by rw [Addr.add_lit, Nat.zero_add]; exact N8.out.c i u hi) (by simp [Value.oneCell']) (by simp only [maxLen]; omega) (by omega) hz3 (fun vl2 w9 hown hgrow hat => ?_)
      have qc : (Value.slice Al2 L.length cl2).ownBlock ≠ some w.heap.size := fun q => by have := (HWx.out.ol.lt w.heap.size q).1; omega
      have qr : (Value.slice Al2 L.length cl2).ownBlock ≠ some (w.heap.size + 1) := fun q => by have := (HWx.out.ol.lt (w.heap.size + 1) q).1; omega
      have qo : (Value.slice Al2 L.length cl2).ownBlock ≠ some (w.heap.size + 2) := fun q => by have := (HWx.out.ol.lt (w.heap.size + 2) q).1; omega
      have ql : (Value.slice Al2 L.length cl2).ownBlock ≠ some bl := fun q => by have := (HWx.out.ol.lt bl q).1; omega
      replace HFx := Lib.hid (HFx.out.grown hgrow (by omega) (fun k hk => by have := (HWx.out.ol.lt k hk).1; omega))
      replace BCx := Lib.hid (BCx.out.grown hgrow (Ne.symm qc))
      replace BRx := Lib.hid (BRx.out.grown hgrow (Ne.symm qr))
      replace BOx := Lib.hid (BOx.out.grown hgrow (Ne.symm qo))
      replace gx := (World.cell?_of_block (a := ⟨bl, ol + j, none⟩) (hgrow.block bl (World.block_lt_of_cell? _ _ gx) (Ne.symm ql))).trans gx
      obtain ⟨Al3, cl3, rfl, _, _⟩ := own_slice hown
      replace HWx := Lib.hid (HWx.out.list hown hgrow hat HNx.out)
      replace hz3 : w.heap.size + 3 ≤ w9.heap.size := BOx.out.lt
      clear hown hgrow hat qc qr qo ql HNx N8
      refine hK.out _ _ (⟨⟨BCx.out.c 1 _ rfl, gx⟩, fun _ => BOx.out.c 1 _ rfl⟩) ?_
      clear hK K2
      try simp only [Act.put, List.setIfInBounds_toArray, List.set_cons_zero, List.set_cons_succ]
      refine stage_take (i := 10) (oi := { dst := some 28, op := Go.Op.fieldAddr 25 (Go.Operand.tmp 3) 1, type := 0, pos := "ref.go:43", after := #[{ on := 0, ground := Go.Ground.phase }, { on := 1, ground := Go.Ground.phase }, { on := 2, ground := Go.Ground.phase }, { on := 3, ground := Go.Ground.phase }, { on := 4, ground := Go.Ground.phase }, { on := 5, ground := Go.Ground.phase }, { on := 6, ground := Go.Ground.phase }, { on := 7, ground := Go.Ground.phase }, { on := 8, ground := Go.Ground.phase }, { on := 9, ground := Go.Ground.phase }], guard := none }) (v := ?_) (T := fun _ => True) rfl (by kernel_rfl) (by kernel_rfl) (by kernel_rfl) (by kernel_rfl) (fun _ _ _ h => h) (fun L' w' hW hS => trivial) (fun L' w' hS => ⟨hS.1, fun h => hS.2 (by rw [getD_set_ne false (by decide)]; exact h)⟩) (Or.inl ⟨by rfl, ?_⟩) trivial (⟨⟨BCx.out.c 1 _ rfl, gx⟩, fun _ => BOx.out.c 1 _ rfl⟩) ?_
      rotate_left 1
      · intro w9 _; go_simp; (try with_reducible rfl)
      try simp only [Act.put, List.setIfInBounds_toArray, List.set_cons_zero, List.set_cons_succ]
      refine stage_all (rs := [11]) (by kernel_rfl) (by simp) (fun i0 hi0 => ?_)
      obtain rfl : i0 = 11 := by simpa using hi0
      refine stage_step (S := fun (L' : Array Bool) (w' : World) => (w'.cell? ⟨w.heap.size, 1, none⟩ = some (.slice (some ⟨bl, ol, none⟩) ls.length cl) ∧ w'.cell? ⟨bl, ol + j, none⟩ = some (.slice A l.length c')) ∧ (L'.getD 11 false = false → w'.cell? ⟨w.heap.size + 2, 1, none⟩ = some (.slice Al2 L.length cl2))) (o := { dst := none, op := Go.Op.store 23 (Go.Operand.tmp 28) (Go.Operand.tmp 27), type := 0, pos := "ref.go:43", after := #[{ on := 10, ground := Go.Ground.data }, { on := 9, ground := Go.Ground.data }, { on := 9, ground := Go.Ground.chain }, { on := 0, ground := Go.Ground.phase }, { on := 1, ground := Go.Ground.phase }, { on := 2, ground := Go.Ground.phase }, { on := 3, ground := Go.Ground.phase }, { on := 4, ground := Go.Ground.phase }, { on := 5, ground := Go.Ground.phase }, { on := 6, ground := Go.Ground.phase }, { on := 7, ground := Go.Ground.phase }, { on := 8, ground := Go.Ground.phase }, { on := 9, ground := Go.Ground.phase }], guard := none }) (by rfl) (fun K2 hK => ?_)
      have cBOx0 := BOx.out.c 0 _ rfl; have fBOx0 := BOx.out.f 0 (by simp); have cBOx1 := BOx.out.c 1 _ rfl; have fBOx1 := BOx.out.f 1 (by simp); have lBOx := BOx.out.lt
      go_simp
      clear cBOx0 fBOx0 cBOx1 fBOx1 lBOx
      replace HFx := Lib.hid (below_set (g := w.heap.size + 2) (j := 1) (v := (.slice Al3 (L.length + 1) cl3)) HFx.out (by omega))
      replace BOx : Hid (Box (w9.setCell ⟨w.heap.size + 2, 1, none⟩ (.slice Al3 (L.length + 1) cl3)) (w.heap.size + 2) [.slice Ak ks.length ckk, (.slice Al3 (L.length + 1) cl3)]) := Lib.hid (BOx.out.set 1 _ (by simp))
      replace BCx := Lib.hid (BCx.out.other ⟨w.heap.size + 2, 1, none⟩ (.slice Al3 (L.length + 1) cl3) (by show w.heap.size + 2 ≠ w.heap.size; omega))
      replace BRx := Lib.hid (BRx.out.other ⟨w.heap.size + 2, 1, none⟩ (.slice Al3 (L.length + 1) cl3) (by show w.heap.size + 2 ≠ w.heap.size + 1; omega))
      replace HWx := Lib.hid (HWx.out.set ⟨w.heap.size + 2, 1, none⟩ (.slice Al3 (L.length + 1) cl3) (by show w.heap.size + 2 < w.heap.size + 3; omega))
      replace gx := (World.cell?_of_block (a := ⟨bl, ol + j, none⟩) (heap_setCell_other w9 ⟨w.heap.size + 2, 1, none⟩ bl (.slice Al3 (L.length + 1) cl3) (by show bl ≠ w.heap.size + 2; omega))).trans gx
      refine hK.out _ _ (⟨⟨BCx.out.c 1 _ rfl, gx⟩, fun h => by simp at h⟩) ?_
      clear hK K2
      try simp only [Act.put, List.setIfInBounds_toArray, List.set_cons_zero, List.set_cons_succ]
      generalize w9.setCell ⟨w.heap.size + 2, 1, none⟩ (.slice Al3 (L.length + 1) cl3) = w10 at *
      refine stage_done (by kernel_rfl) ?_ _
      go_wp2_with fail
      go_roundw
      case rel => exact ⟨j + 1, by omega, by go_num, HFx, BCx, BRx, _, _, Lib.hid (by rw [hta.out]; exact HWx.out), BOx⟩
      case measure => simp [Lib.intOf]; omega
    · obtain rfl : j = ls.length := by omega
      rw [List.take_length] at HW BOr
      have hz3 : w.heap.size + 3 ≤ wr.heap.size := BOr.out.lt
      have cBCr0 := BCr.out.c 0 _ rfl; have fBCr0 := BCr.out.f 0 (by simp); have cBCr1 := BCr.out.c 1 _ rfl; have fBCr1 := BCr.out.f 1 (by simp); have lBCr := BCr.out.lt; have cBRr0 := BRr.out.c 0 _ rfl; have fBRr0 := BRr.out.f 0 (by simp); have cBRr1 := BRr.out.c 1 _ rfl; have fBRr1 := BRr.out.f 1 (by simp); have lBRr := BRr.out.lt; have cBOr0 := BOr.out.c 0 _ rfl; have fBOr0 := BOr.out.f 0 (by simp); have cBOr1 := BOr.out.c 1 _ rfl; have fBOr1 := BOr.out.f 1 (by simp); have lBOr := BOr.out.lt
      go_wp2_with fail
      clear cBCr0 fBCr0 cBCr1 fBCr1 lBCr; clear cBRr0 fBRr0 cBRr1 fBRr1 lBRr; clear cBOr0 fBOr0 cBOr1 fBOr1 lBOr
      have BX : Hid (Box ((wr.setCell ⟨w.heap.size + 1, 0, none⟩ (.slice Ak ks.length ckk)).setCell ⟨w.heap.size + 1, 1, none⟩ (.slice Al2 ls.length cl2)) (w.heap.size + 1) [.slice Ak ks.length ckk, .slice Al2 ls.length cl2]) := Lib.hid ((BRr.out.set 0 (.slice Ak ks.length ckk) (by simp)).set 1 (.slice Al2 ls.length cl2) (by simp))
      have HX := Lib.hid (below_set (g := w.heap.size + 1) (j := 1) (v := .slice Al2 ls.length cl2) (below_set (g := w.heap.size + 1) (j := 0) (v := .slice Ak ks.length ckk) HFr.out (Nat.le_succ _)) (Nat.le_succ _))
      have HV := Lib.hid (((HW.out.set ⟨w.heap.size + 1, 0, none⟩ (.slice Ak ks.length ckk) (by show w.heap.size + 1 < w.heap.size + 3; omega)).set ⟨w.heap.size + 1, 1, none⟩ (.slice Al2 ls.length cl2) (by show w.heap.size + 1 < w.heap.size + 3; omega)).rebase (b' := w.heap.size) (by omega))
      generalize (wr.setCell ⟨w.heap.size + 1, 0, none⟩ (.slice Ak ks.length ckk)).setCell ⟨w.heap.size + 1, 1, none⟩ (.slice Al2 ls.length cl2) = wz at *
      have cBX0 := BX.out.c 0 _ rfl; have fBX0 := BX.out.f 0 (by simp); have cBX1 := BX.out.c 1 _ rfl; have fBX1 := BX.out.f 1 (by simp); have lBX := BX.out.lt
      refine bodyPost_ret (v := .agg #[.slice Ak ks.length ckk, .slice Al2 ls.length cl2]) (by simp [results, Try.results32, go_sem, cBX0, cBX1]) rfl ?_
      exact ⟨_, _, _, rfl, HV.out, HX.out⟩
end Go.Proofs.Ytpkacnoimdjckaa
namespace Go.Proofs.Ytpkacnoimdjckaa
open Go.RowKit
open Go.Shelf
set_option linter.unusedVariables false
set_option linter.unusedSimpArgs false
theorem place_le2 : ∀ (ks : List ByteArray) (t : ByteArray), place ks t ≤ ks.length
  | [], _ => Nat.zero_le _
  | k :: ks, t => by
    have := place_le2 ks t
    unfold place; split <;> simp <;> omega
theorem OwnY.seti {base : Nat} {w : World} {vk : Value} {ks : List ByteArray} {ls : List (List Ver)} {vs : List Value} {g n cap : Nat} (h : OwnY base w vk (.slice (some ⟨g, 0, none⟩) n cap) ks ls vs) (i : Nat) {u : Value} {l : List Ver} (hn : n = ls.length) (hs : NewZ base w (.slice (some ⟨g, 0, none⟩) n cap) u l) :
    OwnY base (w.setCell ⟨g, i, none⟩ u) vk (.slice (some ⟨g, 0, none⟩) n cap) ks (ls.set i l) (vs.set i u) := by
  subst hn
  obtain ⟨ho, hg⟩ := h.ol.stored i u
  have hlen : vs.length = ls.length := by have := h.ol.1; simpa using this
  refine ⟨?_, by rw [List.length_set]; exact ho, fun k l' hk => ?_, h.dj⟩
  · refine h.ok.kept hg ?_
    cases hv : vk.ownBlock with
    | none => left; rfl
    | some g' => right; intro e; exact h.dj g' hv e.symm
  · by_cases e : i = k
    · subst e
      have hlt := lt_of_get hk
      rw [List.length_set] at hlt
      rw [List.getElem?_set_self hlt] at hk
      obtain rfl := Option.some.inj hk
      exact ⟨u, by rw [List.getElem?_set_self (by omega)], hs.moved hg (.inl rfl)⟩
    · rw [List.getElem?_set_ne e] at hk
      obtain ⟨v, hv, hb⟩ := h.el k l' hk
      exact ⟨v, by rw [List.getElem?_set_ne e]; exact hv, hb.moved hg (.inl rfl)⟩
/-- 'append' as a step, by what it comes to. -/
theorem step_append_run {P : Program} {ops : Array Oper} {o : Oper} {a : Act} {w : World} {K : Act → World → Prop} {Q : Exit → Act → World → Prop} {E : Prop}
    (hg : o.guard = none) (s x : Operand) (t : TypeId) (hop : o.op = Op.call { callee := Callee.builtin Builtin.append, args := #[s, x], argTypes := #[t, t] })
    (v u : Value) (hs : a.eval s = v) (hx : a.eval x = u) {v' : Value} {w' : World} (hr : (Builtin.append_ #[t, t] o.type #[v, u]).run P w = .ok v' w') (hK : K (a.put o.dst v') w') :
    if Region.wanted o (yielded ops a.tmps) = true then Oper.wp P o a w K Q else E := by
  have hw : Region.wanted o (yielded ops a.tmps) = true := by simp [Region.wanted, hg]
  rw [if_pos hw]
  unfold Oper.wp
  simp [execOp, hop, resolve, invoke, builtin, hs, hx, hr, Result.andThen]
  exact hK
/-- A row of one's own grows; another one stays. -/
theorem app_row {t ty e e2 : TypeId} {i : TypeInfo} {z : Value} {bytes : Nat} (ht : Try.prog.underlying t = some (.slice e)) (hi : Try.prog.info? e = some i) (hz : i.zero = some z) (hsize : i.size = 1) (hby : i.bytes = bytes) (hzs : z.cells.size = 1)
    (w : World) (base : Nat) (v : Value) (n : Nat) (xs : List Value) (hown : w.ownsRow base e 1 v n xs) (S : Option Addr) (m c : Nat) (news : List Value) (hm : news.length = m) (h1 : ∀ u ∈ news, u.oneCell' = true)
    (hsrc : (S = none ∧ c = 0 ∧ m = 0) ∨ ∃ ad, S = some ad ∧ ∀ j u, news[j]? = some u → w.cell? (ad.add j) = some u) (hb1 : n + m ≤ 4096) (hb2 : bytes ≤ 64) (hbase : base ≤ w.heap.size)
    (o : Value) (n2 : Nat) (ys : List Value) (ho : w.ownsRow base e2 1 o n2 ys) (hd : ∀ g, v.ownBlock = some g → o.ownBlock ≠ some g) :
    ∃ v' w', (Builtin.append_ #[t, t] ty #[v, .slice S m c]).run Try.prog w = .ok v' w' ∧ w'.ownsRow base e 1 v' (n + m) (xs ++ news) ∧ w'.ownsRow base e2 1 o n2 ys ∧ (∀ g, v'.ownBlock = some g → o.ownBlock ≠ some g) ∧ Below base w w' := by
  rcases hsrc with ⟨rfl, rfl, h0⟩ | ⟨ad, rfl, hc⟩
  · subst hm
    obtain rfl : news = [] := List.eq_nil_of_length_eq_zero h0
    exact ⟨v, w, run_append_owned_none (P := Try.prog) (w := w) base t ty e i 1 ht hi v n xs hown, by simpa using hown, ho, hd, Below.refl _ _⟩
  · subst hby
    have hmul : (n + m) * i.bytes ≤ 4096 * 64 := Nat.mul_le_mul hb1 hb2
    obtain ⟨v', w', hrun, r1, r2, _, r4⟩ := run_append_own_at (P := Try.prog) w base t ty e i z 1 i.bytes ht hi hz hsize rfl hzs (by decide) v n xs hown ad m c news (by rw [Nat.mul_one]; exact hm) hc h1 (by unfold maxLen; omega) (by omega) hbase
    refine ⟨v', w', hrun, r1, ho.kept r2 ?_, fun g hg hg2 => ?_, (Below.refl base w).grown r2 hbase (fun k hk => (hown.lt k hk).1)⟩
    · cases hv : o.ownBlock with
      | none => left; rfl
      | some g => right; intro e; exact hd g e.symm hv
    · rcases r4 with r4 | r4
      · exact hd g (r4 ▸ hg) hg2
      · have := (ho.lt g hg2).2
        rw [hg] at r4; have := Option.some.inj r4; omega
def tailA (A : Option Addr) (i c : Nat) : Option Addr := match A with
  | none => none
  | some a => if c = i then some a else some ⟨a.block, a.off + i, none⟩
theorem own_form {w : World} {base n c : Nat} {e : TypeId} {A : Option Addr} {xs : List Value} (h : w.ownsRow base e 1 (.slice A n c) n xs) : (A = none ∧ c = 0 ∧ n = 0) ∨ ∃ g, A = some ⟨g, 0, none⟩ ∧ n ≤ c := by
  rcases h.2 with ⟨h', h0⟩ | ⟨g, cap, cur, h', _, _, hle, _⟩
  · obtain ⟨rfl, rfl, rfl⟩ : A = none ∧ n = 0 ∧ c = 0 := by simpa using h'
    exact .inl ⟨rfl, rfl, rfl⟩
  · obtain ⟨rfl, rfl⟩ : A = some ⟨g, 0, none⟩ ∧ c = cap := by simpa using h'
    exact .inr ⟨g, rfl, hle⟩
theorem src_take {w : World} {base n c : Nat} {e : TypeId} {A : Option Addr} {xs : List Value} (h : w.ownsRow base e 1 (.slice A n c) n xs) {i : Nat} (hi : i ≤ n) : (A = none ∧ c = 0 ∧ i = 0) ∨ ∃ ad, A = some ad ∧ ∀ j u, (xs.take i)[j]? = some u → w.cell? (ad.add j) = some u := by
  rcases own_form h with ⟨h1, h2, h3⟩ | ⟨g, rfl, _⟩
  · exact .inl ⟨h1, h2, by omega⟩
  · refine .inr ⟨_, rfl, fun j u hu => ?_⟩
    have hj := lt_of_get hu
    rw [List.length_take] at hj
    rw [List.getElem?_take, if_pos (by omega)] at hu
    rw [Addr.add_lit, Nat.zero_add, h.cellAt j (by omega)]; exact hu
theorem src_drop {w : World} {base n c : Nat} {e : TypeId} {A : Option Addr} {xs : List Value} (h : w.ownsRow base e 1 (.slice A n c) n xs) {i : Nat} (hi : i ≤ n) : (tailA A i c = none ∧ c - i = 0 ∧ n - i = 0) ∨ ∃ ad, tailA A i c = some ad ∧ ∀ j u, (xs.drop i)[j]? = some u → w.cell? (ad.add j) = some u := by
  have hl : xs.length = n := by have := h.1; simpa using this
  rcases own_form h with ⟨rfl, h2, h3⟩ | ⟨g, rfl, hc⟩
  · exact .inl ⟨rfl, by omega, by omega⟩
  · by_cases hci : c = i
    · refine .inr ⟨⟨g, 0, none⟩, by simp only [tailA, if_pos hci], fun j u hu => ?_⟩
      have hj := lt_of_get hu
      rw [List.length_drop] at hj
      omega
    · refine .inr ⟨⟨g, 0 + i, none⟩, by simp only [tailA, if_neg hci], fun j u hu => ?_⟩
      have hj := lt_of_get hu
      rw [List.length_drop] at hj
      rw [List.getElem?_drop] at hu
      rw [Addr.add_lit, Nat.zero_add, h.cellAt (i + j) (by omega)]; exact hu
theorem OwnY.fresh {N base : Nat} {w w' : World} {vk vl : Value} {ks : List ByteArray} {ls : List (List Ver)} {vs : List Value} (hN : N = w.heap.size) (hb : Below N w w') (hbN : base ≤ N) (hk : w'.ownsRow N 9 1 vk ks.length (ks.flatMap encS)) (hl : w'.ownsRow N 39 1 vl ls.length vs)
    (hd : ∀ g, vk.ownBlock = some g → vl.ownBlock ≠ some g) (hel : ∀ (i : Nat) (l : List Ver), ls[i]? = some l → ∃ v vl0, vs[i]? = some v ∧ NewZ base w vl0 v l) : OwnY base w' vk vl ks ls vs := by
  subst hN
  refine ⟨own_base hk hbN, own_base hl hbN, fun i l hi => ?_, hd⟩
  obtain ⟨v, vl0, hv, A, c, h1, h2, h3, h4, h5, h6⟩ := hel i l hi
  refine ⟨v, hv, A, c, h1, h2, h3, h4, h5.below hb, fun h0 a ha e => ?_⟩
  obtain ⟨x, hx⟩ : ∃ x, l[0]? = some x := ⟨_, List.getElem?_eq_getElem (List.length_pos_iff.2 h0)⟩
  obtain ⟨b, off, e2, hlt, _⟩ := h5 0 x hx
  rw [e2] at ha
  obtain rfl := Option.some.inj ha
  have := (hl.lt _ e).1
  simp only at this
  omega
set_option maxHeartbeats 8000000 in
set_option maxRecDepth 100000 in
theorem rput_any (AK AL : Option Addr) (ck cl : Nat) (ks : List ByteArray) (ls : List (List Ver)) (key : ByteArray) (snap tx : Int) (gone : Bool) (val : ByteArray) (w : World)
    (HK : RowE encS 1 w AK ks) (HL : RowL w AL ls) (hnk : AK = none → ck = 0) (hk : ks.length ≤ 140737488355328) (hl : ls.length ≤ 140737488355328) :
    Calls Try.prog 11 #[.agg #[.slice AK ks.length ck, .slice AL ls.length cl], .string key, .int .i64 snap, .int .i64 tx, .bool gone, .string val] w fun e w' =>
      ∃ v, e = .returned (.tuple #[v, .int .i64 (putR ks ls key snap tx gone val).2.2]) ∧ ChB w.heap.size w' v (putR ks ls key snap tx gone val).1 (putR ks ls key snap tx gone val).2.1 ∧ Below w.heap.size w w' := by
  obtain ⟨iS, hiS1, hiS2, hiS3, hiS4⟩ := infoS
  obtain ⟨iR, hiR1, hiR2, hiR3, hiR4⟩ := infoR2
  have h0 : Below w.heap.size w ((w.alloc (.cells #[.slice AK ks.length ck, .slice AL ls.length cl] 25)).alloc (.cells #[.slice none 0 0, .slice none 0 0] 25)) := (by (repeat (first | (with_reducible exact Below.refl _ _) | apply below_alloc _ (Nat.le_refl _) | refine below_set ?_ (by first | exact Nat.le_refl _ | omega) | apply below_drewN | refine below_step ?_ HB)))
  have BC := Lib.hid ((Box.new w #[.slice AK ks.length ck, .slice AL ls.length cl] 25).alloc (.cells #[.slice none 0 0, .slice none 0 0] 25))
  have BR := Lib.hid (Box.new (w.alloc (.cells #[.slice AK ks.length ck, .slice AL ls.length cl] 25)) #[.slice none 0 0, .slice none 0 0] 25)
  have RK := Lib.hid (HK.below h0)
  have RL := Lib.hid (HL.below h0)
  have HF := Lib.hid h0
  have hck := rgcheck_any AK AL ck cl ks ls _ RK.out RL.out hk hl
  simp only [World.size_alloc] at BR
  have CK := Lib.hid (fun h => chkC_ok (ks := ks) (ls := ls) h)
  have C9 := chkC_or ks ls
  obtain ⟨g, hg⟩ : ∃ g, g = putR ks ls key snap tx gone val := ⟨_, rfl⟩
  rw [← hg]
  have E1 : Hid (chkC ks ls = 9 → g = ([], [], 9)) := Lib.hid (fun h => by rw [hg]; unfold putR; rw [if_pos (by simp [h]), h])
  have E2 : Hid (chkC ks ls = 0 → (1024 : Int) < key.size → g = ([], [], 31)) := Lib.hid (fun h h2 => by rw [hg]; unfold putR; rw [if_neg (by simp [h]), if_pos h2])
  have E3 : Hid (chkC ks ls = 0 → ¬ (1024 : Int) < key.size → g = if (write snap tx gone val (oldP ks ls key)).2 ≠ 0 then ([], [], (write snap tx gone val (oldP ks ls key)).2)
    else if atK ks key = true then (ks, ls.set (place ks key) (write snap tx gone val (oldP ks ls key)).1, 0)
    else if ks.length = 2048 then ([], [], 51)
    else (putV ks (place ks key) key, putV ls (place ks key) (write snap tx gone val (oldP ks ls key)).1, 0)) := Lib.hid (fun h h2 => by rw [hg]; unfold putR; rw [if_neg (by simp [h]), if_neg h2])
  have HAT : Hid (chkC ks ls = 0 → atK ks key = true → ∃ l, ls[place ks key]? = some l) := Lib.hid (fun hc hat => by
    unfold atK at hat
    cases hy : ks[place ks key]? with
    | none => rw [hy] at hat; cases hat
    | some y => exact ⟨_, List.getElem?_eq_getElem (by have := lt_of_get hy; have := (chkC_ok hc).1; omega)⟩)
  have hpi := place_le2 ks key
  clear HK HL h0 hg
  generalize chkC ks ls = kc at *
  go_enter Try.func11, Try.ntmps11
  go_wp2_with fail
  generalize (w.alloc (.cells #[.slice AK ks.length ck, .slice AL ls.length cl] 25)).alloc (.cells #[.slice none 0 0, .slice none 0 0] 25) = w0 at *
  refine hck.mono ?_; rintro e w1 ⟨rfl, h1⟩
  replace BC := Lib.hid (BC.out.below h1 BC.out.lt); replace BR := Lib.hid (BR.out.below h1 BR.out.lt); replace RK := Lib.hid (RK.out.below h1); replace RL := Lib.hid (RL.out.below h1); replace HF := Lib.hid (below_step' HF.out h1)
  clear hck h1
  rcases C9 with rfl | rfl
  · obtain ⟨hlen, hle, hri, hls⟩ := CK.out (by trivial)
    have HLEN := Lib.hid hlen
    have HLS := Lib.hid hls
    have hlel : ls.length ≤ 2048 := by omega
    by_cases hbig : (1024 : Int) < key.size
    · have EE := Lib.hid (E2.out (by trivial) hbig)
      clear E1 E2 E3 CK RK RL hlen hri hls HLEN HLS HAT
      have cBC0 := BC.out.c 0 _ rfl; have fBC0 := BC.out.f 0 (by simp); have cBC1 := BC.out.c 1 _ rfl; have fBC1 := BC.out.f 1 (by simp); have lBC := BC.out.lt; have cBR0 := BR.out.c 0 _ rfl; have fBR0 := BR.out.f 0 (by simp); have cBR1 := BR.out.c 1 _ rfl; have fBR1 := BR.out.f 1 (by simp); have lBR := BR.out.lt
      go_wp2_with fail
      clear cBC0 fBC0 cBC1 fBC1 lBC; clear cBR0 fBR0 cBR1 fBR1 lBR
      have HX := Lib.hid (below_set (g := w.heap.size + 1) (j := 1) (v := .slice none 0 0) (below_set (g := w.heap.size + 1) (j := 0) (v := .slice none 0 0) HF.out (Nat.le_succ _)) (Nat.le_succ _))
      have BX : Hid (Box ((w1.setCell ⟨w.heap.size + 1, 0, none⟩ (.slice none 0 0)).setCell ⟨w.heap.size + 1, 1, none⟩ (.slice none 0 0)) (w.heap.size + 1) [.slice none 0 0, .slice none 0 0]) := Lib.hid ((BR.out.set 0 (.slice none 0 0) (by simp)).set 1 (.slice none 0 0) (by simp))
      have HV : Hid (ChB w.heap.size ((w1.setCell ⟨w.heap.size + 1, 0, none⟩ (.slice none 0 0)).setCell ⟨w.heap.size + 1, 1, none⟩ (.slice none 0 0)) (.agg #[.slice none 0 0, .slice none 0 0]) g.1 g.2.1) := Lib.hid (by rw [EE.out]; exact ChB.nil _ _)
      generalize (w1.setCell ⟨w.heap.size + 1, 0, none⟩ (.slice none 0 0)).setCell ⟨w.heap.size + 1, 1, none⟩ (.slice none 0 0) = wz at *
      have cBX0 := BX.out.c 0 _ rfl; have fBX0 := BX.out.f 0 (by simp); have cBX1 := BX.out.c 1 _ rfl; have fBX1 := BX.out.f 1 (by simp); have lBX := BX.out.lt
      refine bodyPost_ret (v := .tuple #[.agg #[.slice none 0 0, .slice none 0 0], .int .i64 31]) (by simp [results, Try.results11, go_sem, cBX0, cBX1]) rfl ?_
      refine ⟨_, ?_, HV.out, HX.out⟩
      rw [EE.out]
    · have EE0 := Lib.hid (E3.out (by trivial) (by omega))
      have HAT2 := Lib.hid (HAT.out (by trivial))
      have hpl := rplace_any AK AL ck cl ls.length ks key w1 RK.out hk
      have EO : Hid (oldP ks ls key = if atK ks key = true then (ls[place ks key]?).getD [] else []) := Lib.hid rfl
      clear E1 E2 E3 CK hlen hri hls HAT
      generalize oldP ks ls key = old at *
      generalize place ks key = i at *
      generalize atK ks key = ok at *
      have cBC0 := BC.out.c 0 _ rfl; have fBC0 := BC.out.f 0 (by simp); have cBC1 := BC.out.c 1 _ rfl; have fBC1 := BC.out.f 1 (by simp); have lBC := BC.out.lt; have cBR0 := BR.out.c 0 _ rfl; have fBR0 := BR.out.f 0 (by simp); have cBR1 := BR.out.c 1 _ rfl; have fBR1 := BR.out.f 1 (by simp); have lBR := BR.out.lt
      go_wp2_with fail
      clear cBC0 fBC0 cBC1 fBC1 lBC; clear cBR0 fBR0 cBR1 fBR1 lBR
      refine hpl.mono ?_; rintro e w2 ⟨rfl, h2⟩
      replace BC := Lib.hid (BC.out.below h2 BC.out.lt); replace BR := Lib.hid (BR.out.below h2 BR.out.lt); replace RK := Lib.hid (RK.out.below h2); replace RL := Lib.hid (RL.out.below h2); replace HF := Lib.hid (below_step' HF.out h2)
      clear hpl h2
      cases ok with
      | true =>
        obtain ⟨l, hl0⟩ := HAT2.out rfl
        obtain rfl : old = l := by rw [EO.out, hl0]; rfl
        obtain ⟨bl, ol, v, rfl, hbl, hcl, A, c', rfl, hlc, hrl, hnl⟩ := RL.out i _ hl0
        have hlt : i < ls.length := lt_of_get hl0
        have hji : (i : Int) < (ls.length : Int) := by omega
        have hwr := rwrite_any A c' old snap tx gone val w2 hrl hnl
        clear EO HAT2 hl0 hrl hnl
        generalize write snap tx gone val old = r at *
        have cBC0 := BC.out.c 0 _ rfl; have fBC0 := BC.out.f 0 (by simp); have cBC1 := BC.out.c 1 _ rfl; have fBC1 := BC.out.f 1 (by simp); have lBC := BC.out.lt; have cBR0 := BR.out.c 0 _ rfl; have fBR0 := BR.out.f 0 (by simp); have cBR1 := BR.out.c 1 _ rfl; have fBR1 := BR.out.f 1 (by simp); have lBR := BR.out.lt
        go_wp2_with fail
        clear cBC0 fBC0 cBC1 fBC1 lBC; clear cBR0 fBR0 cBR1 fBR1 lBR
        (with_reducible refine hwr.mono ?_); rintro e w4 ⟨v4, rfl, ⟨A4, c4, rfl, hc4, hr4, hn4, hN4⟩, h4⟩
        have hz2 : w.heap.size + 2 ≤ w2.heap.size := BR.out.lt
        replace BC := Lib.hid (BC.out.below h4 BC.out.lt); replace BR := Lib.hid (BR.out.below h4 BR.out.lt); replace RK := Lib.hid (RK.out.below h4); replace RL := Lib.hid (RL.out.below h4); replace HF := Lib.hid (below_step' HF.out h4)
        have HR4 := Lib.hid hr4
        have HN4 := Lib.hid hN4
        have hz4 : w.heap.size + 2 ≤ w4.heap.size := BR.out.lt
        clear hwr hr4 hN4 h4
        by_cases hr0 : r.2 = 0
        · have EE : Hid (g = (ks, ls.set i r.1, 0)) := Lib.hid (by rw [EE0.out, if_neg (by simp [hr0])]; rfl)
          have hr1 : (r.2 == 0) = true := by simpa using hr0
          clear EE0
          generalize r.2 = rr at *
          subst hr0
          have how := rgown_any AK (some ⟨bl, ol, none⟩) ck cl ks ls w4 RK.out RL.out hnk (by omega) (by omega) (fun l hl => by have := chk_len (HLS.out l hl).2; omega)
          have cBC0 := BC.out.c 0 _ rfl; have fBC0 := BC.out.f 0 (by simp); have cBC1 := BC.out.c 1 _ rfl; have fBC1 := BC.out.f 1 (by simp); have lBC := BC.out.lt; have cBR0 := BR.out.c 0 _ rfl; have fBR0 := BR.out.f 0 (by simp); have cBR1 := BR.out.c 1 _ rfl; have fBR1 := BR.out.f 1 (by simp); have lBR := BR.out.lt
          go_wp2_with fail
          clear cBC0 fBC0 cBC1 fBC1 lBC; clear cBR0 fBR0 cBR1 fBR1 lBR
          (with_reducible refine how.mono ?_); rintro e w5 ⟨vk, vl, vs, rfl, hoy, h5⟩
          have HNZ0 : Hid (NewZ (w.heap.size + 2) w5 vl (.slice A4 r.1.length c4) r.1) := Lib.hid ⟨A4, c4, rfl, hc4, hn4, fun a ha => Nat.le_trans hz2 (HN4.out a ha), HR4.out.below h5, fun h0 a ha e => by
            obtain ⟨x, hx⟩ : ∃ x, r.1[0]? = some x := ⟨_, List.getElem?_eq_getElem (List.length_pos_iff.2 h0)⟩
            obtain ⟨b, off, e2, hlt, _⟩ := HR4.out 0 x hx
            rw [e2] at ha
            obtain rfl := Option.some.inj ha
            have := (hoy.ol.lt _ e).1
            simp only at this
            omega⟩
          have HOW0 := Lib.hid (hoy.rebase hz4)
          replace BR := Lib.hid (BR.out.below h5 BR.out.lt); replace HF := Lib.hid (below_step' HF.out h5)
          obtain ⟨Ak, ckk, rfl, _, _⟩ := own_slice hoy.ok
          obtain ⟨Al, cll, rfl, _, _⟩ := own_slice hoy.ol
          have BB := Lib.hid (Box.new w5 #[.slice Ak ks.length ckk, .slice Al ls.length cll] 25)
          have HB := (Below.refl _ w5).alloc (Nat.le_refl _) (.cells #[.slice Ak ks.length ckk, .slice Al ls.length cll] 25)
          have hbz0 : w.heap.size + 2 ≤ w5.heap.size := BR.out.lt
          have HOW := Lib.hid (HOW0.out.below HB)
          have HNZ := Lib.hid (HNZ0.out.below HB)
          have hbx : ∀ g, (Value.slice Al ls.length cll).ownBlock = some g → g < w5.heap.size := fun g hg => (hoy.ol.lt g hg).2
          replace BR := Lib.hid (BR.out.below HB BR.out.lt); replace HF := Lib.hid (below_step' HF.out HB)
          clear how hoy h5 HB HNZ0 HOW0 HR4 HN4 RK RL BC
          go_upto_region 15 with (fail)
          generalize w5.alloc (.cells #[.slice Ak ks.length ckk, .slice Al ls.length cll] 25) = w6 at *
          have hbz : w.heap.size + 2 ≤ w5.heap.size := hbz0
          generalize w5.heap.size = bx at *
          clear w5
          obtain ⟨g1, cq, hgq, _, hbg, hgs⟩ := own_some HOW.out.ol (by omega)
          obtain ⟨rfl, rfl⟩ : Al = some ⟨g1, 0, none⟩ ∧ cll = cq := by simpa using hgq
          have hvsl : vs.length = ls.length := by have := HOW.out.ol.1; simpa using this
          have cg : w6.cell? ⟨g1, i, none⟩ = some (vs[i]'(by omega)) := by rw [HOW.out.ol.cellAt i (by rw [Nat.mul_one]; exact hlt)]; exact List.getElem?_eq_getElem _
          have fg := HOW.out.ol.frozenAt i
          have OW5 := Lib.hid (HOW.out.seti i rfl HNZ.out)
          have BR5 := Lib.hid (BR.out.other ⟨g1, i, none⟩ (.slice A4 r.1.length c4) (by show g1 ≠ w.heap.size + 1; omega))
          have BB5 := Lib.hid (BB.out.other ⟨g1, i, none⟩ (.slice A4 r.1.length c4) (by have := hbx g1 rfl; show g1 ≠ bx; omega))
          have HF5 := Lib.hid (below_set (g := g1) (j := i) (v := .slice A4 r.1.length c4) HF.out (by omega))
          clear hgq
          have cBB0 := BB.out.c 0 _ rfl; have fBB0 := BB.out.f 0 (by simp); have cBB1 := BB.out.c 1 _ rfl; have fBB1 := BB.out.f 1 (by simp); have lBB := BB.out.lt; have cBR0 := BR.out.c 0 _ rfl; have fBR0 := BR.out.f 0 (by simp); have cBR1 := BR.out.c 1 _ rfl; have fBR1 := BR.out.f 1 (by simp); have lBR := BR.out.lt
          go_upto_region 17 with (fail)
          clear cBB0 fBB0 cBB1 fBB1 lBB; clear cBR0 fBR0 cBR1 fBR1 lBR
          clear BB BR HF HOW cg fg HNZ
          generalize w6.setCell ⟨g1, i, none⟩ (.slice A4 r.1.length c4) = w7 at *
          have cBB50 := BB5.out.c 0 _ rfl; have fBB50 := BB5.out.f 0 (by simp); have cBB51 := BB5.out.c 1 _ rfl; have fBB51 := BB5.out.f 1 (by simp); have lBB5 := BB5.out.lt; have cBR50 := BR5.out.c 0 _ rfl; have fBR50 := BR5.out.f 0 (by simp); have cBR51 := BR5.out.c 1 _ rfl; have fBR51 := BR5.out.f 1 (by simp); have lBR5 := BR5.out.lt
          go_wp2_with fail
          clear cBB50 fBB50 cBB51 fBB51 lBB5; clear cBR50 fBR50 cBR51 fBR51 lBR5
          have HX := Lib.hid (below_set (g := w.heap.size + 1) (j := 1) (v := .slice (some ⟨g1, 0, none⟩) ls.length cll) (below_set (g := w.heap.size + 1) (j := 0) (v := .slice Ak ks.length ckk) HF5.out (Nat.le_succ _)) (Nat.le_succ _))
          have BX : Hid (Box ((w7.setCell ⟨w.heap.size + 1, 0, none⟩ (.slice Ak ks.length ckk)).setCell ⟨w.heap.size + 1, 1, none⟩ (.slice (some ⟨g1, 0, none⟩) ls.length cll)) (w.heap.size + 1) [.slice Ak ks.length ckk, .slice (some ⟨g1, 0, none⟩) ls.length cll]) := Lib.hid ((BR5.out.set 0 (.slice Ak ks.length ckk) (by simp)).set 1 (.slice (some ⟨g1, 0, none⟩) ls.length cll) (by simp))
          have HV : Hid (ChB w.heap.size ((w7.setCell ⟨w.heap.size + 1, 0, none⟩ (.slice Ak ks.length ckk)).setCell ⟨w.heap.size + 1, 1, none⟩ (.slice (some ⟨g1, 0, none⟩) ls.length cll)) (.agg #[.slice Ak ks.length ckk, .slice (some ⟨g1, 0, none⟩) ls.length cll]) g.1 g.2.1) := Lib.hid (by rw [EE.out]; exact ((((OW5.out.set ⟨w.heap.size + 1, 0, none⟩ _ (Nat.lt_succ_self _)).set ⟨w.heap.size + 1, 1, none⟩ _ (Nat.lt_succ_self _)).chb).mono (by omega)))
          generalize (w7.setCell ⟨w.heap.size + 1, 0, none⟩ (.slice Ak ks.length ckk)).setCell ⟨w.heap.size + 1, 1, none⟩ (.slice (some ⟨g1, 0, none⟩) ls.length cll) = wz at *
          have cBX0 := BX.out.c 0 _ rfl; have fBX0 := BX.out.f 0 (by simp); have cBX1 := BX.out.c 1 _ rfl; have fBX1 := BX.out.f 1 (by simp); have lBX := BX.out.lt
          refine bodyPost_ret (v := .tuple #[.agg #[.slice Ak ks.length ckk, .slice (some ⟨g1, 0, none⟩) ls.length cll], .int .i64 0]) (by simp [results, Try.results11, go_sem, cBX0, cBX1]) rfl ?_
          refine ⟨_, ?_, HV.out, HX.out⟩
          rw [EE.out]
        · have EE : Hid (g = ([], [], r.2)) := Lib.hid (by rw [EE0.out, if_pos hr0])
          have hr1 : (r.2 == 0) = false := by simpa using hr0
          clear EE0
          generalize r.2 = rr at *
          have cBC0 := BC.out.c 0 _ rfl; have fBC0 := BC.out.f 0 (by simp); have cBC1 := BC.out.c 1 _ rfl; have fBC1 := BC.out.f 1 (by simp); have lBC := BC.out.lt; have cBR0 := BR.out.c 0 _ rfl; have fBR0 := BR.out.f 0 (by simp); have cBR1 := BR.out.c 1 _ rfl; have fBR1 := BR.out.f 1 (by simp); have lBR := BR.out.lt
          go_wp2_with fail
          clear cBC0 fBC0 cBC1 fBC1 lBC; clear cBR0 fBR0 cBR1 fBR1 lBR
          have HX := Lib.hid (below_set (g := w.heap.size + 1) (j := 1) (v := .slice none 0 0) (below_set (g := w.heap.size + 1) (j := 0) (v := .slice none 0 0) HF.out (Nat.le_succ _)) (Nat.le_succ _))
          have BX : Hid (Box ((w4.setCell ⟨w.heap.size + 1, 0, none⟩ (.slice none 0 0)).setCell ⟨w.heap.size + 1, 1, none⟩ (.slice none 0 0)) (w.heap.size + 1) [.slice none 0 0, .slice none 0 0]) := Lib.hid ((BR.out.set 0 (.slice none 0 0) (by simp)).set 1 (.slice none 0 0) (by simp))
          have HV : Hid (ChB w.heap.size ((w4.setCell ⟨w.heap.size + 1, 0, none⟩ (.slice none 0 0)).setCell ⟨w.heap.size + 1, 1, none⟩ (.slice none 0 0)) (.agg #[.slice none 0 0, .slice none 0 0]) g.1 g.2.1) := Lib.hid (by rw [EE.out]; exact ChB.nil _ _)
          generalize (w4.setCell ⟨w.heap.size + 1, 0, none⟩ (.slice none 0 0)).setCell ⟨w.heap.size + 1, 1, none⟩ (.slice none 0 0) = wz at *
          have cBX0 := BX.out.c 0 _ rfl; have fBX0 := BX.out.f 0 (by simp); have cBX1 := BX.out.c 1 _ rfl; have fBX1 := BX.out.f 1 (by simp); have lBX := BX.out.lt
          refine bodyPost_ret (v := .tuple #[.agg #[.slice none 0 0, .slice none 0 0], .int .i64 rr]) (by simp [results, Try.results11, go_sem, cBX0, cBX1]) rfl ?_
          refine ⟨_, ?_, HV.out, HX.out⟩
          rw [EE.out]
      | false =>
        obtain rfl : old = [] := by rw [EO.out]; rfl
        have hwr := rwrite_any none 0 [] snap tx gone val w2 RowE.nil (fun _ => rfl)
        simp only [List.length_nil] at hwr
        clear EO HAT2
        generalize write snap tx gone val [] = r at *
        have cBC0 := BC.out.c 0 _ rfl; have fBC0 := BC.out.f 0 (by simp); have cBC1 := BC.out.c 1 _ rfl; have fBC1 := BC.out.f 1 (by simp); have lBC := BC.out.lt; have cBR0 := BR.out.c 0 _ rfl; have fBR0 := BR.out.f 0 (by simp); have cBR1 := BR.out.c 1 _ rfl; have fBR1 := BR.out.f 1 (by simp); have lBR := BR.out.lt
        go_wp2_with fail
        clear cBC0 fBC0 cBC1 fBC1 lBC; clear cBR0 fBR0 cBR1 fBR1 lBR
        (with_reducible refine hwr.mono ?_); rintro e w4 ⟨v4, rfl, ⟨A4, c4, rfl, hc4, hr4, hn4, hN4⟩, h4⟩
        have hz2 : w.heap.size + 2 ≤ w2.heap.size := BR.out.lt
        replace BC := Lib.hid (BC.out.below h4 BC.out.lt); replace BR := Lib.hid (BR.out.below h4 BR.out.lt); replace RK := Lib.hid (RK.out.below h4); replace RL := Lib.hid (RL.out.below h4); replace HF := Lib.hid (below_step' HF.out h4)
        have HR4 := Lib.hid hr4
        have HN4 := Lib.hid hN4
        have hz4 : w.heap.size + 2 ≤ w4.heap.size := BR.out.lt
        clear hwr hr4 hN4 h4
        by_cases hr0 : r.2 = 0
        · have hr1 : (r.2 == 0) = true := by simpa using hr0
          by_cases hful : ks.length = 2048
          · have EE : Hid (g = ([], [], 51)) := Lib.hid (by rw [EE0.out, if_neg (by simp [hr0]), if_neg (by simp), if_pos hful])
            have hfi : (2048 : Int) ≤ (ks.length : Int) := by omega
            clear EE0
            generalize r.2 = rr at *
            subst hr0
            have cBC0 := BC.out.c 0 _ rfl; have fBC0 := BC.out.f 0 (by simp); have cBC1 := BC.out.c 1 _ rfl; have fBC1 := BC.out.f 1 (by simp); have lBC := BC.out.lt; have cBR0 := BR.out.c 0 _ rfl; have fBR0 := BR.out.f 0 (by simp); have cBR1 := BR.out.c 1 _ rfl; have fBR1 := BR.out.f 1 (by simp); have lBR := BR.out.lt
            go_wp2_with fail
            clear cBC0 fBC0 cBC1 fBC1 lBC; clear cBR0 fBR0 cBR1 fBR1 lBR
            have HX := Lib.hid (below_set (g := w.heap.size + 1) (j := 1) (v := .slice none 0 0) (below_set (g := w.heap.size + 1) (j := 0) (v := .slice none 0 0) HF.out (Nat.le_succ _)) (Nat.le_succ _))
            have BX : Hid (Box ((w4.setCell ⟨w.heap.size + 1, 0, none⟩ (.slice none 0 0)).setCell ⟨w.heap.size + 1, 1, none⟩ (.slice none 0 0)) (w.heap.size + 1) [.slice none 0 0, .slice none 0 0]) := Lib.hid ((BR.out.set 0 (.slice none 0 0) (by simp)).set 1 (.slice none 0 0) (by simp))
            have HV : Hid (ChB w.heap.size ((w4.setCell ⟨w.heap.size + 1, 0, none⟩ (.slice none 0 0)).setCell ⟨w.heap.size + 1, 1, none⟩ (.slice none 0 0)) (.agg #[.slice none 0 0, .slice none 0 0]) g.1 g.2.1) := Lib.hid (by rw [EE.out]; exact ChB.nil _ _)
            generalize (w4.setCell ⟨w.heap.size + 1, 0, none⟩ (.slice none 0 0)).setCell ⟨w.heap.size + 1, 1, none⟩ (.slice none 0 0) = wz at *
            have cBX0 := BX.out.c 0 _ rfl; have fBX0 := BX.out.f 0 (by simp); have cBX1 := BX.out.c 1 _ rfl; have fBX1 := BX.out.f 1 (by simp); have lBX := BX.out.lt
            refine bodyPost_ret (v := .tuple #[.agg #[.slice none 0 0, .slice none 0 0], .int .i64 51]) (by simp [results, Try.results11, go_sem, cBX0, cBX1]) rfl ?_
            refine ⟨_, ?_, HV.out, HX.out⟩
            rw [EE.out]
          · have EE : Hid (g = (putV ks i key, putV ls i r.1, 0)) := Lib.hid (by rw [EE0.out, if_neg (by simp [hr0]), if_neg (by simp), if_neg hful])
            have hfi : ¬ (2048 : Int) ≤ (ks.length : Int) := by omega
            clear EE0
            generalize r.2 = rr at *
            subst hr0
            have how := rgown_any AK AL ck cl ks ls w4 RK.out RL.out hnk (by omega) (by omega) (fun l hl => by have := chk_len (HLS.out l hl).2; omega)
            have cBC0 := BC.out.c 0 _ rfl; have fBC0 := BC.out.f 0 (by simp); have cBC1 := BC.out.c 1 _ rfl; have fBC1 := BC.out.f 1 (by simp); have lBC := BC.out.lt; have cBR0 := BR.out.c 0 _ rfl; have fBR0 := BR.out.f 0 (by simp); have cBR1 := BR.out.c 1 _ rfl; have fBR1 := BR.out.f 1 (by simp); have lBR := BR.out.lt
            go_wp2_with fail
            clear cBC0 fBC0 cBC1 fBC1 lBC; clear cBR0 fBR0 cBR1 fBR1 lBR
            (with_reducible refine how.mono ?_); rintro e w5 ⟨vk, vl, vs, rfl, hoy, h5⟩
            have HNZ0 : Hid (NewZ (w.heap.size + 2) w5 vl (.slice A4 r.1.length c4) r.1) := Lib.hid ⟨A4, c4, rfl, hc4, hn4, fun a ha => Nat.le_trans hz2 (HN4.out a ha), HR4.out.below h5, fun h0 a ha e => by
              obtain ⟨x, hx⟩ : ∃ x, r.1[0]? = some x := ⟨_, List.getElem?_eq_getElem (List.length_pos_iff.2 h0)⟩
              obtain ⟨b, off, e2, hlt, _⟩ := HR4.out 0 x hx
              rw [e2] at ha
              obtain rfl := Option.some.inj ha
              have := (hoy.ol.lt _ e).1
              simp only at this
              omega⟩
            have HOW0 := Lib.hid (hoy.rebase hz4)
            replace BR := Lib.hid (BR.out.below h5 BR.out.lt); replace HF := Lib.hid (below_step' HF.out h5)
            obtain ⟨Ak, ckk, rfl, _, _⟩ := own_slice hoy.ok
            obtain ⟨Al, cll, rfl, _, _⟩ := own_slice hoy.ol
            have BB := Lib.hid (Box.new w5 #[.slice Ak ks.length ckk, .slice Al ls.length cll] 25)
            have HB := (Below.refl _ w5).alloc (Nat.le_refl _) (.cells #[.slice Ak ks.length ckk, .slice Al ls.length cll] 25)
            have hbz0 : w.heap.size + 2 ≤ w5.heap.size := BR.out.lt
            have HOW := Lib.hid (HOW0.out.below HB)
            have HNZ := Lib.hid (HNZ0.out.below HB)
            have hbx : ∀ g, (Value.slice Al ls.length cll).ownBlock = some g → g < w5.heap.size := fun g hg => (hoy.ol.lt g hg).2
            replace BR := Lib.hid (BR.out.below HB BR.out.lt); replace HF := Lib.hid (below_step' HF.out HB)
            clear how hoy h5 HB HNZ0 HOW0 HR4 HN4 RK RL BC
            go_upto_region 15 with (fail)
            generalize w5.alloc (.cells #[.slice Ak ks.length ckk, .slice Al ls.length cll] 25) = w6 at *
            have hbz : w.heap.size + 2 ≤ w5.heap.size := hbz0
            generalize w5.heap.size = bx at *
            clear w5
            have cBB0 := BB.out.c 0 _ rfl; have fBB0 := BB.out.f 0 (by simp); have cBB1 := BB.out.c 1 _ rfl; have fBB1 := BB.out.f 1 (by simp); have lBB := BB.out.lt; have cBR0 := BR.out.c 0 _ rfl; have fBR0 := BR.out.f 0 (by simp); have cBR1 := BR.out.c 1 _ rfl; have fBR1 := BR.out.f 1 (by simp); have lBR := BR.out.lt
            go_upto_region 20 with (fail)
            clear cBB0 fBB0 cBB1 fBB1 lBB; clear cBR0 fBR0 cBR1 fBR1 lBR
            obtain ⟨sN, hsN⟩ : ∃ sN, sN = w6.heap.size := ⟨_, rfl⟩
            have hfk := own_form HOW.out.ok
            have hfl := own_form HOW.out.ol
            have hil : i ≤ ls.length := by have := HLEN.out; omega
            have hvl : vs.length = ls.length := by have := HOW.out.ol.1; simpa using this
            have hv1 : ∀ u ∈ vs, u.oneCell' = true := fun u hu => by
              obtain ⟨ii, hii⟩ := List.mem_iff_getElem?.1 hu
              obtain ⟨l, hl⟩ : ∃ l, ls[ii]? = some l := ⟨_, List.getElem?_eq_getElem (by have := lt_of_get hii; omega)⟩
              obtain ⟨v, hv, A, c, rfl, _⟩ := HOW.out.el ii l hl
              rw [hii] at hv
              obtain rfl := Option.some.inj hv
              rfl
            have hbxN : bx < sN := by have := BB.out.lt; omega
            have hrN : w.heap.size + 1 < sN := by have := BR.out.lt; omega
            have hbxr : w.heap.size + 2 ≤ bx := hbz
            have HZ : Hid (Below sN w6 w6) := Lib.hid (Below.refl _ _)
            have KO : Hid (w6.ownsRow sN 9 1 (.slice none 0 0) 0 []) := Lib.hid (World.ownsRow_nil _ _ _ _)
            have LO : Hid (w6.ownsRow sN 39 1 (.slice none 0 0) 0 []) := Lib.hid (World.ownsRow_nil _ _ _ _)
            have DJ : Hid (∀ g, (Value.slice none 0 0).ownBlock = some g → (Value.slice none 0 0).ownBlock ≠ some g) := Lib.hid (fun g h => by simp [Value.ownBlock] at h)
            have hzN0 : sN ≤ w6.heap.size := by omega
            have BBx := BB
            refine stage_begin (S := fun (L' : Array Bool) (w' : World) => w'.cell? ⟨bx, 0, none⟩ = some (.slice Ak ks.length ckk) ∧ w'.cell? ⟨bx, 1, none⟩ = some (.slice Al ls.length cll)) (by kernel_rfl) ?_
            have hS0 : (fun w' : World => w'.cell? ⟨bx, 0, none⟩ = some (.slice Ak ks.length ckk) ∧ w'.cell? ⟨bx, 1, none⟩ = some (.slice Al ls.length cll)) w6.drew := ⟨BBx.out.drew.c 0 _ rfl, BBx.out.drew.c 1 _ rfl⟩
            have HBx := Lib.hid BBx.out.drew
            have HZx : Hid (Below sN w6 w6.drew) := Lib.hid (below_drewN HZ.out 1)
            have KOx : Hid (w6.drew.ownsRow sN 9 1 (.slice none 0 0) (0) ([])) := KO
            have LOx : Hid (w6.drew.ownsRow sN 39 1 (.slice none 0 0) (0) ([])) := LO
            have hzN : sN ≤ w6.drew.heap.size := hzN0
            clear HZ KO LO BBx hzN0
            generalize w6.drew = wd at *
            refine stage_take (i := 0) (oi := { dst := some 77, op := Go.Op.move (Go.Operand.tmp 20), type := 22, pos := "ref.go:115", after := #[], guard := none }) (v := ?_) (T := fun _ => True) rfl (by kernel_rfl) (by kernel_rfl) (by kernel_rfl) (by kernel_rfl) (fun _ _ _ h => h) (fun L' w' hW hS => trivial) (fun L' w' hS => hS) (Or.inl ⟨by rfl, ?_⟩) trivial (hS0) ?_
            rotate_left 1
            · intro w9 _; go_simp; (try with_reducible rfl)
            try simp only [Act.put, List.setIfInBounds_toArray, List.set_cons_zero, List.set_cons_succ]
            refine stage_take (i := 1) (oi := { dst := some 78, op := Go.Op.fieldAddr 25 (Go.Operand.tmp 19) 0, type := 0, pos := "ref.go:115", after := #[], guard := none }) (v := ?_) (T := fun _ => True) rfl (by kernel_rfl) (by kernel_rfl) (by kernel_rfl) (by kernel_rfl) (fun _ _ _ h => h) (fun L' w' hW hS => trivial) (fun L' w' hS => hS) (Or.inl ⟨by rfl, ?_⟩) trivial (hS0) ?_
            rotate_left 1
            · intro w9 _; go_simp; (try with_reducible rfl)
            try simp only [Act.put, List.setIfInBounds_toArray, List.set_cons_zero, List.set_cons_succ]
            refine stage_take (i := 2) (oi := { dst := some 79, op := Go.Op.load 22 (Go.Operand.tmp 78), type := 22, pos := "ref.go:115", after := #[{ on := 1, ground := Go.Ground.data }], guard := none }) (v := ?_) (T := fun w' : World => w'.cell? ⟨bx, 0, none⟩ = some (.slice Ak ks.length ckk) ∧ w'.cell? ⟨bx, 1, none⟩ = some (.slice Al ls.length cll)) rfl (by kernel_rfl) (by kernel_rfl) (by kernel_rfl) (by kernel_rfl) (fun _ _ _ h => h) (fun L' w' hW hS => hS) (fun L' w' hS => hS) (Or.inl ⟨by rfl, ?_⟩) (hS0) (hS0) ?_
            rotate_left 1
            · intro w9 hS9; obtain ⟨z0, z1⟩ := hS9; go_simp; (try with_reducible rfl)
            try simp only [Act.put, List.setIfInBounds_toArray, List.set_cons_zero, List.set_cons_succ]
            refine stage_take (i := 3) (oi := { dst := some 80, op := Go.Op.move (Go.Operand.tmp 14), type := 3, pos := "ref.go:115", after := #[], guard := none }) (v := ?_) (T := fun _ => True) rfl (by kernel_rfl) (by kernel_rfl) (by kernel_rfl) (by kernel_rfl) (fun _ _ _ h => h) (fun L' w' hW hS => trivial) (fun L' w' hS => hS) (Or.inl ⟨by rfl, ?_⟩) trivial (hS0) ?_
            rotate_left 1
            · intro w9 _; go_simp; (try with_reducible rfl)
            try simp only [Act.put, List.setIfInBounds_toArray, List.set_cons_zero, List.set_cons_succ]
            refine stage_take (i := 4) (oi := { dst := some 81, op := Go.Op.slice 22 (Go.Operand.tmp 79) none (some (Go.Operand.tmp 80)) none, type := 22, pos := "ref.go:115", after := #[{ on := 2, ground := Go.Ground.data }, { on := 3, ground := Go.Ground.data }], guard := none }) (v := .slice Ak i ckk) (T := fun _ => True) rfl (by kernel_rfl) (by kernel_rfl) (by kernel_rfl) (by kernel_rfl) (fun _ _ _ h => h) (fun L' w' hW hS => trivial) (fun L' w' hS => hS) (Or.inl ⟨by rfl, ?_⟩) trivial (hS0) ?_
            · intro w9 _
              rcases hfk with ⟨h1, h2, h3⟩ | ⟨gg, h1, h2⟩
              · have hi0 : i = 0 := by omega
                subst hi0; rw [h1, h2, h3]; go_simp
              · have hz1 : (i : Int) ≤ (ks.length : Int) := by omega
                have hz2 : (ks.length : Int) ≤ (ckk : Int) := by omega
                have hz3 : (i : Int) ≤ (ckk : Int) := by omega
                rw [h1]; go_simp
            try simp only [Act.put, List.setIfInBounds_toArray, List.set_cons_zero, List.set_cons_succ]
            refine stage_take (i := 6) (oi := { dst := some 83, op := Go.Op.move (Go.Operand.tmp 21), type := 23, pos := "ref.go:115", after := #[], guard := none }) (v := ?_) (T := fun _ => True) rfl (by kernel_rfl) (by kernel_rfl) (by kernel_rfl) (by kernel_rfl) (fun _ _ _ h => h) (fun L' w' hW hS => trivial) (fun L' w' hS => hS) (Or.inl ⟨by rfl, ?_⟩) trivial (hS0) ?_
            rotate_left 1
            · intro w9 _; go_simp; (try with_reducible rfl)
            try simp only [Act.put, List.setIfInBounds_toArray, List.set_cons_zero, List.set_cons_succ]
            refine stage_take (i := 7) (oi := { dst := some 84, op := Go.Op.fieldAddr 25 (Go.Operand.tmp 19) 1, type := 0, pos := "ref.go:115", after := #[], guard := none }) (v := ?_) (T := fun _ => True) rfl (by kernel_rfl) (by kernel_rfl) (by kernel_rfl) (by kernel_rfl) (fun _ _ _ h => h) (fun L' w' hW hS => trivial) (fun L' w' hS => hS) (Or.inl ⟨by rfl, ?_⟩) trivial (hS0) ?_
            rotate_left 1
            · intro w9 _; go_simp; (try with_reducible rfl)
            try simp only [Act.put, List.setIfInBounds_toArray, List.set_cons_zero, List.set_cons_succ]
            refine stage_take (i := 8) (oi := { dst := some 85, op := Go.Op.load 23 (Go.Operand.tmp 84), type := 23, pos := "ref.go:115", after := #[{ on := 7, ground := Go.Ground.data }], guard := none }) (v := ?_) (T := fun w' : World => w'.cell? ⟨bx, 0, none⟩ = some (.slice Ak ks.length ckk) ∧ w'.cell? ⟨bx, 1, none⟩ = some (.slice Al ls.length cll)) rfl (by kernel_rfl) (by kernel_rfl) (by kernel_rfl) (by kernel_rfl) (fun _ _ _ h => h) (fun L' w' hW hS => hS) (fun L' w' hS => hS) (Or.inl ⟨by rfl, ?_⟩) (hS0) (hS0) ?_
            rotate_left 1
            · intro w9 hS9; obtain ⟨z0, z1⟩ := hS9; go_simp; (try with_reducible rfl)
            try simp only [Act.put, List.setIfInBounds_toArray, List.set_cons_zero, List.set_cons_succ]
            refine stage_take (i := 9) (oi := { dst := some 86, op := Go.Op.move (Go.Operand.tmp 14), type := 3, pos := "ref.go:115", after := #[], guard := none }) (v := ?_) (T := fun _ => True) rfl (by kernel_rfl) (by kernel_rfl) (by kernel_rfl) (by kernel_rfl) (fun _ _ _ h => h) (fun L' w' hW hS => trivial) (fun L' w' hS => hS) (Or.inl ⟨by rfl, ?_⟩) trivial (hS0) ?_
            rotate_left 1
            · intro w9 _; go_simp; (try with_reducible rfl)
            try simp only [Act.put, List.setIfInBounds_toArray, List.set_cons_zero, List.set_cons_succ]
            refine stage_take (i := 10) (oi := { dst := some 87, op := Go.Op.slice 23 (Go.Operand.tmp 85) none (some (Go.Operand.tmp 86)) none, type := 23, pos := "ref.go:115", after := #[{ on := 8, ground := Go.Ground.data }, { on := 9, ground := Go.Ground.data }], guard := none }) (v := .slice Al i cll) (T := fun _ => True) rfl (by kernel_rfl) (by kernel_rfl) (by kernel_rfl) (by kernel_rfl) (fun _ _ _ h => h) (fun L' w' hW hS => trivial) (fun L' w' hS => hS) (Or.inl ⟨by rfl, ?_⟩) trivial (hS0) ?_
            · intro w9 _
              rcases hfl with ⟨h1, h2, h3⟩ | ⟨gg, h1, h2⟩
              · have hi0 : i = 0 := by omega
                subst hi0; rw [h1, h2, h3]; go_simp
              · have hz1 : (i : Int) ≤ (ls.length : Int) := by omega
                have hz2 : (ls.length : Int) ≤ (cll : Int) := by omega
                have hz3 : (i : Int) ≤ (cll : Int) := by omega
                rw [h1]; go_simp
            try simp only [Act.put, List.setIfInBounds_toArray, List.set_cons_zero, List.set_cons_succ]
            clear hS0
            refine stage_all (rs := [5]) (by kernel_rfl) (by simp) (fun i0 hi0 => ?_)
            obtain rfl : i0 = 5 := by simpa using hi0
            refine stage_step (S := fun (L' : Array Bool) (w' : World) => w'.cell? ⟨bx, 0, none⟩ = some (.slice Ak ks.length ckk) ∧ w'.cell? ⟨bx, 1, none⟩ = some (.slice Al ls.length cll)) (o := { dst := some 82, op := Go.Op.call { callee := Go.Callee.builtin Go.Builtin.append, args := #[Go.Operand.tmp 77, Go.Operand.tmp 81], argTypes := #[22, 22] }, type := 22, pos := "ref.go:115", after := #[{ on := 0, ground := Go.Ground.data }, { on := 4, ground := Go.Ground.data }], guard := none }) (by rfl) (fun K2 hK => ?_)
            obtain ⟨kt, wkt, hrun, hk1, hl1, hd1, hb1⟩ := app_row (ty := 22) Try.underlying22 hiS1 hiS2 hiS3 hiS4 rfl wd sN (.slice none 0 0) (0) ([]) KOx.out Ak (i) ckk ((ks.flatMap encS).take i) (by first | (simp [flat_encS]; done) | (simp [flat_encS]; omega)) (by rw [flat_encS]; simp [← List.map_take, Value.oneCell']) (src_take (own_below (own_below HOW.out.ok (Below.refl _ _)) (by rw [hsN] at HZx; exact HZx.out)) hpi) (by omega) (by decide) hzN (.slice none 0 0) (0) ([]) LOx.out DJ.out
            refine step_append_run rfl _ _ 22 rfl _ _ rfl rfl hrun ?_
            replace HZx := Lib.hid (HZx.out.trans hb1)
            replace HBx := Lib.hid (HBx.out.below hb1 hbxN)
            have KOy := Lib.hid hk1
            have LOy := Lib.hid hl1
            have DJy := Lib.hid hd1
            have hzN2 : sN ≤ wkt.heap.size := Nat.le_trans hzN hb1.size
            clear hrun hk1 hl1 hd1 hb1 KOx LOx DJ
            refine hK.out _ _ (⟨HBx.out.c 0 _ rfl, HBx.out.c 1 _ rfl⟩) ?_
            clear hK K2
            try simp only [Act.put, List.setIfInBounds_toArray, List.set_cons_zero, List.set_cons_succ]
            refine stage_all (rs := [11]) (by kernel_rfl) (by simp) (fun i0 hi0 => ?_)
            obtain rfl : i0 = 11 := by simpa using hi0
            refine stage_step (S := fun (L' : Array Bool) (w' : World) => w'.cell? ⟨bx, 0, none⟩ = some (.slice Ak ks.length ckk) ∧ w'.cell? ⟨bx, 1, none⟩ = some (.slice Al ls.length cll)) (o := { dst := some 88, op := Go.Op.call { callee := Go.Callee.builtin Go.Builtin.append, args := #[Go.Operand.tmp 83, Go.Operand.tmp 87], argTypes := #[23, 23] }, type := 23, pos := "ref.go:115", after := #[{ on := 6, ground := Go.Ground.data }, { on := 10, ground := Go.Ground.data }, { on := 5, ground := Go.Ground.chain }], guard := none }) (by rfl) (fun K2 hK => ?_)
            obtain ⟨lt, wlt, hrun, hl1, hk1, hd1, hb1⟩ := app_row (ty := 23) Try.underlying23 hiR1 hiR2 hiR3 hiR4 rfl wkt sN (.slice none 0 0) (0) ([]) LOy.out Al (i) cll (vs.take i) (by first | (simp [hvl]; done) | (simp [hvl]; omega)) (fun u hu => hv1 u (List.mem_of_mem_take hu)) (src_take (own_below HOW.out.ol (by rw [hsN] at HZx; exact HZx.out)) hil) (by omega) (by decide) hzN2 kt _ _ KOy.out (fun g h1 h2 => DJy.out g h2 h1)
            refine step_append_run rfl _ _ 23 rfl _ _ rfl rfl hrun ?_
            replace HZx := Lib.hid (HZx.out.trans hb1)
            replace HBx := Lib.hid (HBx.out.below hb1 hbxN)
            have KO := Lib.hid hk1
            have LO := Lib.hid hl1
            have DJ : Hid (∀ g, kt.ownBlock = some g → lt.ownBlock ≠ some g) := Lib.hid (fun g h1 h2 => hd1 g h2 h1)
            have hzN0 : sN ≤ wlt.heap.size := Nat.le_trans hzN2 hb1.size
            clear hrun hk1 hl1 hd1 hb1 KOy LOy DJy hzN2 hzN
            refine hK.out _ _ (⟨HBx.out.c 0 _ rfl, HBx.out.c 1 _ rfl⟩) ?_
            clear hK K2
            try simp only [Act.put, List.setIfInBounds_toArray, List.set_cons_zero, List.set_cons_succ]
            refine stage_take (i := 12) (oi := { dst := some 20, op := Go.Op.assign (Go.Operand.tmp 82), type := 22, pos := "ref.go:115", after := #[{ on := 5, ground := Go.Ground.data }, { on := 11, ground := Go.Ground.chain }, { on := 0, ground := Go.Ground.phase }, { on := 1, ground := Go.Ground.phase }, { on := 2, ground := Go.Ground.phase }, { on := 3, ground := Go.Ground.phase }, { on := 4, ground := Go.Ground.phase }, { on := 5, ground := Go.Ground.phase }, { on := 6, ground := Go.Ground.textOnly Go.Departure.lateStores }, { on := 7, ground := Go.Ground.textOnly Go.Departure.lateStores }, { on := 8, ground := Go.Ground.textOnly Go.Departure.lateStores }, { on := 9, ground := Go.Ground.textOnly Go.Departure.lateStores }, { on := 10, ground := Go.Ground.textOnly Go.Departure.lateStoresUnsure }, { on := 11, ground := Go.Ground.textOnly Go.Departure.lateStoresUnsure }], guard := none }) (v := ?_) (T := fun _ => True) rfl (by kernel_rfl) (by kernel_rfl) (by kernel_rfl) (by kernel_rfl) (fun _ _ _ h => h) (fun L' w' hW hS => trivial) (fun L' w' hS => hS) (Or.inl ⟨by rfl, ?_⟩) trivial (⟨HBx.out.c 0 _ rfl, HBx.out.c 1 _ rfl⟩) ?_
            rotate_left 1
            · intro w9 _; go_simp; (try with_reducible rfl)
            try simp only [Act.put, List.setIfInBounds_toArray, List.set_cons_zero, List.set_cons_succ]
            refine stage_take (i := 13) (oi := { dst := some 21, op := Go.Op.assign (Go.Operand.tmp 88), type := 23, pos := "ref.go:115", after := #[{ on := 11, ground := Go.Ground.data }, { on := 12, ground := Go.Ground.chain }, { on := 0, ground := Go.Ground.phase }, { on := 1, ground := Go.Ground.phase }, { on := 2, ground := Go.Ground.phase }, { on := 3, ground := Go.Ground.phase }, { on := 4, ground := Go.Ground.phase }, { on := 5, ground := Go.Ground.phase }, { on := 6, ground := Go.Ground.phase }, { on := 7, ground := Go.Ground.phase }, { on := 8, ground := Go.Ground.phase }, { on := 9, ground := Go.Ground.phase }, { on := 10, ground := Go.Ground.phase }, { on := 11, ground := Go.Ground.phase }, { on := 12, ground := Go.Ground.phase }], guard := none }) (v := ?_) (T := fun _ => True) rfl (by kernel_rfl) (by kernel_rfl) (by kernel_rfl) (by kernel_rfl) (fun _ _ _ h => h) (fun L' w' hW hS => trivial) (fun L' w' hS => hS) (Or.inl ⟨by rfl, ?_⟩) trivial (⟨HBx.out.c 0 _ rfl, HBx.out.c 1 _ rfl⟩) ?_
            rotate_left 1
            · intro w9 _; go_simp; (try with_reducible rfl)
            try simp only [Act.put, List.setIfInBounds_toArray, List.set_cons_zero, List.set_cons_succ]
            refine stage_done (by kernel_rfl) ?_ _
            have KO1 : Hid (wlt.ownsRow sN 9 1 kt i ((ks.flatMap encS).take i)) := Lib.hid (by have := KO.out; rwa [Nat.zero_add, List.nil_append] at this)
            have LO1 : Hid (wlt.ownsRow sN 39 1 lt i (vs.take i)) := Lib.hid (by have := LO.out; rwa [Nat.zero_add, List.nil_append] at this)
            clear KO LO
            obtain ⟨Ak1, ck1, rfl, _, _⟩ := own_slice KO1.out
            obtain ⟨Al1, cl1, rfl, _, _⟩ := own_slice LO1.out
            have hba := (Below.refl sN wlt).alloc hzN0 (.cells #[.string key] 9)
            obtain ⟨k2, wb, hrunA, hk1, hl1, hd1, hb1⟩ := app_row (ty := 22) Try.underlying22 hiS1 hiS2 hiS3 hiS4 rfl (wlt.alloc (.cells #[.string key] 9)) sN (.slice Ak1 i ck1) i ((ks.flatMap encS).take i) (KO1.out.alloc _) (some ⟨wlt.heap.size, 0, none⟩) 1 1 [.string key] rfl (by simp [Value.oneCell']) (.inr ⟨_, rfl, fun j u hj => by rw [Addr.add_lit, Nat.zero_add]; exact (Box.new wlt #[.string key] _).c j u hj⟩) (by omega) (by decide) (Nat.le_trans hzN0 (by simp)) (.slice Al1 i cl1) i (vs.take i) (LO1.out.alloc _) DJ.out
            have hzb : sN ≤ wb.heap.size := Nat.le_trans (Nat.le_trans hzN0 (by simp)) hb1.size
            obtain ⟨l2, wc, hrunB, hl2, hk2, hd2, hb2⟩ := app_row (ty := 23) Try.underlying23 hiR1 hiR2 hiR3 hiR4 rfl (wb.alloc (.cells #[.slice A4 r.1.length c4] 39)) sN (.slice Al1 i cl1) i (vs.take i) (hl1.alloc _) (some ⟨wb.heap.size, 0, none⟩) 1 1 [.slice A4 r.1.length c4] rfl (by simp [Value.oneCell']) (.inr ⟨_, rfl, fun j u hj => by rw [Addr.add_lit, Nat.zero_add]; exact (Box.new wb #[.slice A4 r.1.length c4] _).c j u hj⟩) (by omega) (by decide) (Nat.le_trans hzb (by simp)) k2 _ _ (hk1.alloc _) (fun g h1 h2 => hd1 g h2 h1)
            have HZ : Hid (Below sN w6 wc) := Lib.hid (HZx.out.trans (hba.trans (hb1.trans (((Below.refl sN wb).alloc hzb (.cells #[.slice A4 r.1.length c4] 39)).trans hb2))))
            have BBx : Hid (Box wc bx [.slice Ak ks.length ckk, .slice Al ls.length cll]) := Lib.hid (BB.out.below HZ.out hbxN)
            have KO := Lib.hid hk2
            have LO := Lib.hid hl2
            have DJ2 : Hid (∀ g, k2.ownBlock = some g → l2.ownBlock ≠ some g) := Lib.hid (fun g h1 h2 => hd2 g h2 h1)
            have hzc : sN ≤ wc.heap.size := Nat.le_trans (Nat.le_trans hzb (by simp)) hb2.size
            obtain ⟨Ak2, ck2, rfl, _, _⟩ := own_slice KO.out
            obtain ⟨Al2, cl2, rfl, _, _⟩ := own_slice LO.out
            clear hk1 hl1 hd1 hb1 hk2 hl2 hd2 hb2 hba HZx HBx DJ KO1 LO1 hzN0
            have DJ := DJ2
            have hzN0 := hzc
            clear DJ2 hzc hzb
            go_upto_region 22 with (at_builtin; first | refine Lib.wpList_append_run _ rfl _ _ _ _ rfl _ _ rfl rfl _ _ hrunA ?_ | refine Lib.wpList_append_run _ rfl _ _ _ _ rfl _ _ rfl rfl _ _ hrunB ?_)
            clear hrunA hrunB
            refine stage_begin (S := fun (L' : Array Bool) (w' : World) => w'.cell? ⟨bx, 0, none⟩ = some (.slice Ak ks.length ckk) ∧ w'.cell? ⟨bx, 1, none⟩ = some (.slice Al ls.length cll)) (by kernel_rfl) ?_
            have hS0 : (fun w' : World => w'.cell? ⟨bx, 0, none⟩ = some (.slice Ak ks.length ckk) ∧ w'.cell? ⟨bx, 1, none⟩ = some (.slice Al ls.length cll)) wc.drew := ⟨BBx.out.drew.c 0 _ rfl, BBx.out.drew.c 1 _ rfl⟩
            have HBx := Lib.hid BBx.out.drew
            have HZx : Hid (Below sN w6 wc.drew) := Lib.hid (below_drewN HZ.out 1)
            have KOx : Hid (wc.drew.ownsRow sN 9 1 (.slice Ak2 (i + 1) ck2) (i + 1) ((ks.flatMap encS).take i ++ [.string key])) := KO
            have LOx : Hid (wc.drew.ownsRow sN 39 1 (.slice Al2 (i + 1) cl2) (i + 1) (vs.take i ++ [.slice A4 r.1.length c4])) := LO
            have hzN : sN ≤ wc.drew.heap.size := hzN0
            clear HZ KO LO BBx hzN0
            generalize wc.drew = wd at *
            refine stage_take (i := 0) (oi := { dst := some 97, op := Go.Op.move (Go.Operand.tmp 20), type := 22, pos := "ref.go:117", after := #[], guard := none }) (v := ?_) (T := fun _ => True) rfl (by kernel_rfl) (by kernel_rfl) (by kernel_rfl) (by kernel_rfl) (fun _ _ _ h => h) (fun L' w' hW hS => trivial) (fun L' w' hS => hS) (Or.inl ⟨by rfl, ?_⟩) trivial (hS0) ?_
            rotate_left 1
            · intro w9 _; go_simp; (try with_reducible rfl)
            try simp only [Act.put, List.setIfInBounds_toArray, List.set_cons_zero, List.set_cons_succ]
            refine stage_take (i := 1) (oi := { dst := some 98, op := Go.Op.fieldAddr 25 (Go.Operand.tmp 19) 0, type := 0, pos := "ref.go:117", after := #[], guard := none }) (v := ?_) (T := fun _ => True) rfl (by kernel_rfl) (by kernel_rfl) (by kernel_rfl) (by kernel_rfl) (fun _ _ _ h => h) (fun L' w' hW hS => trivial) (fun L' w' hS => hS) (Or.inl ⟨by rfl, ?_⟩) trivial (hS0) ?_
            rotate_left 1
            · intro w9 _; go_simp; (try with_reducible rfl)
            try simp only [Act.put, List.setIfInBounds_toArray, List.set_cons_zero, List.set_cons_succ]
            refine stage_take (i := 2) (oi := { dst := some 99, op := Go.Op.load 22 (Go.Operand.tmp 98), type := 22, pos := "ref.go:117", after := #[{ on := 1, ground := Go.Ground.data }], guard := none }) (v := ?_) (T := fun w' : World => w'.cell? ⟨bx, 0, none⟩ = some (.slice Ak ks.length ckk) ∧ w'.cell? ⟨bx, 1, none⟩ = some (.slice Al ls.length cll)) rfl (by kernel_rfl) (by kernel_rfl) (by kernel_rfl) (by kernel_rfl) (fun _ _ _ h => h) (fun L' w' hW hS => hS) (fun L' w' hS => hS) (Or.inl ⟨by rfl, ?_⟩) (hS0) (hS0) ?_
            rotate_left 1
            · intro w9 hS9; obtain ⟨z0, z1⟩ := hS9; go_simp; (try with_reducible rfl)
            try simp only [Act.put, List.setIfInBounds_toArray, List.set_cons_zero, List.set_cons_succ]
            refine stage_take (i := 3) (oi := { dst := some 100, op := Go.Op.move (Go.Operand.tmp 14), type := 3, pos := "ref.go:117", after := #[], guard := none }) (v := ?_) (T := fun _ => True) rfl (by kernel_rfl) (by kernel_rfl) (by kernel_rfl) (by kernel_rfl) (fun _ _ _ h => h) (fun L' w' hW hS => trivial) (fun L' w' hS => hS) (Or.inl ⟨by rfl, ?_⟩) trivial (hS0) ?_
            rotate_left 1
            · intro w9 _; go_simp; (try with_reducible rfl)
            try simp only [Act.put, List.setIfInBounds_toArray, List.set_cons_zero, List.set_cons_succ]
            refine stage_take (i := 4) (oi := { dst := some 101, op := Go.Op.slice 22 (Go.Operand.tmp 99) (some (Go.Operand.tmp 100)) none none, type := 22, pos := "ref.go:117", after := #[{ on := 2, ground := Go.Ground.data }, { on := 3, ground := Go.Ground.data }], guard := none }) (v := .slice (tailA Ak i ckk) (ks.length - i) (ckk - i)) (T := fun _ => True) rfl (by kernel_rfl) (by kernel_rfl) (by kernel_rfl) (by kernel_rfl) (fun _ _ _ h => h) (fun L' w' hW hS => trivial) (fun L' w' hS => hS) (Or.inl ⟨by rfl, ?_⟩) trivial (hS0) ?_
            · intro w9 _
              rcases hfk with ⟨h1, h2, h3⟩ | ⟨gg, h1, h2⟩
              · have hi0 : i = 0 := by omega
                subst hi0; rw [h1, h2, h3]; simp only [tailA]; go_simp
              · have hz1 : (i : Int) ≤ (ks.length : Int) := by omega
                have hz2 : (ks.length : Int) ≤ (ckk : Int) := by omega
                by_cases hci : ckk = i
                · have hz0 : ckk - i = 0 := by omega
                  rw [h1]; simp only [tailA, if_pos hci]; go_simp
                · have hz0 : ¬ (ckk - i = 0) := by omega
                  rw [h1]; simp only [tailA, if_neg hci]; go_simp
            try simp only [Act.put, List.setIfInBounds_toArray, List.set_cons_zero, List.set_cons_succ]
            refine stage_take (i := 6) (oi := { dst := some 103, op := Go.Op.move (Go.Operand.tmp 21), type := 23, pos := "ref.go:117", after := #[], guard := none }) (v := ?_) (T := fun _ => True) rfl (by kernel_rfl) (by kernel_rfl) (by kernel_rfl) (by kernel_rfl) (fun _ _ _ h => h) (fun L' w' hW hS => trivial) (fun L' w' hS => hS) (Or.inl ⟨by rfl, ?_⟩) trivial (hS0) ?_
            rotate_left 1
            · intro w9 _; go_simp; (try with_reducible rfl)
            try simp only [Act.put, List.setIfInBounds_toArray, List.set_cons_zero, List.set_cons_succ]
            refine stage_take (i := 7) (oi := { dst := some 104, op := Go.Op.fieldAddr 25 (Go.Operand.tmp 19) 1, type := 0, pos := "ref.go:117", after := #[], guard := none }) (v := ?_) (T := fun _ => True) rfl (by kernel_rfl) (by kernel_rfl) (by kernel_rfl) (by kernel_rfl) (fun _ _ _ h => h) (fun L' w' hW hS => trivial) (fun L' w' hS => hS) (Or.inl ⟨by rfl, ?_⟩) trivial (hS0) ?_
            rotate_left 1
            · intro w9 _; go_simp; (try with_reducible rfl)
            try simp only [Act.put, List.setIfInBounds_toArray, List.set_cons_zero, List.set_cons_succ]
            refine stage_take (i := 8) (oi := { dst := some 105, op := Go.Op.load 23 (Go.Operand.tmp 104), type := 23, pos := "ref.go:117", after := #[{ on := 7, ground := Go.Ground.data }], guard := none }) (v := ?_) (T := fun w' : World => w'.cell? ⟨bx, 0, none⟩ = some (.slice Ak ks.length ckk) ∧ w'.cell? ⟨bx, 1, none⟩ = some (.slice Al ls.length cll)) rfl (by kernel_rfl) (by kernel_rfl) (by kernel_rfl) (by kernel_rfl) (fun _ _ _ h => h) (fun L' w' hW hS => hS) (fun L' w' hS => hS) (Or.inl ⟨by rfl, ?_⟩) (hS0) (hS0) ?_
            rotate_left 1
            · intro w9 hS9; obtain ⟨z0, z1⟩ := hS9; go_simp; (try with_reducible rfl)
            try simp only [Act.put, List.setIfInBounds_toArray, List.set_cons_zero, List.set_cons_succ]
            refine stage_take (i := 9) (oi := { dst := some 106, op := Go.Op.move (Go.Operand.tmp 14), type := 3, pos := "ref.go:117", after := #[], guard := none }) (v := ?_) (T := fun _ => True) rfl (by kernel_rfl) (by kernel_rfl) (by kernel_rfl) (by kernel_rfl) (fun _ _ _ h => h) (fun L' w' hW hS => trivial) (fun L' w' hS => hS) (Or.inl ⟨by rfl, ?_⟩) trivial (hS0) ?_
            rotate_left 1
            · intro w9 _; go_simp; (try with_reducible rfl)
            try simp only [Act.put, List.setIfInBounds_toArray, List.set_cons_zero, List.set_cons_succ]
            refine stage_take (i := 10) (oi := { dst := some 107, op := Go.Op.slice 23 (Go.Operand.tmp 105) (some (Go.Operand.tmp 106)) none none, type := 23, pos := "ref.go:117", after := #[{ on := 8, ground := Go.Ground.data }, { on := 9, ground := Go.Ground.data }], guard := none }) (v := .slice (tailA Al i cll) (ls.length - i) (cll - i)) (T := fun _ => True) rfl (by kernel_rfl) (by kernel_rfl) (by kernel_rfl) (by kernel_rfl) (fun _ _ _ h => h) (fun L' w' hW hS => trivial) (fun L' w' hS => hS) (Or.inl ⟨by rfl, ?_⟩) trivial (hS0) ?_
            · intro w9 _
              rcases hfl with ⟨h1, h2, h3⟩ | ⟨gg, h1, h2⟩
              · have hi0 : i = 0 := by omega
                subst hi0; rw [h1, h2, h3]; simp only [tailA]; go_simp
              · have hz1 : (i : Int) ≤ (ls.length : Int) := by omega
                have hz2 : (ls.length : Int) ≤ (cll : Int) := by omega
                by_cases hci : cll = i
                · have hz0 : cll - i = 0 := by omega
                  rw [h1]; simp only [tailA, if_pos hci]; go_simp
                · have hz0 : ¬ (cll - i = 0) := by omega
                  rw [h1]; simp only [tailA, if_neg hci]; go_simp
            try simp only [Act.put, List.setIfInBounds_toArray, List.set_cons_zero, List.set_cons_succ]
            clear hS0
            refine stage_all (rs := [5]) (by kernel_rfl) (by simp) (fun i0 hi0 => ?_)
            obtain rfl : i0 = 5 := by simpa using hi0
            refine stage_step (S := fun (L' : Array Bool) (w' : World) => w'.cell? ⟨bx, 0, none⟩ = some (.slice Ak ks.length ckk) ∧ w'.cell? ⟨bx, 1, none⟩ = some (.slice Al ls.length cll)) (o := { dst := some 102, op := Go.Op.call { callee := Go.Callee.builtin Go.Builtin.append, args := #[Go.Operand.tmp 97, Go.Operand.tmp 101], argTypes := #[22, 22] }, type := 22, pos := "ref.go:117", after := #[{ on := 0, ground := Go.Ground.data }, { on := 4, ground := Go.Ground.data }], guard := none }) (by rfl) (fun K2 hK => ?_)
            obtain ⟨kd, wkd, hrun, hk1, hl1, hd1, hb1⟩ := app_row (ty := 22) Try.underlying22 hiS1 hiS2 hiS3 hiS4 rfl wd sN (.slice Ak2 (i + 1) ck2) (i + 1) ((ks.flatMap encS).take i ++ [.string key]) KOx.out (tailA Ak i ckk) (ks.length - i) (ckk - i) ((ks.flatMap encS).drop i) (by first | (simp [flat_encS]; done) | (simp [flat_encS]; omega)) (by rw [flat_encS]; simp [← List.map_drop, Value.oneCell']) (src_drop (own_below (own_below HOW.out.ok (Below.refl _ _)) (by rw [hsN] at HZx; exact HZx.out)) hpi) (by omega) (by decide) hzN (.slice Al2 (i + 1) cl2) (i + 1) (vs.take i ++ [.slice A4 r.1.length c4]) LOx.out DJ.out
            refine step_append_run rfl _ _ 22 rfl _ _ rfl rfl hrun ?_
            replace HZx := Lib.hid (HZx.out.trans hb1)
            replace HBx := Lib.hid (HBx.out.below hb1 hbxN)
            have KOy := Lib.hid hk1
            have LOy := Lib.hid hl1
            have DJy := Lib.hid hd1
            have hzN2 : sN ≤ wkd.heap.size := Nat.le_trans hzN hb1.size
            clear hrun hk1 hl1 hd1 hb1 KOx LOx DJ
            refine hK.out _ _ (⟨HBx.out.c 0 _ rfl, HBx.out.c 1 _ rfl⟩) ?_
            clear hK K2
            try simp only [Act.put, List.setIfInBounds_toArray, List.set_cons_zero, List.set_cons_succ]
            refine stage_all (rs := [11]) (by kernel_rfl) (by simp) (fun i0 hi0 => ?_)
            obtain rfl : i0 = 11 := by simpa using hi0
            refine stage_step (S := fun (L' : Array Bool) (w' : World) => w'.cell? ⟨bx, 0, none⟩ = some (.slice Ak ks.length ckk) ∧ w'.cell? ⟨bx, 1, none⟩ = some (.slice Al ls.length cll)) (o := { dst := some 108, op := Go.Op.call { callee := Go.Callee.builtin Go.Builtin.append, args := #[Go.Operand.tmp 103, Go.Operand.tmp 107], argTypes := #[23, 23] }, type := 23, pos := "ref.go:117", after := #[{ on := 6, ground := Go.Ground.data }, { on := 10, ground := Go.Ground.data }, { on := 5, ground := Go.Ground.chain }], guard := none }) (by rfl) (fun K2 hK => ?_)
            obtain ⟨ld, wld, hrun, hl1, hk1, hd1, hb1⟩ := app_row (ty := 23) Try.underlying23 hiR1 hiR2 hiR3 hiR4 rfl wkd sN (.slice Al2 (i + 1) cl2) (i + 1) (vs.take i ++ [.slice A4 r.1.length c4]) LOy.out (tailA Al i cll) (ls.length - i) (cll - i) (vs.drop i) (by first | (simp [hvl]; done) | (simp [hvl]; omega)) (fun u hu => hv1 u (List.mem_of_mem_drop hu)) (src_drop (own_below HOW.out.ol (by rw [hsN] at HZx; exact HZx.out)) hil) (by omega) (by decide) hzN2 kd _ _ KOy.out (fun g h1 h2 => DJy.out g h2 h1)
            refine step_append_run rfl _ _ 23 rfl _ _ rfl rfl hrun ?_
            replace HZx := Lib.hid (HZx.out.trans hb1)
            replace HBx := Lib.hid (HBx.out.below hb1 hbxN)
            have KO := Lib.hid hk1
            have LO := Lib.hid hl1
            have DJ : Hid (∀ g, kd.ownBlock = some g → ld.ownBlock ≠ some g) := Lib.hid (fun g h1 h2 => hd1 g h2 h1)
            have hzN0 : sN ≤ wld.heap.size := Nat.le_trans hzN2 hb1.size
            clear hrun hk1 hl1 hd1 hb1 KOy LOy DJy hzN2 hzN
            refine hK.out _ _ (⟨HBx.out.c 0 _ rfl, HBx.out.c 1 _ rfl⟩) ?_
            clear hK K2
            try simp only [Act.put, List.setIfInBounds_toArray, List.set_cons_zero, List.set_cons_succ]
            obtain ⟨Ak3, ck3, rfl, _, _⟩ := own_slice KO.out
            obtain ⟨Al3, cl3, rfl, _, _⟩ := own_slice LO.out
            refine stage_take (i := 12) (oi := { dst := some 109, op := Go.Op.build 25 #[(0, Go.Operand.tmp 102), (1, Go.Operand.tmp 108)], type := 25, pos := "ref.go:117", after := #[{ on := 5, ground := Go.Ground.data }, { on := 11, ground := Go.Ground.data }], guard := none }) (v := ?_) (T := fun _ => True) rfl (by kernel_rfl) (by kernel_rfl) (by kernel_rfl) (by kernel_rfl) (fun _ _ _ h => h) (fun L' w' hW hS => trivial) (fun L' w' hS => hS) (Or.inl ⟨by rfl, ?_⟩) trivial (⟨HBx.out.c 0 _ rfl, HBx.out.c 1 _ rfl⟩) ?_
            rotate_left 1
            · intro w9 _; go_simp; (try with_reducible rfl)
            try simp only [Act.put, List.setIfInBounds_toArray, List.set_cons_zero, List.set_cons_succ]
            have BRx := Lib.hid (BR.out.below HZx.out hrN)
            have HFx2 : Hid (Below w.heap.size w wld) := Lib.hid (HF.out.trans (HZx.out.mono (by have := HF.out.size; omega)))
            have OWF : Hid (OwnY (w.heap.size + 2) wld (.slice Ak3 (i + 1 + (ks.length - i)) ck3) (.slice Al3 (i + 1 + (ls.length - i)) cl3) (putV ks i key) (putV ls i r.1) (putV vs i (.slice A4 r.1.length c4))) := Lib.hid (OwnY.fresh hsN HZx.out (by omega) (by rw [putV_len _ _ _ hpi, putV_flat, putV_eq, show ks.length + 1 = i + 1 + (ks.length - i) by omega]; exact KO.out) (by rw [putV_len _ _ _ hil, putV_eq, show ls.length + 1 = i + 1 + (ls.length - i) by omega]; exact LO.out) DJ.out (fun j l hj => by
              rw [putV_get _ _ _ hil] at hj
              rw [putV_get _ _ _ (by omega)]
              by_cases h1 : j < i
              · rw [if_pos h1] at hj ⊢
                obtain ⟨v, hv, hz⟩ := HOW.out.el j l hj
                exact ⟨v, _, hv, hz⟩
              · rw [if_neg h1] at hj ⊢
                by_cases h2 : j = i
                · rw [if_pos h2] at hj ⊢
                  obtain rfl := Option.some.inj hj
                  exact ⟨_, _, rfl, HNZ.out⟩
                · rw [if_neg h2] at hj ⊢
                  obtain ⟨v, hv, hz⟩ := HOW.out.el (j - 1) l hj
                  exact ⟨v, _, hv, hz⟩))
            refine stage_all (rs := [13]) (by kernel_rfl) (by simp) (fun i0 hi0 => ?_)
            obtain rfl : i0 = 13 := by simpa using hi0
            refine stage_step (S := fun (L' : Array Bool) (w' : World) => w'.cell? ⟨bx, 0, none⟩ = some (.slice Ak ks.length ckk) ∧ w'.cell? ⟨bx, 1, none⟩ = some (.slice Al ls.length cll)) (o := { dst := none, op := Go.Op.store 25 (Go.Operand.tmp 12) (Go.Operand.tmp 109), type := 0, pos := "ref.go:117", after := #[{ on := 12, ground := Go.Ground.data }, { on := 11, ground := Go.Ground.chain }, { on := 0, ground := Go.Ground.phase }, { on := 1, ground := Go.Ground.phase }, { on := 2, ground := Go.Ground.phase }, { on := 3, ground := Go.Ground.phase }, { on := 4, ground := Go.Ground.phase }, { on := 5, ground := Go.Ground.phase }, { on := 6, ground := Go.Ground.phase }, { on := 7, ground := Go.Ground.phase }, { on := 8, ground := Go.Ground.phase }, { on := 9, ground := Go.Ground.phase }, { on := 10, ground := Go.Ground.phase }, { on := 11, ground := Go.Ground.phase }, { on := 12, ground := Go.Ground.phase }], guard := none }) (by rfl) (fun K2 hK => ?_)
            have cBRx0 := BRx.out.c 0 _ rfl; have fBRx0 := BRx.out.f 0 (by simp); have cBRx1 := BRx.out.c 1 _ rfl; have fBRx1 := BRx.out.f 1 (by simp); have lBRx := BRx.out.lt
            go_simp
            clear cBRx0 fBRx0 cBRx1 fBRx1 lBRx
            have HBz := Lib.hid ((HBx.out.other ⟨w.heap.size + 1, 0, none⟩ (.slice Ak3 (i + 1 + (ks.length - i)) ck3) (by show w.heap.size + 1 ≠ bx; omega)).other ⟨w.heap.size + 1, 1, none⟩ (.slice Al3 (i + 1 + (ls.length - i)) cl3) (by show w.heap.size + 1 ≠ bx; omega))
            refine hK.out _ _ (⟨HBz.out.c 0 _ rfl, HBz.out.c 1 _ rfl⟩) ?_
            clear hK K2
            try simp only [Act.put, List.setIfInBounds_toArray, List.set_cons_zero, List.set_cons_succ]
            refine stage_take (i := 14) (oi := { dst := some 13, op := Go.Op.assign (Go.Operand.const (Go.Value.int Go.IntKind.i64 0)), type := 3, pos := "ref.go:117", after := #[{ on := 13, ground := Go.Ground.chain }, { on := 0, ground := Go.Ground.phase }, { on := 1, ground := Go.Ground.phase }, { on := 2, ground := Go.Ground.phase }, { on := 3, ground := Go.Ground.phase }, { on := 4, ground := Go.Ground.phase }, { on := 5, ground := Go.Ground.phase }, { on := 6, ground := Go.Ground.phase }, { on := 7, ground := Go.Ground.phase }, { on := 8, ground := Go.Ground.phase }, { on := 9, ground := Go.Ground.phase }, { on := 10, ground := Go.Ground.phase }, { on := 11, ground := Go.Ground.phase }, { on := 12, ground := Go.Ground.phase }, { on := 13, ground := Go.Ground.phase }], guard := none }) (v := ?_) (T := fun _ => True) rfl (by kernel_rfl) (by kernel_rfl) (by kernel_rfl) (by kernel_rfl) (fun _ _ _ h => h) (fun L' w' hW hS => trivial) (fun L' w' hS => hS) (Or.inl ⟨by rfl, ?_⟩) trivial (⟨HBz.out.c 0 _ rfl, HBz.out.c 1 _ rfl⟩) ?_
            rotate_left 1
            · intro w9 _; go_simp; (try with_reducible rfl)
            try simp only [Act.put, List.setIfInBounds_toArray, List.set_cons_zero, List.set_cons_succ]
            refine stage_done (by kernel_rfl) ?_ _
            go_wp2_with fail
            have HX := Lib.hid (below_set (g := w.heap.size + 1) (j := 1) (v := .slice Al3 (i + 1 + (ls.length - i)) cl3) (below_set (g := w.heap.size + 1) (j := 0) (v := .slice Ak3 (i + 1 + (ks.length - i)) ck3) HFx2.out (Nat.le_succ _)) (Nat.le_succ _))
            have BX : Hid (Box ((wld.setCell ⟨w.heap.size + 1, 0, none⟩ (.slice Ak3 (i + 1 + (ks.length - i)) ck3)).setCell ⟨w.heap.size + 1, 1, none⟩ (.slice Al3 (i + 1 + (ls.length - i)) cl3)) (w.heap.size + 1) [.slice Ak3 (i + 1 + (ks.length - i)) ck3, .slice Al3 (i + 1 + (ls.length - i)) cl3]) := Lib.hid ((BRx.out.set 0 (.slice Ak3 (i + 1 + (ks.length - i)) ck3) (by simp)).set 1 (.slice Al3 (i + 1 + (ls.length - i)) cl3) (by simp))
            have HV : Hid (ChB w.heap.size ((wld.setCell ⟨w.heap.size + 1, 0, none⟩ (.slice Ak3 (i + 1 + (ks.length - i)) ck3)).setCell ⟨w.heap.size + 1, 1, none⟩ (.slice Al3 (i + 1 + (ls.length - i)) cl3)) (.agg #[.slice Ak3 (i + 1 + (ks.length - i)) ck3, .slice Al3 (i + 1 + (ls.length - i)) cl3]) g.1 g.2.1) := Lib.hid (by rw [EE.out]; exact ((((OWF.out.set ⟨w.heap.size + 1, 0, none⟩ _ (Nat.lt_succ_self _)).set ⟨w.heap.size + 1, 1, none⟩ _ (Nat.lt_succ_self _)).chb).mono (by omega)))
            generalize (wld.setCell ⟨w.heap.size + 1, 0, none⟩ (.slice Ak3 (i + 1 + (ks.length - i)) ck3)).setCell ⟨w.heap.size + 1, 1, none⟩ (.slice Al3 (i + 1 + (ls.length - i)) cl3) = wz at *
            have cBX0 := BX.out.c 0 _ rfl; have fBX0 := BX.out.f 0 (by simp); have cBX1 := BX.out.c 1 _ rfl; have fBX1 := BX.out.f 1 (by simp); have lBX := BX.out.lt
            refine bodyPost_ret (v := .tuple #[.agg #[.slice Ak3 (i + 1 + (ks.length - i)) ck3, .slice Al3 (i + 1 + (ls.length - i)) cl3], .int .i64 0]) (by simp [results, Try.results11, go_sem, cBX0, cBX1]) rfl ?_
            refine ⟨_, ?_, HV.out, HX.out⟩
            rw [EE.out]
        · have EE : Hid (g = ([], [], r.2)) := Lib.hid (by rw [EE0.out, if_pos hr0])
          have hr1 : (r.2 == 0) = false := by simpa using hr0
          clear EE0
          generalize r.2 = rr at *
          have cBC0 := BC.out.c 0 _ rfl; have fBC0 := BC.out.f 0 (by simp); have cBC1 := BC.out.c 1 _ rfl; have fBC1 := BC.out.f 1 (by simp); have lBC := BC.out.lt; have cBR0 := BR.out.c 0 _ rfl; have fBR0 := BR.out.f 0 (by simp); have cBR1 := BR.out.c 1 _ rfl; have fBR1 := BR.out.f 1 (by simp); have lBR := BR.out.lt
          go_wp2_with fail
          clear cBC0 fBC0 cBC1 fBC1 lBC; clear cBR0 fBR0 cBR1 fBR1 lBR
          have HX := Lib.hid (below_set (g := w.heap.size + 1) (j := 1) (v := .slice none 0 0) (below_set (g := w.heap.size + 1) (j := 0) (v := .slice none 0 0) HF.out (Nat.le_succ _)) (Nat.le_succ _))
          have BX : Hid (Box ((w4.setCell ⟨w.heap.size + 1, 0, none⟩ (.slice none 0 0)).setCell ⟨w.heap.size + 1, 1, none⟩ (.slice none 0 0)) (w.heap.size + 1) [.slice none 0 0, .slice none 0 0]) := Lib.hid ((BR.out.set 0 (.slice none 0 0) (by simp)).set 1 (.slice none 0 0) (by simp))
          have HV : Hid (ChB w.heap.size ((w4.setCell ⟨w.heap.size + 1, 0, none⟩ (.slice none 0 0)).setCell ⟨w.heap.size + 1, 1, none⟩ (.slice none 0 0)) (.agg #[.slice none 0 0, .slice none 0 0]) g.1 g.2.1) := Lib.hid (by rw [EE.out]; exact ChB.nil _ _)
          generalize (w4.setCell ⟨w.heap.size + 1, 0, none⟩ (.slice none 0 0)).setCell ⟨w.heap.size + 1, 1, none⟩ (.slice none 0 0) = wz at *
          have cBX0 := BX.out.c 0 _ rfl; have fBX0 := BX.out.f 0 (by simp); have cBX1 := BX.out.c 1 _ rfl; have fBX1 := BX.out.f 1 (by simp); have lBX := BX.out.lt
          refine bodyPost_ret (v := .tuple #[.agg #[.slice none 0 0, .slice none 0 0], .int .i64 rr]) (by simp [results, Try.results11, go_sem, cBX0, cBX1]) rfl ?_
          refine ⟨_, ?_, HV.out, HX.out⟩
          rw [EE.out]
  · have EE := Lib.hid (E1.out (by trivial))
    clear E1 E2 E3 CK RK RL HAT
    have cBC0 := BC.out.c 0 _ rfl; have fBC0 := BC.out.f 0 (by simp); have cBC1 := BC.out.c 1 _ rfl; have fBC1 := BC.out.f 1 (by simp); have lBC := BC.out.lt; have cBR0 := BR.out.c 0 _ rfl; have fBR0 := BR.out.f 0 (by simp); have cBR1 := BR.out.c 1 _ rfl; have fBR1 := BR.out.f 1 (by simp); have lBR := BR.out.lt
    go_wp2_with fail
    clear cBC0 fBC0 cBC1 fBC1 lBC; clear cBR0 fBR0 cBR1 fBR1 lBR
    have HX := Lib.hid (below_set (g := w.heap.size + 1) (j := 1) (v := .slice none 0 0) (below_set (g := w.heap.size + 1) (j := 0) (v := .slice none 0 0) HF.out (Nat.le_succ _)) (Nat.le_succ _))
    have BX : Hid (Box ((w1.setCell ⟨w.heap.size + 1, 0, none⟩ (.slice none 0 0)).setCell ⟨w.heap.size + 1, 1, none⟩ (.slice none 0 0)) (w.heap.size + 1) [.slice none 0 0, .slice none 0 0]) := Lib.hid ((BR.out.set 0 (.slice none 0 0) (by simp)).set 1 (.slice none 0 0) (by simp))
    have HV : Hid (ChB w.heap.size ((w1.setCell ⟨w.heap.size + 1, 0, none⟩ (.slice none 0 0)).setCell ⟨w.heap.size + 1, 1, none⟩ (.slice none 0 0)) (.agg #[.slice none 0 0, .slice none 0 0]) g.1 g.2.1) := Lib.hid (by rw [EE.out]; exact ChB.nil _ _)
    generalize (w1.setCell ⟨w.heap.size + 1, 0, none⟩ (.slice none 0 0)).setCell ⟨w.heap.size + 1, 1, none⟩ (.slice none 0 0) = wz at *
    have cBX0 := BX.out.c 0 _ rfl; have fBX0 := BX.out.f 0 (by simp); have cBX1 := BX.out.c 1 _ rfl; have fBX1 := BX.out.f 1 (by simp); have lBX := BX.out.lt
    refine bodyPost_ret (v := .tuple #[.agg #[.slice none 0 0, .slice none 0 0], .int .i64 9]) (by simp [results, Try.results11, go_sem, cBX0, cBX1]) rfl ?_
    refine ⟨_, ?_, HV.out, HX.out⟩
    rw [EE.out]
end Go.Proofs.Ytpkacnoimdjckaa
namespace Go.Proofs.Ytpkacnoimdjckaa
open Go.RowKit
open Go.Shelf
set_option linter.unusedVariables false
set_option linter.unusedSimpArgs false
theorem write_len (snap tx : Int) (gone : Bool) (val : ByteArray) (l : List Ver) : (write snap tx gone val l).1.length ≤ l.length + 1 := by
  unfold write
  (repeat' split) <;> simp
theorem putV_le {α : Type} (l : List α) (i : Nat) (x : α) : (putV l i x).length ≤ l.length + 1 := by
  unfold putV; simp; omega
theorem old_len {ks : List ByteArray} {ls : List (List Ver)} {key : ByteArray} {B : Nat} (h : ∀ l ∈ ls, l.length ≤ B) : (oldP ks ls key).length ≤ B := by
  unfold oldP
  split
  · cases hq : ls[place ks key]? with
    | none => simp
    | some l => exact h l (List.mem_of_getElem? hq)
  · simp
theorem put_bounds {ks : List ByteArray} {ls : List (List Ver)} {key : ByteArray} {snap tx : Int} {gone : Bool} {val : ByteArray} {B : Nat} (h : ∀ l ∈ ls, l.length ≤ B) :
    (putR ks ls key snap tx gone val).1.length ≤ ks.length + 1 ∧ (putR ks ls key snap tx gone val).2.1.length ≤ ls.length + 1 ∧ ∀ l ∈ (putR ks ls key snap tx gone val).2.1, l.length ≤ B + 1 := by
  have hw := write_len snap tx gone val (oldP ks ls key)
  have ho := old_len (ks := ks) (key := key) h
  unfold putR
  split
  · simp
  · split
    · simp
    · split
      · simp
      · split
        · refine ⟨by simp, by simp, fun l hl => ?_⟩
          rcases List.mem_or_eq_of_mem_set hl with h' | h'
          · have := h l h'; omega
          · rw [h']; omega
        · split
          · simp
          · refine ⟨putV_le _ _ _, putV_le _ _ _, fun l hl => ?_⟩
            unfold putV at hl
            simp only [List.mem_append, List.mem_cons] at hl
            rcases hl with h' | h' | h'
            · have := h l (List.mem_of_mem_take h'); omega
            · rw [h']; omega
            · have := h l (List.mem_of_mem_drop h'); omega
set_option maxHeartbeats 4000000 in
set_option maxRecDepth 100000 in
theorem puts_law (AK AL : Option Addr) (ck cl : Nat) (ks : List ByteArray) (ls : List (List Ver)) (key : ByteArray) (snap tx : Int) (gone : Bool) (val : ByteArray) (w : World) (HK : RowE encS 1 w AK ks) (HL : RowL w AL ls) (hnk : AK = none → ck = 0) (hk : ks.length * 16 ≤ 140737488351232) (hl : ls.length * 24 ≤ 140737488351232) (hls : ∀ l ∈ ls, l.length * 40 ≤ 140737488351232) :
    Calls Try.prog 3 #[.agg #[.slice AK ks.length ck, .slice AL ls.length cl], .string key, .int .i64 snap, .int .i64 tx, .bool gone, .string val] w fun e w' => e = .returned (.bool true) ∧ Below w.heap.size w w' := by
  have h0 : Below w.heap.size w (w.alloc (.cells #[.slice AK ks.length ck, .slice AL ls.length cl] 25)) := (by (repeat (first | (with_reducible exact Below.refl _ _) | apply below_alloc _ (Nat.le_refl _) | refine below_set ?_ (by first | exact Nat.le_refl _ | omega) | apply below_drewN | refine below_step ?_ HB)))
  have BC := Lib.hid (Box.new w #[.slice AK ks.length ck, .slice AL ls.length cl] 25)
  have HF := Lib.hid h0
  have RK := Lib.hid (HK.below h0)
  have RL := Lib.hid (HL.below h0)
  have HLS := Lib.hid hls
  have hof := gof_any AK AL ck cl ks ls _ RK.out RL.out hnk hk hl hls
  have HPB := Lib.hid (put_bounds (ks := ks) (ls := ls) (key := key) (snap := snap) (tx := tx) (gone := gone) (val := val) (B := 140737488351231 / 40 + 1) (fun l hl => by have := hls l hl; omega))
  clear h0 HK HL hls
  go_enter Try.func3, Try.ntmps3
  have cBC0 := BC.out.c 0 _ rfl; have fBC0 := BC.out.f 0 (by simp); have cBC1 := BC.out.c 1 _ rfl; have fBC1 := BC.out.f 1 (by simp); have lBC := BC.out.lt
  go_wp2_with fail
  clear cBC0 fBC0 cBC1 fBC1 lBC
  generalize w.alloc (.cells #[.slice AK ks.length ck, .slice AL ls.length cl] 25) = w0 at *
  refine hof.mono ?_; rintro e w2 ⟨v2, rfl, hv2, h2⟩
  replace BC := Lib.hid (BC.out.below h2 BC.out.lt); replace HF := Lib.hid (below_step' HF.out h2); replace RK := Lib.hid (RK.out.below h2); replace RL := Lib.hid (RL.out.below h2)
  obtain ⟨AK3, AL3, ck3, cl3, rfl, hrk3, hrl3, ⟨_, _, hnk3, hnl3⟩, _⟩ := hv2
  have OBX := Lib.hid (Box.new w2 #[.slice AK3 ks.length ck3, .slice AL3 ls.length cl3] 28)
  have HB := (Below.refl _ w2).alloc (Nat.le_refl _) (.cells #[.slice AK3 ks.length ck3, .slice AL3 ls.length cl3] 28)
  have SK := Lib.hid (hrk3.below HB)
  have SL := Lib.hid (hrl3.row.below HB)
  replace BC := Lib.hid (BC.out.below HB BC.out.lt); replace HF := Lib.hid (below_step' HF.out HB); replace RK := Lib.hid (RK.out.below HB); replace RL := Lib.hid (RL.out.below HB)
  clear hof h2 hrk3 hrl3 HB
  go_upto_region 2 with (fail)
  generalize w2.alloc (.cells #[.slice AK3 ks.length ck3, .slice AL3 ls.length cl3] 28) = w4 at *
  generalize w2.heap.size = bx at *
  have hk5 : ks.length ≤ 140737488355328 := by omega
  have hl5 : ls.length ≤ 140737488355328 := by omega
  have hpu := gput_any AK3 AL3 ck3 cl3 ks ls key snap tx gone val w4 SK.out SL.out hnk3 hnl3 hk5 hl5
  have hpr := fun W h => rput_any AK AL ck cl ks ls key snap tx gone val W (RK.out.below h) (RL.out.below h) hnk hk5 hl5
  have HPR := Lib.hid hpr
  clear hpr
  generalize putR ks ls key snap tx gone val = g at *
  obtain ⟨K, L, er⟩ := g
  try dsimp only at hpu
  obtain ⟨b1, b2, b3⟩ := HPB.out
  dsimp only at b1 b2 b3
  have HB3 := Lib.hid b3
  clear HPB b3
  have cOBX0 := OBX.out.c 0 _ rfl; have fOBX0 := OBX.out.f 0 (by simp); have cOBX1 := OBX.out.c 1 _ rfl; have fOBX1 := OBX.out.f 1 (by simp); have lOBX := OBX.out.lt
  go_wp2_with fail
  clear cOBX0 fOBX0 cOBX1 fOBX1 lOBX
  refine hpu.mono ?_; rintro e w5 ⟨v5, rfl, hv5, h5⟩
  replace BC := Lib.hid (BC.out.below h5 BC.out.lt); replace OBX := Lib.hid (OBX.out.below h5 OBX.out.lt); replace HF := Lib.hid (below_step' HF.out h5); replace RK := Lib.hid (RK.out.below h5); replace RL := Lib.hid (RL.out.below h5); replace SK := Lib.hid (SK.out.below h5); replace SL := Lib.hid (SL.out.below h5)
  obtain ⟨AK5, AL5, ck5, cl5, rfl, hrk5, hrl5, _⟩ := hv5
  have B5 := Lib.hid (Box.new w5 #[.slice AK5 K.length ck5, .slice AL5 L.length cl5] 28)
  have HB := (Below.refl _ w5).alloc (Nat.le_refl _) (.cells #[.slice AK5 K.length ck5, .slice AL5 L.length cl5] 28)
  have TK := Lib.hid (hrk5.below HB)
  have TL := Lib.hid (hrl5.row.below HB)
  have hpr := HPR.out _ (below_step' h5 HB)
  try dsimp only at hpr
  replace BC := Lib.hid (BC.out.below HB BC.out.lt); replace OBX := Lib.hid (OBX.out.below HB OBX.out.lt); replace HF := Lib.hid (below_step' HF.out HB); replace RK := Lib.hid (RK.out.below HB); replace RL := Lib.hid (RL.out.below HB); replace SK := Lib.hid (SK.out.below HB); replace SL := Lib.hid (SL.out.below HB)
  clear hpu h5 hrk5 hrl5 HB HPR
  go_upto_region 3 with (fail)
  generalize w5.alloc (.cells #[.slice AK5 K.length ck5, .slice AL5 L.length cl5] 28) = w6 at *
  generalize w5.heap.size = b5 at *
  have cBC0 := BC.out.c 0 _ rfl; have fBC0 := BC.out.f 0 (by simp); have cBC1 := BC.out.c 1 _ rfl; have fBC1 := BC.out.f 1 (by simp); have lBC := BC.out.lt
  go_wp2_with fail
  clear cBC0 fBC0 cBC1 fBC1 lBC
  refine hpr.mono ?_; rintro e w7 ⟨v7, rfl, hv7, h7⟩
  replace BC := Lib.hid (BC.out.below h7 BC.out.lt); replace OBX := Lib.hid (OBX.out.below h7 OBX.out.lt); replace B5 := Lib.hid (B5.out.below h7 B5.out.lt); replace HF := Lib.hid (below_step' HF.out h7); replace RK := Lib.hid (RK.out.below h7); replace RL := Lib.hid (RL.out.below h7); replace SK := Lib.hid (SK.out.below h7); replace SL := Lib.hid (SL.out.below h7); replace TK := Lib.hid (TK.out.below h7); replace TL := Lib.hid (TL.out.below h7)
  obtain ⟨AK7, AL7, ck7, cl7, rfl, hrk7, hrl7, _⟩ := hv7
  have B7 := Lib.hid (Box.new w7 #[.slice AK7 K.length ck7, .slice AL7 L.length cl7] 25)
  have HB := (Below.refl _ w7).alloc (Nat.le_refl _) (.cells #[.slice AK7 K.length ck7, .slice AL7 L.length cl7] 25)
  have UK := Lib.hid (hrk7.below HB)
  have UL := Lib.hid (hrl7.row.below HB)
  replace BC := Lib.hid (BC.out.below HB BC.out.lt); replace OBX := Lib.hid (OBX.out.below HB OBX.out.lt); replace B5 := Lib.hid (B5.out.below HB B5.out.lt); replace HF := Lib.hid (below_step' HF.out HB); replace RK := Lib.hid (RK.out.below HB); replace RL := Lib.hid (RL.out.below HB); replace SK := Lib.hid (SK.out.below HB); replace SL := Lib.hid (SL.out.below HB); replace TK := Lib.hid (TK.out.below HB); replace TL := Lib.hid (TL.out.below HB)
  clear hpr h7 hrk7 hrl7 HB
  go_upto_region 4 with (fail)
  generalize w7.alloc (.cells #[.slice AK7 K.length ck7, .slice AL7 L.length cl7] 25) = w8 at *
  generalize w7.heap.size = b7 at *
  have hal1 := galike_same AK5 AL5 AK7 AL7 ck5 cl5 ck7 cl7 K L w8 TK.out TL.out UK.out UL.out (by omega) (by omega) (fun l hl => by have := HB3.out l hl; omega)
  have hal2 := fun W (h : Below w8.heap.size w8 W) => galike_same AK3 AL3 AK AL ck3 cl3 ck cl ks ls W (SK.out.below h) (SL.out.below h) (RK.out.below h) (RL.out.below h) (by omega) (by omega) (fun l hl => by have := HLS.out l hl; omega)
  have HAL2 := Lib.hid hal2
  clear hal2 TK TL UK UL HB3 SK SL RK RL
  by_cases hee : True
  · have cBC0 := BC.out.c 0 _ rfl; have fBC0 := BC.out.f 0 (by simp); have cBC1 := BC.out.c 1 _ rfl; have fBC1 := BC.out.f 1 (by simp); have lBC := BC.out.lt; have cOBX0 := OBX.out.c 0 _ rfl; have fOBX0 := OBX.out.f 0 (by simp); have cOBX1 := OBX.out.c 1 _ rfl; have fOBX1 := OBX.out.f 1 (by simp); have lOBX := OBX.out.lt; have cB50 := B5.out.c 0 _ rfl; have fB50 := B5.out.f 0 (by simp); have cB51 := B5.out.c 1 _ rfl; have fB51 := B5.out.f 1 (by simp); have lB5 := B5.out.lt; have cB70 := B7.out.c 0 _ rfl; have fB70 := B7.out.f 0 (by simp); have cB71 := B7.out.c 1 _ rfl; have fB71 := B7.out.f 1 (by simp); have lB7 := B7.out.lt
    go_wp2_with fail
    clear cBC0 fBC0 cBC1 fBC1 lBC; clear cOBX0 fOBX0 cOBX1 fOBX1 lOBX; clear cB50 fB50 cB51 fB51 lB5; clear cB70 fB70 cB71 fB71 lB7
    refine hal1.mono ?_; rintro e w9 ⟨rfl, h9⟩
    have hal3 := HAL2.out w9 h9
    replace BC := Lib.hid (BC.out.below h9 BC.out.lt); replace OBX := Lib.hid (OBX.out.below h9 OBX.out.lt); replace HF := Lib.hid (below_step' HF.out h9)
    clear hal1 h9 HAL2
    have cBC0 := BC.out.c 0 _ rfl; have fBC0 := BC.out.f 0 (by simp); have cBC1 := BC.out.c 1 _ rfl; have fBC1 := BC.out.f 1 (by simp); have lBC := BC.out.lt; have cOBX0 := OBX.out.c 0 _ rfl; have fOBX0 := OBX.out.f 0 (by simp); have cOBX1 := OBX.out.c 1 _ rfl; have fOBX1 := OBX.out.f 1 (by simp); have lOBX := OBX.out.lt
    go_wp2_with (first | (go_at_call 13; (with_reducible refine (num_any _ _).mono ?_); rintro e w' ⟨rfl, rfl⟩) | (go_at_call 12; (with_reducible refine hal3.mono ?_); rintro e w' ⟨rfl, hb⟩; replace HF := Lib.hid (below_step' HF.out hb); clear hb) | (go_at_call 14; (with_reducible refine (alive_any _).mono ?_); rintro e w' ⟨rfl, hb⟩; replace HF := Lib.hid (below_step' HF.out hb)))
    go_ret
    exact ⟨rfl, HF.out⟩
  · exact absurd trivial hee
end Go.Proofs.Ytpkacnoimdjckaa
