/- PlanKeys: the walk. -/
import Derived.Test.YtfmfmammcjpboaaKeysW
import Derived.Test.YtfmfmammcjpboaaAppV
import Derived.Test.YtfmfmammcjpboaaAliveW
import Derived.Test.YtfmfmammcjpboaaSpanW
import Derived.Test.YtfmfmammcjpboaaLater
import Derived.Test.YtfmfmammcjpboaaPuts
namespace Go.Proofs.Ytfmfmammcjpboaa
open Go.RowKit
set_option linter.unusedVariables false
set_option linter.unusedSimpArgs false
theorem string_geq (t : TypeId) (a b : ByteArray) : binOp .geq t (.string a) (.string b) = pure (.bool !(Op.bytesLess a.toList b.toList)) := by
  simp only [binOp, Op.stringOp]
attribute [local go_sem] string_geq
theorem ofP (p : Pl) (w : World) : Calls Try.prog 16 #[.agg #[.int .i64 p.ix, .bool p.lo.op, .int .i64 p.lo.v.k, .int .i64 p.lo.v.n, .string p.lo.v.s, .bool p.lo.inn, .bool p.hi.op, .int .i64 p.hi.v.k, .int .i64 p.hi.v.n, .string p.hi.v.s, .bool p.hi.inn, .bool p.emp]] w fun e w' => e = .returned (.agg #[.int .i64 p.ix, .bool p.lo.op, .int .i64 p.lo.v.k, .int .i64 p.lo.v.n, .string p.lo.v.s, .bool p.lo.inn, .bool p.hi.op, .int .i64 p.hi.v.k, .int .i64 p.hi.v.n, .string p.hi.v.s, .bool p.hi.inn, .bool p.emp]) ∧ Below w.heap.size w w' :=
  of_any _ _ _ _ _ _ _ _ _ _ _ _ w
theorem hasPv (p : Pl) (v : V) (w : World) : Calls Try.prog 17 #[.agg #[.int .i64 p.ix, .bool p.lo.op, .int .i64 p.lo.v.k, .int .i64 p.lo.v.n, .string p.lo.v.s, .bool p.lo.inn, .bool p.hi.op, .int .i64 p.hi.v.k, .int .i64 p.hi.v.n, .string p.hi.v.s, .bool p.hi.inn, .bool p.emp], .agg #[.int .i64 v.k, .int .i64 v.n, .string v.s]] w fun e w' => e = .returned (.bool (hasP p v)) ∧ Below w.heap.size w w' :=
  has_any _ _ _ _ _ _ _ _ _ _ _ _ _ _ _ w
set_option maxHeartbeats 4000000 in
set_option maxRecDepth 100000 in
theorem planKeys_any (p : Pl) (v : V) (A : Option Addr) (c : Nat) (l : List V) (w : World) (hm : MaxL w) (HA : RowE encVal 3 w A l) (hll : l.length ≤ 140737488355328) (hlc : l.length ≤ c) (hnd : A = none → c = 0)
    (hl : InR p.lo.v.n) (hh : InR p.hi.v.n) (hv : InR v.n) (hok : ∀ x ∈ l, InR x.n) :
    Calls Try.prog 7 #[.agg #[.int .i64 p.ix, .bool p.lo.op, .int .i64 p.lo.v.k, .int .i64 p.lo.v.n, .string p.lo.v.s, .bool p.lo.inn, .bool p.hi.op, .int .i64 p.hi.v.k, .int .i64 p.hi.v.n, .string p.hi.v.s, .bool p.hi.inn, .bool p.emp], .agg #[.int .i64 v.k, .int .i64 v.n, .string v.s], .slice A l.length c] w fun e w' => e = .returned (.bool true) ∧ Below w.heap.size w w' := by
  have HP := Lib.hid ((Box.new w #[.int .i64 p.ix, .bool p.lo.op, .int .i64 p.lo.v.k, .int .i64 p.lo.v.n, .string p.lo.v.s, .bool p.lo.inn, .bool p.hi.op, .int .i64 p.hi.v.k, .int .i64 p.hi.v.n, .string p.hi.v.s, .bool p.hi.inn, .bool p.emp] 42).alloc (.cells #[.int .i64 v.k, .int .i64 v.n, .string v.s] 28))
  have HV := Lib.hid (Box.new (w.alloc (.cells #[.int .i64 p.ix, .bool p.lo.op, .int .i64 p.lo.v.k, .int .i64 p.lo.v.n, .string p.lo.v.s, .bool p.lo.inn, .bool p.hi.op, .int .i64 p.hi.v.k, .int .i64 p.hi.v.n, .string p.hi.v.s, .bool p.hi.inn, .bool p.emp] 42)) #[.int .i64 v.k, .int .i64 v.n, .string v.s] 28)
  have HF : Hid (Below w.heap.size w ((w.alloc (.cells #[.int .i64 p.ix, .bool p.lo.op, .int .i64 p.lo.v.k, .int .i64 p.lo.v.n, .string p.lo.v.s, .bool p.lo.inn, .bool p.hi.op, .int .i64 p.hi.v.k, .int .i64 p.hi.v.n, .string p.hi.v.s, .bool p.hi.inn, .bool p.emp] 42)).alloc (.cells #[.int .i64 v.k, .int .i64 v.n, .string v.s] 28))) := Lib.hid (by (repeat (first | (with_reducible exact Below.refl _ _) | apply below_alloc _ (Nat.le_refl _) | refine below_set ?_ (by first | exact Nat.le_refl _ | omega) | apply below_drewN | refine below_step ?_ HB)))
  have HM := Lib.hid (hm.below HF.out)
  have HR := Lib.hid (HA.below (HF.out))
  simp only [World.size_alloc] at HV
  clear HA hm
  have hof := fun W => ofP p W
  have hky := fun W => keys_any p W hl hh
  have hha := fun W => hasPv p v W
  have hnu : ∀ (n : Int) (W : World), Calls Try.prog 12 #[.int .i64 n] W fun e W' => e = .returned (.int .i64 n) ∧ Below W.heap.size W W' := fun n W => (numE_any n W).mono (by rintro e W' ⟨rfl, rfl⟩; exact ⟨rfl, Below.refl _ _⟩)
  go_enter Try.func7, Try.ntmps7
  go_wp2_with fail
  generalize ((w.alloc (.cells #[.int .i64 p.ix, .bool p.lo.op, .int .i64 p.lo.v.k, .int .i64 p.lo.v.n, .string p.lo.v.s, .bool p.lo.inn, .bool p.hi.op, .int .i64 p.hi.v.k, .int .i64 p.hi.v.n, .string p.hi.v.s, .bool p.hi.inn, .bool p.emp] 42)).alloc (.cells #[.int .i64 v.k, .int .i64 v.n, .string v.s] 28)) = w3 at *
  refine (alive_any w3 HM.out).mono ?_; rintro e w4 ⟨rfl, h⟩
  clear HM
  replace HP := Lib.hid (HP.out.below h HP.out.lt); replace HV := Lib.hid (HV.out.below h HV.out.lt); replace HR := Lib.hid (HR.out.below h); replace HF := Lib.hid (below_step' HF.out h)
  clear h
  have cHP0 := HP.out.c 0 _ rfl; have fHP0 := HP.out.f 0 (by simp); have cHP1 := HP.out.c 1 _ rfl; have fHP1 := HP.out.f 1 (by simp); have cHP2 := HP.out.c 2 _ rfl; have fHP2 := HP.out.f 2 (by simp); have cHP3 := HP.out.c 3 _ rfl; have fHP3 := HP.out.f 3 (by simp); have cHP4 := HP.out.c 4 _ rfl; have fHP4 := HP.out.f 4 (by simp); have cHP5 := HP.out.c 5 _ rfl; have fHP5 := HP.out.f 5 (by simp); have cHP6 := HP.out.c 6 _ rfl; have fHP6 := HP.out.f 6 (by simp); have cHP7 := HP.out.c 7 _ rfl; have fHP7 := HP.out.f 7 (by simp); have cHP8 := HP.out.c 8 _ rfl; have fHP8 := HP.out.f 8 (by simp); have cHP9 := HP.out.c 9 _ rfl; have fHP9 := HP.out.f 9 (by simp); have cHP10 := HP.out.c 10 _ rfl; have fHP10 := HP.out.f 10 (by simp); have cHP11 := HP.out.c 11 _ rfl; have fHP11 := HP.out.f 11 (by simp); have lHP := HP.out.lt
  go_wp2_with fail
  clear cHP0 fHP0 cHP1 fHP1 cHP2 fHP2 cHP3 fHP3 cHP4 fHP4 cHP5 fHP5 cHP6 fHP6 cHP7 fHP7 cHP8 fHP8 cHP9 fHP9 cHP10 fHP10 cHP11 fHP11 lHP
  refine (hof _).mono ?_; rintro e w5 ⟨rfl, h⟩
  replace HP := Lib.hid (HP.out.below h HP.out.lt); replace HV := Lib.hid (HV.out.below h HV.out.lt); replace HR := Lib.hid (HR.out.below h); replace HF := Lib.hid (below_step' HF.out h)
  clear h
  go_wp2_with fail
  refine (hky _).mono ?_; rintro e w6 ⟨rfl, h⟩
  replace HP := Lib.hid (HP.out.below h HP.out.lt); replace HV := Lib.hid (HV.out.below h HV.out.lt); replace HR := Lib.hid (HR.out.below h); replace HF := Lib.hid (below_step' HF.out h)
  clear h hky
  go_upto_region 4 with (fail)
  have e8 : min 8 l.length = (l.take 8).length := by rw [List.length_take]
  have hl8 : (l.take 8).length ≤ 1000 := by rw [List.length_take]; omega
  have hr8 : RowE encVal 3 w6 A (l.take 8) := HR.out.take 8
  have ho8 : ∀ x ∈ [v] ++ l.take 8, InR x.n := fun x hx => by
    rcases List.mem_append.1 hx with hx | hx
    · simp at hx; subst hx; exact hv
    · exact hok x (List.mem_of_mem_take hx)
  have HB6 : Hid (Below w6.heap.size w6 (w6.alloc (.cells #[.int .i64 v.k, .int .i64 v.n, .string v.s] 28)).drew) := Lib.hid (Below.drew ((Below.refl w6.heap.size w6).alloc (Nat.le_refl _) _))
  have HR8 := Lib.hid (hr8.below HB6.out)
  have HOW := Lib.hid ((World.ownsRow_lit (base := w6.heap.size) (e := 28) (size := 3) w6 #[.int .i64 v.k, .int .i64 v.n, .string v.s] 1 (Nat.le_refl _) (by decide) rfl).drew)
  have hq1 : (0 : Int) ≤ min (l.length : Int) 8 := by omega
  have hq2 : min (l.length : Int) 8 ≤ (c : Int) := by omega
  have HO8 := Lib.hid ho8
  have HE8 := Lib.hid e8
  clear hr8 ho8 e8
  obtain ⟨m8, hm8⟩ : ∃ m8, [v] ++ l.take 8 = m8 := ⟨_, rfl⟩
  rw [hm8] at HO8
  have HM8 := Lib.hid hm8
  clear hm8
  go_cut [10, 11] (fun q r wx => q = .string (tx (encode m8).1) ∧ r = .int .i64 (encode m8).2 ∧ Hid (Below w6.heap.size w6 wx))
  case first =>
    have cHV0 := HV.out.c 0 _ rfl; have fHV0 := HV.out.f 0 (by simp); have cHV1 := HV.out.c 1 _ rfl; have fHV1 := HV.out.f 1 (by simp); have cHV2 := HV.out.c 2 _ rfl; have fHV2 := HV.out.f 2 (by simp); have lHV := HV.out.lt
    go_region_law (first
      | (refine step_append_vals rfl (.tmp 23) (.tmp 28) rfl w6.heap.size (.slice (some ⟨w6.heap.size, 0, none⟩) 1 1) [v] (l.take 8) (by simp [Act.eval, Act.put]) HOW.out A c (by have q := HE8.out; simp [Act.eval, Act.put] <;> omega) hnd HR8.out (by simp) hl8 (HB6.out.size) ?_; intro A' c' w' hR0 hb0; rw [HM8.out] at hR0 ⊢; have hR' := Lib.hid hR0; have hb' := Lib.hid hb0; clear hR0 hb0 HR8 HOW)
      | (go_simp; go_wp2_with (go_at_call 21; with_reducible refine (encode_any A' c' m8 _ hR'.out HO8.out).mono ?_; rintro e w9 ⟨rfl, h9⟩)))
    all_goals (go_wp2_with fail)
    all_goals go_meet
    all_goals exact ⟨rfl, rfl, Lib.hid (below_step' (HB6.out.trans hb'.out) h9)⟩
  have hlaw : v.k ≠ 0 → p.emp = false → (keysP p).2.2 = 0 → (encode m8).2 = 0 → hasP p v = (!(Op.bytesLess (tx (encode m8).1).toList (tx (keysP p).1).toList) && ((tx (keysP p).2.1).toList == [] || Op.bytesLess (tx (encode m8).1).toList (tx (keysP p).2.1).toList)) := by
    intro g1 g2 g3 g4
    have hle : ¬ 64 < m8.length := by
      rw [← HM8.out]
      simp only [List.length_append, List.length_cons, List.length_nil, List.length_take]
      omega
    unfold encode at g4 ⊢
    rw [if_neg hle] at g4 ⊢
    by_cases hg : m8.all okV = true
    · rw [if_pos hg] at g4 ⊢
      have hgood : ∀ x ∈ m8, good x := fun x hx => ⟨HO8.out x hx, by have := List.all_eq_true.1 hg x hx; simpa [okV] using this⟩
      rw [← HM8.out] at hgood ⊢
      rw [tx_list, tx_list, tx_list]
      exact keys_has g2 g1 (hgood v (by simp)) (fun x hx => hgood x (List.mem_append_right _ hx)) hl hh g3
    · rw [if_neg hg] at g4
      cases g4
  have hlaw2 : v.k = 0 ∨ p.emp = true → hasP p v = false := by
    rintro (g | g)
    · unfold hasP; rw [g]; simp
    · unfold hasP; rw [g]; rfl
  have HLAW := Lib.hid hlaw
  have HLAW2 := Lib.hid hlaw2
  obtain ⟨rfl, rfl, h⟩ := hcut
  replace h := h.out
  replace HP := Lib.hid (HP.out.below h HP.out.lt); replace HV := Lib.hid (HV.out.below h HV.out.lt); replace HF := Lib.hid (below_step' HF.out h)
  clear hlaw hlaw2 h HR HB6 HR8 HOW HO8 HM8 HE8 hq1 hq2 hnd hll hlc hok hl8
  obtain ⟨s, hs⟩ : ∃ s, tx (encode m8).1 = s := ⟨_, rfl⟩
  obtain ⟨lo, hlo⟩ : ∃ s, tx (keysP p).1 = s := ⟨_, rfl⟩
  obtain ⟨hi, hhi⟩ : ∃ s, tx (keysP p).2.1 = s := ⟨_, rfl⟩
  rw [hs, hlo, hhi] at HLAW ⊢
  clear hs hlo hhi
  generalize (encode m8).2 = ee at *
  generalize (keysP p).2.2 = ke at *
  generalize hasP p v = x at *
  generalize wc = w7 at *
  go_upto_region 5 with (fail)
  generalize (Value.agg #[.int .i64 p.ix, .bool p.lo.op, .int .i64 p.lo.v.k, .int .i64 p.lo.v.n, .string p.lo.v.s, .bool p.lo.inn, .bool p.hi.op, .int .i64 p.hi.v.k, .int .i64 p.hi.v.n, .string p.hi.v.s, .bool p.hi.inn, .bool p.emp]) = ap
  generalize (Value.agg #[.int .i64 v.k, .int .i64 v.n, .string v.s]) = av
  go_cut [48] (fun q wz => ∃ b : Bool, q = .bool b ∧ wz = w7 ∧ Hid (b = true ↔ (ke ≠ 0 ∨ ee ≠ 0 ∨ v.k = 0 ∨ p.emp = true)))
  case first =>
    have cP := HP.out.c 11 _ rfl
    have cV := HV.out.c 0 _ rfl
    clear HP HV HF HLAW HLAW2 hof hha
    by_cases q1 : ke = 0
    · subst q1
      by_cases q2 : ee = 0
      · subst q2
        go_wp2_with (go_at_call 12; (with_reducible refine (numE_any _ _).mono ?_); rintro e wn ⟨rfl, rfl⟩)
        all_goals (go_meet; exact ⟨_, rfl, rfl, Lib.hid (by simp_all)⟩)
      · go_wp2_with (go_at_call 12; (with_reducible refine (numE_any _ _).mono ?_); rintro e wn ⟨rfl, rfl⟩)
        all_goals (go_meet; exact ⟨_, rfl, rfl, Lib.hid (by simp_all)⟩)
    · go_wp2_with (go_at_call 12; (with_reducible refine (numE_any _ _).mono ?_); rintro e wn ⟨rfl, rfl⟩)
      all_goals (go_meet; exact ⟨_, rfl, rfl, Lib.hid (by simp_all)⟩)
  obtain ⟨b, rfl, hw, hb⟩ := hcut
  subst hw
  generalize wc = w8 at *
  have HBB := Lib.hid hb.out
  clear hb
  cases b
  · obtain ⟨rfl, rfl, hk, he⟩ : ke = 0 ∧ ee = 0 ∧ v.k ≠ 0 ∧ p.emp = false := by
      have q := HBB.out
      simp at q
      exact ⟨q.1, q.2.1, q.2.2.1, q.2.2.2⟩
    have HX := Lib.hid (HLAW.out hk he rfl rfl)
    clear HLAW HLAW2 HBB hk he
    go_upto_region 7 with (fail)
    go_cut [86] (fun q wy => ∃ b : Bool, q = .bool b ∧ wy = w8)
    case first =>
      have cHP0 := HP.out.c 0 _ rfl; have fHP0 := HP.out.f 0 (by simp); have cHP1 := HP.out.c 1 _ rfl; have fHP1 := HP.out.f 1 (by simp); have cHP2 := HP.out.c 2 _ rfl; have fHP2 := HP.out.f 2 (by simp); have cHP3 := HP.out.c 3 _ rfl; have fHP3 := HP.out.f 3 (by simp); have cHP4 := HP.out.c 4 _ rfl; have fHP4 := HP.out.f 4 (by simp); have cHP5 := HP.out.c 5 _ rfl; have fHP5 := HP.out.f 5 (by simp); have cHP6 := HP.out.c 6 _ rfl; have fHP6 := HP.out.f 6 (by simp); have cHP7 := HP.out.c 7 _ rfl; have fHP7 := HP.out.f 7 (by simp); have cHP8 := HP.out.c 8 _ rfl; have fHP8 := HP.out.f 8 (by simp); have cHP9 := HP.out.c 9 _ rfl; have fHP9 := HP.out.f 9 (by simp); have cHP10 := HP.out.c 10 _ rfl; have fHP10 := HP.out.f 10 (by simp); have cHP11 := HP.out.c 11 _ rfl; have fHP11 := HP.out.f 11 (by simp); have lHP := HP.out.lt
      clear hof hha HX HV HF
      go_wp2_with fail
      all_goals (go_meet; exact ⟨_, rfl, rfl⟩)
    obtain ⟨b, rfl, hw⟩ := hcut
    subst hw
    generalize wc = w9 at *
    cases b
    · go_wp2_with fail
      go_upto_region 9 with (fail)
      have qP0 := later_cell HP.out.lt (HP.out.c 0 _ rfl)
      have qP1 := later_cell HP.out.lt (HP.out.c 1 _ rfl)
      have qP2 := later_cell HP.out.lt (HP.out.c 2 _ rfl)
      have qP3 := later_cell HP.out.lt (HP.out.c 3 _ rfl)
      have qP4 := later_cell HP.out.lt (HP.out.c 4 _ rfl)
      have qP5 := later_cell HP.out.lt (HP.out.c 5 _ rfl)
      have qP6 := later_cell HP.out.lt (HP.out.c 6 _ rfl)
      have qP7 := later_cell HP.out.lt (HP.out.c 7 _ rfl)
      have qP8 := later_cell HP.out.lt (HP.out.c 8 _ rfl)
      have qP9 := later_cell HP.out.lt (HP.out.c 9 _ rfl)
      have qP10 := later_cell HP.out.lt (HP.out.c 10 _ rfl)
      have qP11 := later_cell HP.out.lt (HP.out.c 11 _ rfl)
      have qV0 := later_cell HV.out.lt (HV.out.c 0 _ rfl)
      have qV1 := later_cell HV.out.lt (HV.out.c 1 _ rfl)
      have qV2 := later_cell HV.out.lt (HV.out.c 2 _ rfl)
      cases h1 : Op.bytesLess s.toList lo.toList
      · by_cases h2 : hi.toList = []
        · rw [h1, show (hi.toList == []) = true by rw [h2]; rfl] at HX
          have hx : x = true := by simpa using HX.out
          (refine wp_region_later (by kernel_rfl) (by kernel_rfl) ?_
           repeat (first | go_big_quiet_step (first | (go_at_call 16; with_reducible exact later_of (hof _)) | (go_at_call 17; with_reducible exact later_of (hha _)) | (go_at_call 12; with_reducible exact later_of (hnu _ _))) | quiet_step (first | (go_at_call 16; with_reducible exact later_of (hof _)) | (go_at_call 17; with_reducible exact later_of (hha _)) | (go_at_call 12; with_reducible exact later_of (hnu _ _))))
           refine wpQuiet_nil ?_
           intro _ hw'
           obtain ⟨qL, hw''⟩ := hw'
           subst hw''
           obtain ⟨wL, h⟩ := qL)
          dsimp only
          go_wp2
          go_ret
          exact ⟨ret_bool (by simp [hx]), below_step' HF.out h⟩
        · have h2' : (hi.toList == []) = false := by rw [beq_eq_false_iff_ne]; exact h2
          rw [h1, h2'] at HX
          cases h3 : Op.bytesLess s.toList hi.toList
          · have hx : x = false := by have q := HX.out; rw [h3] at q; simpa using q
            (refine wp_region_later (by kernel_rfl) (by kernel_rfl) ?_
             repeat (first | go_big_quiet_step (first | (go_at_call 16; with_reducible exact later_of (hof _)) | (go_at_call 17; with_reducible exact later_of (hha _)) | (go_at_call 12; with_reducible exact later_of (hnu _ _))) | quiet_step (first | (go_at_call 16; with_reducible exact later_of (hof _)) | (go_at_call 17; with_reducible exact later_of (hha _)) | (go_at_call 12; with_reducible exact later_of (hnu _ _))))
             refine wpQuiet_nil ?_
             intro _ hw'
             obtain ⟨qL, hw''⟩ := hw'
             subst hw''
             obtain ⟨wL, h⟩ := qL)
            dsimp only
            go_wp2
            go_ret
            exact ⟨ret_bool (by simp [hx]), below_step' HF.out h⟩
          · have hx : x = true := by have q := HX.out; rw [h3] at q; simpa using q
            (refine wp_region_later (by kernel_rfl) (by kernel_rfl) ?_
             repeat (first | go_big_quiet_step (first | (go_at_call 16; with_reducible exact later_of (hof _)) | (go_at_call 17; with_reducible exact later_of (hha _)) | (go_at_call 12; with_reducible exact later_of (hnu _ _))) | quiet_step (first | (go_at_call 16; with_reducible exact later_of (hof _)) | (go_at_call 17; with_reducible exact later_of (hha _)) | (go_at_call 12; with_reducible exact later_of (hnu _ _))))
             refine wpQuiet_nil ?_
             intro _ hw'
             obtain ⟨qL, hw''⟩ := hw'
             subst hw''
             obtain ⟨wL, h⟩ := qL)
            dsimp only
            go_wp2
            go_ret
            exact ⟨ret_bool (by simp [hx]), below_step' HF.out h⟩
      · have hx : x = false := by have q := HX.out; rw [h1] at q; simpa using q
        (refine wp_region_later (by kernel_rfl) (by kernel_rfl) ?_
         repeat (first | go_big_quiet_step (first | (go_at_call 16; with_reducible exact later_of (hof _)) | (go_at_call 17; with_reducible exact later_of (hha _)) | (go_at_call 12; with_reducible exact later_of (hnu _ _))) | quiet_step (first | (go_at_call 16; with_reducible exact later_of (hof _)) | (go_at_call 17; with_reducible exact later_of (hha _)) | (go_at_call 12; with_reducible exact later_of (hnu _ _))))
         refine wpQuiet_nil ?_
         intro _ hw'
         obtain ⟨qL, hw''⟩ := hw'
         subst hw''
         obtain ⟨wL, h⟩ := qL)
        dsimp only
        go_wp2
        go_ret
        exact ⟨ret_bool (by simp [hx]), below_step' HF.out h⟩
    · go_wp2
      go_ret
      exact ⟨rfl, HF.out⟩
  · have HX : Hid (ke = 0 → ee = 0 → x = false) := Lib.hid (fun g1 g2 => HLAW2.out (by
      have q := HBB.out
      simp [g1, g2] at q
      exact q))
    clear HLAW HLAW2 HBB
    go_upto_region 6 with (fail)
    have qP0 := later_cell HP.out.lt (HP.out.c 0 _ rfl)
    have qP1 := later_cell HP.out.lt (HP.out.c 1 _ rfl)
    have qP2 := later_cell HP.out.lt (HP.out.c 2 _ rfl)
    have qP3 := later_cell HP.out.lt (HP.out.c 3 _ rfl)
    have qP4 := later_cell HP.out.lt (HP.out.c 4 _ rfl)
    have qP5 := later_cell HP.out.lt (HP.out.c 5 _ rfl)
    have qP6 := later_cell HP.out.lt (HP.out.c 6 _ rfl)
    have qP7 := later_cell HP.out.lt (HP.out.c 7 _ rfl)
    have qP8 := later_cell HP.out.lt (HP.out.c 8 _ rfl)
    have qP9 := later_cell HP.out.lt (HP.out.c 9 _ rfl)
    have qP10 := later_cell HP.out.lt (HP.out.c 10 _ rfl)
    have qP11 := later_cell HP.out.lt (HP.out.c 11 _ rfl)
    have qV0 := later_cell HV.out.lt (HV.out.c 0 _ rfl)
    have qV1 := later_cell HV.out.lt (HV.out.c 1 _ rfl)
    have qV2 := later_cell HV.out.lt (HV.out.c 2 _ rfl)
    by_cases q1 : ke = 0
    · subst q1
      by_cases q2 : ee = 0
      · subst q2
        obtain rfl : x = false := HX.out rfl rfl
        (refine wp_region_later (by kernel_rfl) (by kernel_rfl) ?_
         repeat (first | go_big_quiet_step (first | (go_at_call 16; with_reducible exact later_of (hof _)) | (go_at_call 17; with_reducible exact later_of (hha _)) | (go_at_call 12; with_reducible exact later_of (hnu _ _))) | quiet_step (first | (go_at_call 16; with_reducible exact later_of (hof _)) | (go_at_call 17; with_reducible exact later_of (hha _)) | (go_at_call 12; with_reducible exact later_of (hnu _ _))))
         refine wpQuiet_nil ?_
         intro _ hw'
         obtain ⟨qL, hw''⟩ := hw'
         subst hw''
         obtain ⟨wL, h⟩ := qL)
        dsimp only
        go_wp2
        go_ret
        exact ⟨rfl, below_step' HF.out h⟩
      · clear HX
        (refine wp_region_later (by kernel_rfl) (by kernel_rfl) ?_
         repeat (first | go_big_quiet_step (first | (go_at_call 16; with_reducible exact later_of (hof _)) | (go_at_call 17; with_reducible exact later_of (hha _)) | (go_at_call 12; with_reducible exact later_of (hnu _ _))) | quiet_step (first | (go_at_call 16; with_reducible exact later_of (hof _)) | (go_at_call 17; with_reducible exact later_of (hha _)) | (go_at_call 12; with_reducible exact later_of (hnu _ _))))
         refine wpQuiet_nil ?_
         intro _ hw'
         obtain ⟨qL, hw''⟩ := hw'
         subst hw''
         obtain ⟨wL, h⟩ := qL)
        dsimp only
        go_wp2
        go_ret
        exact ⟨rfl, below_step' HF.out h⟩
    · clear HX
      (refine wp_region_later (by kernel_rfl) (by kernel_rfl) ?_
       repeat (first | go_big_quiet_step (first | (go_at_call 16; with_reducible exact later_of (hof _)) | (go_at_call 17; with_reducible exact later_of (hha _)) | (go_at_call 12; with_reducible exact later_of (hnu _ _))) | quiet_step (first | (go_at_call 16; with_reducible exact later_of (hof _)) | (go_at_call 17; with_reducible exact later_of (hha _)) | (go_at_call 12; with_reducible exact later_of (hnu _ _))))
       refine wpQuiet_nil ?_
       intro _ hw'
       obtain ⟨qL, hw''⟩ := hw'
       subst hw''
       obtain ⟨wL, h⟩ := qL)
      dsimp only
      go_wp2
      go_ret
      exact ⟨rfl, below_step' HF.out h⟩
end Go.Proofs.Ytfmfmammcjpboaa
