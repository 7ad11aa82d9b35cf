/- The page's locks: Own, put. -/
import Derived.Test.YtdiclnkkddnncaaRL2
import Derived.Test.YtdiclnkkddnncaaLkX
import Derived.Test.YtdiclnkkddnncaaWidenW
import Derived.Maps.AppendAt
import Derived.Lib.AppendZeros
namespace Go.Proofs.Ytdiclnkkddnncaa
open Go.RowKit
open Go.Shelf
set_option linter.unusedVariables false
set_option linter.unusedSimpArgs false
theorem infoK : ∃ i0, Try.prog.info? 26 = some i0 ∧ i0.zero = some (.agg #[.int .i64 0, .string ⟨#[]⟩, .string ⟨#[]⟩]) ∧ i0.size = 3 ∧ i0.bytes = 40 :=
  info_parts (show (Try.prog.info? 26).map (fun i => (i.zero, i.size, i.bytes)) = some (some (.agg #[.int .i64 0, .string ⟨#[]⟩, .string ⟨#[]⟩]), 3, 40) by kernel_rfl)
/-- 'append(row, locks..)'. -/
theorem app_lks (w : World) (ty : TypeId) (base : Nat) (v0 : Value) (n : Nat) (xs : List Value) (h0 : w.ownsRow base 26 3 v0 n xs) (A : Option Addr) (c m : Nat) (l : List Lk) (hm : m = l.length) (HR : RowE encL 3 w A l) (hn : A = none → c = 0) (hl : (n + l.length) * 40 ≤ 140737488355328) (hb : base ≤ w.heap.size) :
    ∃ v' w', (Builtin.append_ #[22, 22] ty #[v0, .slice A m c]).run Try.prog w = .ok v' w' ∧ w'.ownsRow base 26 3 v' (n + l.length) (xs ++ l.flatMap encL) ∧ Below base w w' := by
  obtain ⟨iS, hiS1, hiS2, hiS3, hiS4⟩ := infoK
  subst hm
  cases A with
  | none =>
    obtain rfl : l = [] := by
      cases l with
      | nil => rfl
      | cons k m => obtain ⟨b, off, e2, _⟩ := HR 0 k rfl; cases e2
    obtain rfl := hn rfl
    exact ⟨_, w, run_append_owned_none (P := Try.prog) (w := w) base 22 ty 26 iS 3 Try.underlying22 hiS1 v0 n xs h0, by simpa using h0, Below.refl _ _⟩
  | some ad =>
    have hc : ∀ j u, (l.flatMap encL)[j]? = some u → w.cell? (ad.add j) = some u := fun j u hu => by
      by_cases h0 : l = []
      · subst h0; simp at hu
      · obtain ⟨b, off, hA, hlt, hc⟩ := HR.cells encL_len (by decide) h0
        obtain rfl : ad = ⟨b, off, none⟩ := Option.some.inj hA
        rw [Addr.add_lit]; exact hc j u hu
    obtain ⟨v', w', hrun, h1, h2, _⟩ := run_append_own_at (P := Try.prog) w base 22 ty 26 iS _ 3 40 Try.underlying22 hiS1 hiS2 hiS3 hiS4 rfl (by decide) v0 n xs h0 ad l.length c (l.flatMap encL) (by rw [flat_len encL_len]) hc (encL_one l) (by simp only [maxLen]; omega) (by omega) hb
    exact ⟨v', w', hrun, h1, (Below.refl base w).grown h2 hb (fun k hk => (h0.lt k hk).1)⟩
theorem RowE.taken {w : World} {A : Option Addr} {l : List Lk} (h : RowE encL 3 w A l) (i : Nat) : RowE encL 3 w A (l.take i) := fun j x hj => by
  rw [List.getElem?_take] at hj
  split at hj
  · obtain ⟨b, off, hA, hlt, hc⟩ := h j x hj
    refine ⟨b, off, hA, hlt, fun j x hj => ?_⟩
    rw [List.getElem?_take] at hj
    split at hj
    · exact hc j x hj
    · cases hj
  · cases hj
theorem RowE.dropped {w : World} {b off : Nat} {l : List Lk} (h : RowE encL 3 w (some ⟨b, off, none⟩) l) (i : Nat) : RowE encL 3 w (some ⟨b, off + i * 3, none⟩) (l.drop i) := fun j x hj => by
  rw [List.getElem?_drop] at hj
  obtain ⟨b', off', hA, hlt, hc⟩ := h _ x hj
  obtain ⟨rfl, rfl⟩ : b = b' ∧ off = off' := by simpa using hA
  refine ⟨b, off + i * 3, rfl, hlt, fun j x hj k v hv => ?_⟩
  rw [List.getElem?_drop] at hj
  have := hc (i + j) x hj k v hv
  rw [show off + i * 3 + j * 3 + k = off + (i + j) * 3 + k by rw [Nat.add_mul]; omega]; exact this
set_option maxHeartbeats 4000000 in
set_option maxRecDepth 100000 in
theorem rlown_any (A : Option Addr) (c : Nat) (l : List Lk) (w : World) (HR : RowE encL 3 w A l) (hn : A = none → c = 0) (hl : l.length * 40 ≤ 140737488351232) :
    Calls Try.prog 39 #[.agg #[.slice A l.length c]] w fun e w' => ∃ v, e = .returned (.agg #[v]) ∧ SlB encL 3 w.heap.size w' v l ∧ Below w.heap.size w w' := by
  have BC := Lib.hid ((Box.new w #[.slice A l.length c] 24).alloc (.cells #[.slice none 0 0] 24))
  have BR := Lib.hid (Box.new (w.alloc (.cells #[.slice A l.length c] 24)) #[.slice none 0 0] 24)
  have h0 : Below w.heap.size w ((w.alloc (.cells #[.slice A l.length c] 24)).alloc (.cells #[.slice none 0 0] 24)) := (by (repeat (first | (with_reducible exact Below.refl _ _) | apply below_alloc _ (Nat.le_refl _) | refine below_set ?_ (by first | exact Nat.le_refl _ | omega) | apply below_drewN | refine below_step ?_ HB)))
  have HRx := HR.below h0
  have HF := Lib.hid h0
  simp only [World.size_alloc] at BR
  clear h0 HR
  go_enter Try.func39, Try.ntmps39
  go_upto_region 2 with (fail)
  generalize (w.alloc (.cells #[.slice A l.length c] 24)).alloc (.cells #[.slice none 0 0] 24) = w0 at *
  have hz : w.heap.size + 2 ≤ w0.heap.size := BR.out.lt
  obtain ⟨v', w1, hrun, ho, hb⟩ := app_lks w0 22 (w.heap.size + 2) (.slice none 0 0) 0 [] (World.ownsRow_nil _ _ _ _) A c l.length l rfl HRx hn (by omega) hz
  rw [Nat.zero_add, List.nil_append] at ho
  obtain ⟨A1, c1, rfl, _, _⟩ := own_slice ho
  have BR1 := Lib.hid (BR.out.below hb (by omega))
  have HF1 := Lib.hid (HF.out.trans (hb.mono (by omega)))
  have HS := Lib.hid (SlB.of_own (N := w.heap.size + 2) encL_len (by decide) (Nat.le_refl _) ho)
  clear hb HRx ho
  have cBC0 := BC.out.c 0 _ rfl; have fBC0 := BC.out.f 0 (by simp); have lBC := BC.out.lt
  go_wp2_with (at_builtin; refine Lib.wpList_append_run _ rfl _ _ _ _ rfl _ _ rfl rfl _ _ hrun ?_; clear cBC0 fBC0 lBC; have cBR10 := BR1.out.c 0 _ rfl; have fBR10 := BR1.out.f 0 (by simp); have lBR1 := BR1.out.lt)
  have BX := Lib.hid (BR1.out.set 0 (.slice A1 l.length c1) (by simp))
  have HX := Lib.hid (below_set (g := w.heap.size + 1) (j := 0) (v := .slice A1 l.length c1) HF1.out (Nat.le_succ _))
  have HV := Lib.hid ((HS.out.set ⟨w.heap.size + 1, 0, none⟩ (.slice A1 l.length c1) (by show w.heap.size + 1 < w.heap.size + 2; omega)).mono (M := w.heap.size) (by omega))
  clear cBR10 fBR10 lBR1
  generalize w1.setCell ⟨w.heap.size + 1, 0, none⟩ (.slice A1 l.length c1) = wz at *
  have cBX0 := BX.out.c 0 _ rfl
  refine bodyPost_ret (v := .agg #[.slice A1 l.length c1]) (by simp [results, Try.results39, go_sem, cBX0]) rfl ?_
  exact ⟨_, rfl, HV.out, HX.out⟩
/-- Where a lock goes. -/
def placeB : List Lk → Lk → Nat
  | [], _ => 0
  | a :: l, x => if beforeB a x = true then placeB l x + 1 else 0
def putB (l : List Lk) (x : Lk) : List Lk := l.take (placeB l x) ++ x :: l.drop (placeB l x)
theorem placeB_le : ∀ (l : List Lk) (x : Lk), placeB l x ≤ l.length
  | [], _ => Nat.zero_le _
  | a :: l, x => by
    have := placeB_le l x
    unfold placeB; split <;> simp <;> omega
theorem placeB_low : ∀ (l : List Lk) (x : Lk) (k : Nat) (y : Lk), k < placeB l x → l[k]? = some y → beforeB y x = true
  | [], x, k, y, h, _ => by simp [placeB] at h
  | a :: l, x, k, y, h, hy => by
    by_cases q : beforeB a x = true
    · cases k with
      | zero => simp at hy; subst hy; exact q
      | succ k =>
        simp only [placeB, q, if_true] at h
        exact placeB_low l x k y (by omega) (by simpa using hy)
    · simp [placeB, q] at h
theorem placeB_stop : ∀ (l : List Lk) (x z : Lk), l[placeB l x]? = some z → beforeB z x = false
  | [], x, z, h => by simp at h
  | a :: l, x, z, h => by
    by_cases q : beforeB a x = true
    · simp only [placeB, q, if_true] at h
      exact placeB_stop l x z (by simpa using h)
    · simp only [placeB, if_neg q] at h
      obtain rfl : a = z := by simpa using h
      simpa using q
theorem placeB_eq : ∀ (l : List Lk) (x : Lk) (j : Nat), j ≤ l.length → (∀ (k : Nat) (y : Lk), k < j → l[k]? = some y → beforeB y x = true) → (∀ y, l[j]? = some y → beforeB y x = false) → placeB l x = j
  | [], x, j, h, _, _ => by simp at h; subst h; rfl
  | a :: l, x, 0, _, _, h2 => by
    have := h2 a rfl
    simp [placeB, this]
  | a :: l, x, j + 1, h, h1, h2 => by
    have := h1 0 a (by omega) rfl
    have ih := placeB_eq l x j (by simpa using h) (fun k y hk hy => h1 (k + 1) y (by omega) (by simpa using hy)) (fun y hy => h2 y (by simpa using hy))
    simp [placeB, this, ih]
theorem put_same {l : List Lk} (x : Lk) (h : Inc l) : putB l x = putL l x := by
  have h1 : ∀ (k : Nat) (y : Lk), k < placeB l x → l[k]? = some y → llt y x := fun k y hk hy => by
    have hb := placeB_low l x k y hk hy
    rw [before_order] at hb
    exact (lorder_neg y x).1 (of_decide_eq_true hb)
  have h2 : ∀ (k : Nat) (y : Lk), placeB l x ≤ k → l[k]? = some y → ¬ llt y x := fun k y hk hy hlt => by
    obtain ⟨z, hz⟩ : ∃ z, l[placeB l x]? = some z := ⟨_, List.getElem?_eq_getElem (by have := lt_of_get hy; omega)⟩
    have hzf : ¬ llt z x := fun hz2 => by
      have hb := placeB_stop l x z hz
      rw [before_order] at hb
      exact absurd ((lorder_neg z x).2 hz2) (of_decide_eq_false hb)
    rcases Nat.lt_or_ge (placeB l x) k with hk2 | hk2
    · exact hzf (llt_trans (inc_get h hz hy hk2) hlt)
    · obtain rfl : placeB l x = k := by omega
      rw [hz] at hy; cases hy; exact hzf hlt
  unfold putL
  rw [place_is (placeB_le l x) h1 h2]
  rfl
set_option maxHeartbeats 4000000 in
set_option maxRecDepth 100000 in
theorem rlput_some (b1 o1 c : Nat) (l : List Lk) (x : Lk) (w : World) (HR : RowE encL 3 w (some ⟨b1, o1, none⟩) l) (hl : l.length ≤ 1000) (hc : l.length ≤ c) :
    Calls Try.prog 42 #[.slice (some ⟨b1, o1, none⟩) l.length c, .agg #[.int .i64 x.tx, .string x.lo, .string x.hi]] w fun e w' => ∃ v, e = .returned v ∧ SlB encL 3 w.heap.size w' v (putB l x) ∧ Below w.heap.size w w' := by
  obtain ⟨tx, lo, hi⟩ := x
  have BX := Lib.hid (Box.new w #[.int .i64 tx, .string lo, .string hi] 26)
  have h0 : Below w.heap.size w (w.alloc (.cells #[.int .i64 tx, .string lo, .string hi] 26)) := (by (repeat (first | (with_reducible exact Below.refl _ _) | apply below_alloc _ (Nat.le_refl _) | refine below_set ?_ (by first | exact Nat.le_refl _ | omega) | apply below_drewN | refine below_step ?_ HB)))
  have RR := Lib.hid (HR.below h0)
  have HF := Lib.hid h0
  clear h0 HR
  dsimp only
  go_enter Try.func42, Try.ntmps42
  go_upto_region 1 with (fail)
  generalize w.alloc (.cells #[.int .i64 tx, .string lo, .string hi] 26) = w0 at *
  go_wp2_with fail
  go_loopw [5] (fun s5 wr => ∃ j : Nat, j ≤ l.length ∧ s5 = .int .i64 j ∧ Hid (Below w0.heap.size w0 wr) ∧ Hid (∀ (k : Nat) (y : Lk), k < j → l[k]? = some y → beforeB y ⟨tx, lo, hi⟩ = true)) (fun s5 _ => l.length - (Lib.intOf s5).toNat)
  case atStart => exact ⟨0, Nat.zero_le _, rfl, Lib.hid (Below.refl _ _), Lib.hid (fun k y h => absurd h (Nat.not_lt_zero _))⟩
  case round =>
    obtain ⟨j, hj, rfl, HB, HN⟩ := hrel
    have BXr := Lib.hid (BX.out.step HB.out)
    have p0 := later_cell BXr.out.lt (BXr.out.c 0 _ rfl)
    have p1 := later_cell BXr.out.lt (BXr.out.c 1 _ rfl)
    have p2 := later_cell BXr.out.lt (BXr.out.c 2 _ rfl)
    by_cases hlt : j < l.length
    · obtain ⟨y, hy⟩ : ∃ y, l[j]? = some y := ⟨_, List.getElem?_eq_getElem hlt⟩
      obtain ⟨b0, off, e9, hb0, g0, g1, g2⟩ := RR.out.tri hy HB.out
      obtain ⟨rfl, rfl⟩ : b1 = b0 ∧ o1 = off := by simpa using e9
      have lb0 : b1 < wr.heap.size := World.block_lt_of_cell? _ _ g0
      have q0 := later_cell lb0 g0
      have q1 := later_cell lb0 g1
      have q2 := later_cell lb0 g2
      have i1 : (j : Int) < (l.length : Int) := by omega
      clear e9
      have i2 : decide ((j : Int) < (l.length : Int)) = true := decide_eq_true i1
      have i3 : decide (j < l.length) = true := decide_eq_true hlt
      have O := fun W => rbefore_any y ⟨tx, lo, hi⟩ W
      have HN2 : Hid (beforeB y ⟨tx, lo, hi⟩ = true → ∀ (k : Nat) (z : Lk), k < j + 1 → l[k]? = some z → beforeB z ⟨tx, lo, hi⟩ = true) := Lib.hid (fun hb k z hk hz => by
        by_cases e : k = j
        · subst e; rw [hy] at hz; cases hz; exact hb
        · exact HN.out k z (by omega) hz)
      have HP : Hid (beforeB y ⟨tx, lo, hi⟩ = false → placeB l ⟨tx, lo, hi⟩ = j) := Lib.hid (fun hb => placeB_eq l _ j hj HN.out (fun z hz => by rw [hy] at hz; cases hz; exact hb))
      clear HN hy g0 g1 g2
      obtain ⟨ytx, ylo, yhi⟩ := y
      dsimp only at *
      generalize beforeB ⟨ytx, ylo, yhi⟩ ⟨tx, lo, hi⟩ = bb at *
      cases bb with
      | true =>
        have HN3 := Lib.hid (HN2.out rfl)
        clear HN2 HP
        go_wp2_with fail
        (refine wp_region_later (by kernel_rfl) (by kernel_rfl) ?_
         repeat (first | go_big_quiet_step ((go_at_call 45; exact later_of (O _))) | quiet_step ((go_at_call 45; exact later_of (O _))))
         refine wpQuiet_nil ?_
         intro _ hw'
         obtain ⟨qL, hw''⟩ := hw'
         subst hw''
         obtain ⟨wL, h⟩ := qL)
        go_wp2_with fail
        go_roundw
        case rel => exact ⟨j + 1, by omega, by go_num, Lib.hid (below_step' HB.out h), HN3⟩
        case measure => simp [Lib.intOf]; omega
      | false =>
        have HP2 := Lib.hid (HP.out rfl)
        clear HN2 HP
        go_wp2_with fail
        (refine wp_region_later (by kernel_rfl) (by kernel_rfl) ?_
         repeat (first | go_big_quiet_step ((go_at_call 45; exact later_of (O _))) | quiet_step ((go_at_call 45; exact later_of (O _))))
         refine wpQuiet_nil ?_
         intro _ hw'
         obtain ⟨qL, hw''⟩ := hw'
         subst hw''
         obtain ⟨wL, h⟩ := qL)
        have HBx := Lib.hid (below_step' HB.out h)
        have BXL := Lib.hid (BX.out.step HBx.out)
        have RRL := Lib.hid (RR.out.below HBx.out)
        have HFL := Lib.hid (below_step' HF.out HBx.out)
        have hzL := HFL.out.size
        have hJ : j ≤ l.length := by omega
        obtain ⟨v1, w1, hrun1, ho1, hb1⟩ := app_lks wL 22 wL.heap.size (.slice none 0 0) 0 [] (World.ownsRow_nil _ _ _ _) (some ⟨b1, o1, none⟩) c j (l.take j) (by simp <;> omega) (RRL.out.taken j) (fun h => by cases h) (by simp <;> omega) (Nat.le_refl _)
        have hs1 := hb1.size
        have BX1 := Lib.hid (BXL.out.below hb1 BXL.out.lt)
        have hab : Below wL.heap.size wL (w1.alloc (.cells #[.int .i64 tx, .string lo, .string hi] 26)) := hb1.alloc hs1 _
        obtain ⟨v2, w2, hrun2, ho2, hb2⟩ := app_lks (w1.alloc (.cells #[.int .i64 tx, .string lo, .string hi] 26)) 22 wL.heap.size v1 _ _ (ho1.alloc _) (some ⟨w1.heap.size, 0, none⟩) 1 1 [⟨tx, lo, hi⟩] rfl (RowE.lit encL_len (heap_alloc_new w1 _) (by simp [encL])) (fun h => by cases h) (by simp <;> omega) hab.size
        have hb12 := hab.trans hb2
        have z1 : (j : Int) ≤ (l.length : Int) := by omega
        have z2 : (l.length : Int) ≤ (c : Int) := by omega
        have z3 : (j : Int) ≤ (c : Int) := by omega
        by_cases hci : c = j
        · exact absurd hci (by omega)
        · have hz0 : ¬ c = j := hci
          have hz5 : ¬ c - j = 0 := by omega
          obtain ⟨v3, w3, hrun3, ho3, hb3⟩ := app_lks w2 22 wL.heap.size v2 _ _ ho2 (some ⟨b1, o1 + j * 3, none⟩) (c - j) (l.length - j) (l.drop j) (by simp <;> omega) ((RRL.out.dropped j).below (by rw [show wL.heap.size = wL.heap.size from rfl]; exact hb12)) (fun h => by cases h) (by simp <;> omega) hb12.size
          have HFe : Hid (Below w.heap.size w w3) := Lib.hid (HFL.out.trans ((hb12.trans hb3).mono hzL))
          have HV : Hid (SlB encL 3 w.heap.size w3 v3 (putB l ⟨tx, lo, hi⟩)) := Lib.hid (SlB.of_own (l := putB l ⟨tx, lo, hi⟩) encL_len (by decide) hzL (by rw [putB, HP2.out]; have := ho3; simpa using this))
          clear ho1 ho2 ho3 hb1 hb2 hb3 hab hb12 RRL HBx HFL hs1
          have cBX10 := BX1.out.c 0 _ rfl; have fBX10 := BX1.out.f 0 (by simp); have cBX11 := BX1.out.c 1 _ rfl; have fBX11 := BX1.out.f 1 (by simp); have cBX12 := BX1.out.c 2 _ rfl; have fBX12 := BX1.out.f 2 (by simp); have lBX1 := BX1.out.lt
          go_wp2_with (at_builtin; first | refine Lib.wpList_append_run _ rfl _ _ _ _ rfl _ _ rfl rfl _ _ hrun1 ?_ | refine Lib.wpList_append_run _ rfl _ _ _ _ rfl _ _ rfl rfl _ _ hrun2 ?_ | refine Lib.wpList_append_run _ rfl _ _ _ _ rfl _ _ rfl rfl _ _ hrun3 ?_)
          go_ret
          exact ⟨v3, rfl, HV.out, HFe.out⟩
    · obtain rfl : j = l.length := by omega
      have i2 : decide ((l.length : Int) < (l.length : Int)) = false := by simp
      have HP2 : Hid (placeB l ⟨tx, lo, hi⟩ = l.length) := Lib.hid (placeB_eq l _ _ (Nat.le_refl _) HN.out (fun y hy => by have := lt_of_get hy; omega))
      clear HN
      go_wp2_with fail
      (refine wp_region_later (by kernel_rfl) (by kernel_rfl) ?_
       repeat (first | go_big_quiet_step (fail) | quiet_step (fail))
       refine wpQuiet_nil ?_
       intro _ hw'
       obtain ⟨qL, hw''⟩ := hw'
       subst hw''
       obtain ⟨wL, h⟩ := qL)
      have HBx := Lib.hid (below_step' HB.out h)
      have BXL := Lib.hid (BX.out.step HBx.out)
      have RRL := Lib.hid (RR.out.below HBx.out)
      have HFL := Lib.hid (below_step' HF.out HBx.out)
      have hzL := HFL.out.size
      have hJ : l.length ≤ l.length := by omega
      obtain ⟨v1, w1, hrun1, ho1, hb1⟩ := app_lks wL 22 wL.heap.size (.slice none 0 0) 0 [] (World.ownsRow_nil _ _ _ _) (some ⟨b1, o1, none⟩) c l.length (l.take l.length) (by simp <;> omega) (RRL.out.taken l.length) (fun h => by cases h) (by simp <;> omega) (Nat.le_refl _)
      have hs1 := hb1.size
      have BX1 := Lib.hid (BXL.out.below hb1 BXL.out.lt)
      have hab : Below wL.heap.size wL (w1.alloc (.cells #[.int .i64 tx, .string lo, .string hi] 26)) := hb1.alloc hs1 _
      obtain ⟨v2, w2, hrun2, ho2, hb2⟩ := app_lks (w1.alloc (.cells #[.int .i64 tx, .string lo, .string hi] 26)) 22 wL.heap.size v1 _ _ (ho1.alloc _) (some ⟨w1.heap.size, 0, none⟩) 1 1 [⟨tx, lo, hi⟩] rfl (RowE.lit encL_len (heap_alloc_new w1 _) (by simp [encL])) (fun h => by cases h) (by simp <;> omega) hab.size
      have hb12 := hab.trans hb2
      have z1 : (l.length : Int) ≤ (l.length : Int) := by omega
      have z2 : (l.length : Int) ≤ (c : Int) := by omega
      have z3 : (l.length : Int) ≤ (c : Int) := by omega
      by_cases hci : c = l.length
      · have hz0 : c - l.length = 0 := by omega
        obtain ⟨v3, w3, hrun3, ho3, hb3⟩ := app_lks w2 22 wL.heap.size v2 _ _ ho2 (some ⟨b1, o1, none⟩) (c - l.length) (l.length - l.length) (l.drop l.length) (by simp <;> omega) (by rw [List.drop_eq_nil_of_le (by omega)]; exact RowE.nil) (fun h => by cases h) (by simp <;> omega) hb12.size
        have HFe : Hid (Below w.heap.size w w3) := Lib.hid (HFL.out.trans ((hb12.trans hb3).mono hzL))
        have HV : Hid (SlB encL 3 w.heap.size w3 v3 (putB l ⟨tx, lo, hi⟩)) := Lib.hid (SlB.of_own (l := putB l ⟨tx, lo, hi⟩) encL_len (by decide) hzL (by rw [putB, HP2.out]; have := ho3; simpa using this))
        clear ho1 ho2 ho3 hb1 hb2 hb3 hab hb12 RRL HBx HFL hs1
        have hz4 : l.length - l.length = 0 := by omega
        rw [hz0] at hrun3
        simp only [Nat.sub_self] at hrun3
        have cBX10 := BX1.out.c 0 _ rfl; have fBX10 := BX1.out.f 0 (by simp); have cBX11 := BX1.out.c 1 _ rfl; have fBX11 := BX1.out.f 1 (by simp); have cBX12 := BX1.out.c 2 _ rfl; have fBX12 := BX1.out.f 2 (by simp); have lBX1 := BX1.out.lt
        go_wp2_with (at_builtin; first | refine Lib.wpList_append_run _ rfl _ _ _ _ rfl _ _ rfl rfl _ _ hrun1 ?_ | refine Lib.wpList_append_run _ rfl _ _ _ _ rfl _ _ rfl rfl _ _ hrun2 ?_ | refine Lib.wpList_append_run _ rfl _ _ _ _ rfl _ _ rfl rfl _ _ hrun3 ?_)
        go_ret
        exact ⟨v3, rfl, HV.out, HFe.out⟩
      · have hz0 : ¬ c = l.length := hci
        have hz5 : ¬ c - l.length = 0 := by omega
        obtain ⟨v3, w3, hrun3, ho3, hb3⟩ := app_lks w2 22 wL.heap.size v2 _ _ ho2 (some ⟨b1, o1 + l.length * 3, none⟩) (c - l.length) (l.length - l.length) (l.drop l.length) (by simp <;> omega) ((RRL.out.dropped l.length).below (by rw [show wL.heap.size = wL.heap.size from rfl]; exact hb12)) (fun h => by cases h) (by simp <;> omega) hb12.size
        have HFe : Hid (Below w.heap.size w w3) := Lib.hid (HFL.out.trans ((hb12.trans hb3).mono hzL))
        have HV : Hid (SlB encL 3 w.heap.size w3 v3 (putB l ⟨tx, lo, hi⟩)) := Lib.hid (SlB.of_own (l := putB l ⟨tx, lo, hi⟩) encL_len (by decide) hzL (by rw [putB, HP2.out]; have := ho3; simpa using this))
        clear ho1 ho2 ho3 hb1 hb2 hb3 hab hb12 RRL HBx HFL hs1
        simp only [Nat.sub_self] at hrun3
        have cBX10 := BX1.out.c 0 _ rfl; have fBX10 := BX1.out.f 0 (by simp); have cBX11 := BX1.out.c 1 _ rfl; have fBX11 := BX1.out.f 1 (by simp); have cBX12 := BX1.out.c 2 _ rfl; have fBX12 := BX1.out.f 2 (by simp); have lBX1 := BX1.out.lt
        go_wp2_with (at_builtin; first | refine Lib.wpList_append_run _ rfl _ _ _ _ rfl _ _ rfl rfl _ _ hrun1 ?_ | refine Lib.wpList_append_run _ rfl _ _ _ _ rfl _ _ rfl rfl _ _ hrun2 ?_ | refine Lib.wpList_append_run _ rfl _ _ _ _ rfl _ _ rfl rfl _ _ hrun3 ?_)
        go_ret
        exact ⟨v3, rfl, HV.out, HFe.out⟩
set_option maxHeartbeats 4000000 in
set_option maxRecDepth 100000 in
theorem rlput_none (x : Lk) (w : World) :
    Calls Try.prog 42 #[.slice none 0 0, .agg #[.int .i64 x.tx, .string x.lo, .string x.hi]] w fun e w' => ∃ v, e = .returned v ∧ SlB encL 3 w.heap.size w' v (putB [] x) ∧ Below w.heap.size w w' := by
  obtain ⟨tx, lo, hi⟩ := x
  have BX := Lib.hid (Box.new w #[.int .i64 tx, .string lo, .string hi] 26)
  have h0 : Below w.heap.size w (w.alloc (.cells #[.int .i64 tx, .string lo, .string hi] 26)) := (by (repeat (first | (with_reducible exact Below.refl _ _) | apply below_alloc _ (Nat.le_refl _) | refine below_set ?_ (by first | exact Nat.le_refl _ | omega) | apply below_drewN | refine below_step ?_ HB)))
  have HF := Lib.hid h0
  clear h0
  dsimp only
  go_enter Try.func42, Try.ntmps42
  go_upto_region 1 with (fail)
  generalize w.alloc (.cells #[.int .i64 tx, .string lo, .string hi] 26) = w0 at *
  go_wp2_with fail
  go_loopw [5] (fun s5 wr => s5 = .int .i64 0 ∧ wr = w0) (fun s5 _ => 0)
  case atStart => exact ⟨rfl, rfl⟩
  case round =>
    obtain ⟨rfl, rfl⟩ := hrel
    have i2 : decide ((0 : Int) < 0) = false := by decide
    go_wp2_with fail
    (refine wp_region_later (by kernel_rfl) (by kernel_rfl) ?_
     repeat (first | go_big_quiet_step (fail) | quiet_step (fail))
     refine wpQuiet_nil ?_
     intro _ hw'
     obtain ⟨qL, hw''⟩ := hw'
     subst hw''
     obtain ⟨wL, h⟩ := qL)
    have HB := Lib.hid (Below.refl wr.heap.size wr)
    have HBx := h
    have BXL := Lib.hid (BX.out.step h)
    have HFL := Lib.hid (below_step' HF.out h)
    have hzL := HFL.out.size
    obtain ⟨v2, w2, hrun2, ho2, hb2⟩ := app_lks (wL.alloc (.cells #[.int .i64 tx, .string lo, .string hi] 26)) 22 wL.heap.size (.slice none 0 0) 0 [] (World.ownsRow_nil _ _ _ _) (some ⟨wL.heap.size, 0, none⟩) 1 1 [⟨tx, lo, hi⟩] rfl (RowE.lit encL_len (heap_alloc_new wL _) (by simp [encL])) (fun h => by cases h) (by simp) (by simp)
    have hb12 := ((Below.refl wL.heap.size wL).alloc (Nat.le_refl _) (.cells #[.int .i64 tx, .string lo, .string hi] 26)).trans hb2
    have HFe : Hid (Below w.heap.size w w2) := Lib.hid (HFL.out.trans (hb12.mono hzL))
    have HV : Hid (SlB encL 3 w.heap.size w2 v2 (putB [] ⟨tx, lo, hi⟩)) := Lib.hid (SlB.of_own (l := [⟨tx, lo, hi⟩]) encL_len (by decide) hzL (by simpa using ho2))
    obtain ⟨iS, hiS1, hiS2, hiS3, hiS4⟩ := infoK
    have hrun1 : ∀ W : World, (Builtin.append_ #[22, 22] 22 #[.slice none 0 0, .slice none 0 0]).run Try.prog W = .ok (.slice none 0 0) W := fun W => run_append_owned_none (P := Try.prog) (w := W) 0 22 _ 26 iS 3 Try.underlying22 hiS1 _ 0 [] (World.ownsRow_nil _ _ _ _)
    have hrun3 : (Builtin.append_ #[22, 22] 22 #[v2, .slice none 0 0]).run Try.prog w2 = .ok v2 w2 := run_append_owned_none (P := Try.prog) (w := w2) wL.heap.size 22 _ 26 iS 3 Try.underlying22 hiS1 _ _ _ ho2
    have HR1 := Lib.hid hrun1
    have HR3 := Lib.hid hrun3
    clear ho2 hb2 hb12 HFL HB hrun1 hrun3 hiS1 hiS2 hiS3 hiS4
    have cBXL0 := BXL.out.c 0 _ rfl; have fBXL0 := BXL.out.f 0 (by simp); have cBXL1 := BXL.out.c 1 _ rfl; have fBXL1 := BXL.out.f 1 (by simp); have cBXL2 := BXL.out.c 2 _ rfl; have fBXL2 := BXL.out.f 2 (by simp); have lBXL := BXL.out.lt
    go_upto_region 6 with (at_builtin; refine Lib.wpList_append_run _ rfl _ _ _ _ rfl _ _ rfl rfl _ _ (HR1.out _) ?_)
    go_upto_region 7 with (at_builtin; refine Lib.wpList_append_run _ rfl _ _ _ _ rfl _ _ rfl rfl _ _ hrun2 ?_)
    go_wp2_with (at_builtin; refine Lib.wpList_append_run _ rfl _ _ _ _ rfl _ _ rfl rfl _ _ HR3.out ?_)
    go_ret
    exact ⟨v2, rfl, HV.out, HFe.out⟩
theorem rlput_own {base : Nat} {w : World} {v : Value} {l : List Lk} (x : Lk) (h : w.ownsRow base 26 3 v l.length (l.flatMap encL)) (hl : l.length ≤ 1000) :
    Calls Try.prog 42 #[v, .agg #[.int .i64 x.tx, .string x.lo, .string x.hi]] w fun e w' => ∃ v, e = .returned v ∧ SlB encL 3 w.heap.size w' v (putB l x) ∧ Below w.heap.size w w' := by
  obtain ⟨A, c, rfl, hc, hn, hr⟩ : ∃ A c, v = .slice A l.length c ∧ l.length ≤ c ∧ (A = none → c = 0) ∧ RowE encL 3 w A l := by
    obtain ⟨A, c, h1, h2, h3, h4⟩ := SlE.of_own encL_len (by decide) h
    exact ⟨A, c, h1, h2, h4, h3⟩
  rcases h.2 with ⟨h', h0⟩ | ⟨g, cap, cur, h', _⟩
  · obtain rfl : l = [] := List.eq_nil_of_length_eq_zero h0
    obtain ⟨rfl, _, rfl⟩ : A = none ∧ True ∧ c = 0 := by simpa using h'
    exact rlput_none x w
  · obtain ⟨rfl, _⟩ : A = some ⟨g, 0, none⟩ ∧ c = cap := by simpa using h'
    exact rlput_some g 0 c l x w hr hl hc
end Go.Proofs.Ytdiclnkkddnncaa
