/- Package gc: Clone. -/
import Derived.Test.YtpkacnoimdjckaaCloneV
namespace Go.Proofs.Ytpkacnoimdjckaa
open Go.RowKit
open Go.Shelf
set_option linter.unusedVariables false
set_option linter.unusedSimpArgs false
theorem SlX.grown {X : Nat → Prop} {w w' : World} {v : Value} {l : List Ver} {row : Option Nat} (h : SlX X w v l) (hg : w.grownBy w' row) (hX : ∀ b, row = some b → X b) : SlX X w' v l := by
  obtain ⟨A, c, h1, h2, h3, h4, h5⟩ := h
  exact ⟨A, c, h1, h2, h3.grown hg (fun a ha e => h5 a ha (hX _ e.symm)), h4, h5⟩
set_option maxHeartbeats 4000000 in
set_option maxRecDepth 100000 in
theorem gclone_any (AK AL : Option Addr) (ck cl : Nat) (ks : List ByteArray) (ls : List (List Ver)) (w : World) (HK : RowE encS 1 w AK ks) (HL : RowL w AL ls) (hnk : AK = none → ck = 0) (hnl : AL = none → cl = 0) (hlk : ks.length ≤ 2048) (hll : ls.length ≤ 2048) (hls : ∀ l ∈ ls, l ≠ [] ∧ l.length ≤ 1000) :
    Calls Try.prog 25 #[.agg #[.slice AK ks.length ck, .slice AL ls.length cl]] w fun e w' => ∃ vk vl vs, e = .returned (.agg #[vk, vl]) ∧ OwnC w.heap.size w' vk vl ks ls vs ∧ Below w.heap.size w w' := by
  obtain ⟨vs0, hvl, hvr, hvs⟩ := row_vals HL
  have h0 : Below w.heap.size w ((w.alloc (.cells #[.slice AK ks.length ck, .slice AL ls.length cl] 28)).alloc (.cells #[.slice none 0 0, .slice none 0 0] 28)) := (by (repeat (first | (with_reducible exact Below.refl _ _) | apply below_alloc _ (Nat.le_refl _) | refine below_set ?_ (by first | exact Nat.le_refl _ | omega) | apply below_drewN | refine below_step ?_ HB)))
  have BC := Lib.hid ((Box.new w #[.slice AK ks.length ck, .slice AL ls.length cl] 28).alloc (.cells #[.slice none 0 0, .slice none 0 0] 28))
  have BR := Lib.hid (Box.new (w.alloc (.cells #[.slice AK ks.length ck, .slice AL ls.length cl] 28)) #[.slice none 0 0, .slice none 0 0] 28)
  have RK := Lib.hid (HK.below h0)
  have RL := Lib.hid (HL.below h0)
  have HF := Lib.hid h0
  have HVL := Lib.hid hvl
  have HVS := Lib.hid hvs
  have HLS := Lib.hid hls
  have HV1 : Hid (∀ u ∈ vs0, u.oneCell' = true) := Lib.hid (fun u hu => by
    obtain ⟨i, hi⟩ := List.mem_iff_getElem?.1 hu
    obtain ⟨l, hl⟩ : ∃ l, ls[i]? = some l := ⟨_, List.getElem?_eq_getElem (by have := lt_of_get hi; omega)⟩
    obtain ⟨v, hv, A, c, rfl, _⟩ := hvs i l hl
    rw [hi] at hv
    obtain rfl := Option.some.inj hv
    rfl)
  have row_vals_at : Hid (∀ W, Below w.heap.size w W → RowE encV 1 W AL vs0) := Lib.hid (fun W hW => hvr.below hW)
  simp only [World.size_alloc] at BR
  clear HK HL h0 hvl hvr hvs hls
  go_enter Try.func25, Try.ntmps25
  go_upto_region 1 with (fail)
  generalize (w.alloc (.cells #[.slice AK ks.length ck, .slice AL ls.length cl] 28)).alloc (.cells #[.slice none 0 0, .slice none 0 0] 28) = w0 at *
  refine stage_begin (S := fun (L' : Array Bool) (w' : World) => (L'.getD 7 false = false → w'.cell? ⟨w.heap.size, 0, none⟩ = some (.slice AK ks.length ck) ∧ w'.cell? ⟨w.heap.size, 1, none⟩ = some (.slice AL ls.length cl))) (by kernel_rfl) ?_
  have HF1 : Hid (Below w.heap.size w w0.drew) := Lib.hid (below_drewN HF.out 1)
  have BC1 := Lib.hid BC.out.drew
  have BR1 := Lib.hid BR.out.drew
  have hcs := cloneS_own AK ck (ks.map .string) w0.drew (by simp [Value.oneCell']) (row_keys RK.out) hnk (by rw [List.length_map]; exact hlk)
  have HVR : Hid (RowE encV 1 w0.drew AL vs0) := Lib.hid (row_vals_at.out w0.drew (below_drewN HF.out 1))
  rw [List.length_map] at hcs
  have hz1 : w.heap.size + 2 ≤ w0.drew.heap.size := BR.out.lt
  clear HF BC BR RK RL row_vals_at
  generalize w0.drew = wd at *
  clear w0
  have hS0 : (fun w' : World => w'.cell? ⟨w.heap.size, 0, none⟩ = some (.slice AK ks.length ck) ∧ w'.cell? ⟨w.heap.size, 1, none⟩ = some (.slice AL ls.length cl)) wd := ⟨BC1.out.c 0 _ rfl, BC1.out.c 1 _ rfl⟩
  refine stage_take (i := 0) (oi := { dst := some 5, op := Go.Op.fieldAddr 28 (Go.Operand.tmp 1) 0, type := 0, pos := "gc.go:34", after := #[], guard := none }) (v := ?_) (T := fun _ => True) rfl (by kernel_rfl) (by kernel_rfl) (by kernel_rfl) (by kernel_rfl) (fun _ _ _ h => h) (fun L' w' hW hS => trivial) (fun L' w' hS => fun h => hS (by rw [getD_set_ne false (by decide)]; exact h)) (Or.inl ⟨by rfl, ?_⟩) trivial (fun _ => hS0) ?_
  rotate_left 1
  · intro w9 _; go_simp; (try with_reducible rfl)
  try simp only [Act.put, List.setIfInBounds_toArray, List.set_cons_zero, List.set_cons_succ]
  refine stage_take (i := 1) (oi := { dst := some 6, op := Go.Op.load 22 (Go.Operand.tmp 5), type := 22, pos := "gc.go:34", after := #[{ on := 0, ground := Go.Ground.data }], guard := none }) (v := ?_) (T := fun w' : World => w'.cell? ⟨w.heap.size, 0, none⟩ = some (.slice AK ks.length ck) ∧ w'.cell? ⟨w.heap.size, 1, none⟩ = some (.slice AL ls.length cl)) rfl (by kernel_rfl) (by kernel_rfl) (by kernel_rfl) (by kernel_rfl) (fun _ _ _ h => h) (fun L' w' hW hS => hS (not_yet hW (by kernel_rfl))) (fun L' w' hS => fun h => hS (by rw [getD_set_ne false (by decide)]; exact h)) (Or.inl ⟨by rfl, ?_⟩) (hS0) (fun _ => hS0) ?_
  rotate_left 1
  · intro w9 hS9; obtain ⟨z0, z1⟩ := hS9; go_simp; (try with_reducible rfl)
  try simp only [Act.put, List.setIfInBounds_toArray, List.set_cons_zero, List.set_cons_succ]
  refine stage_take (i := 3) (oi := { dst := some 8, op := Go.Op.fieldAddr 28 (Go.Operand.tmp 1) 1, type := 0, pos := "gc.go:34", after := #[], guard := none }) (v := ?_) (T := fun _ => True) rfl (by kernel_rfl) (by kernel_rfl) (by kernel_rfl) (by kernel_rfl) (fun _ _ _ h => h) (fun L' w' hW hS => trivial) (fun L' w' hS => fun h => hS (by rw [getD_set_ne false (by decide)]; exact h)) (Or.inl ⟨by rfl, ?_⟩) trivial (fun _ => hS0) ?_
  rotate_left 1
  · intro w9 _; go_simp; (try with_reducible rfl)
  try simp only [Act.put, List.setIfInBounds_toArray, List.set_cons_zero, List.set_cons_succ]
  refine stage_take (i := 4) (oi := { dst := some 9, op := Go.Op.load 26 (Go.Operand.tmp 8), type := 26, pos := "gc.go:34", after := #[{ on := 3, ground := Go.Ground.data }], guard := none }) (v := ?_) (T := fun w' : World => w'.cell? ⟨w.heap.size, 0, none⟩ = some (.slice AK ks.length ck) ∧ w'.cell? ⟨w.heap.size, 1, none⟩ = some (.slice AL ls.length cl)) rfl (by kernel_rfl) (by kernel_rfl) (by kernel_rfl) (by kernel_rfl) (fun _ _ _ h => h) (fun L' w' hW hS => hS (not_yet hW (by kernel_rfl))) (fun L' w' hS => fun h => hS (by rw [getD_set_ne false (by decide)]; exact h)) (Or.inl ⟨by rfl, ?_⟩) (hS0) (fun _ => hS0) ?_
  rotate_left 1
  · intro w9 hS9; obtain ⟨z0, z1⟩ := hS9; go_simp; (try with_reducible rfl)
  try simp only [Act.put, List.setIfInBounds_toArray, List.set_cons_zero, List.set_cons_succ]
  clear hS0
  refine stage_all (rs := [2]) (by kernel_rfl) (by simp) (fun i0 hi0 => ?_)
  obtain rfl : i0 = 2 := by simpa using hi0
  refine stage_step (S := fun (L' : Array Bool) (w' : World) => (L'.getD 7 false = false → w'.cell? ⟨w.heap.size, 0, none⟩ = some (.slice AK ks.length ck) ∧ w'.cell? ⟨w.heap.size, 1, none⟩ = some (.slice AL ls.length cl))) (o := { dst := some 7, op := Go.Op.call { callee := Go.Callee.value (Go.Operand.func 46), args := #[Go.Operand.tmp 6], argTypes := #[22] }, type := 22, pos := "gc.go:34", after := #[{ on := 1, ground := Go.Ground.data }], guard := none }) (by rfl) (fun K2 hK => ?_)
  go_simp
  go_wp2_with (go_at_call 46; with_reducible refine hcs.mono ?_; rintro e w2 ⟨vk, rfl, hok, h2⟩)
  have HF2 := Lib.hid (below_step' HF1.out h2)
  have BC2 := Lib.hid (BC1.out.step h2)
  have BR2 := Lib.hid (BR1.out.step h2)
  have hcr := cloneR_own AL cl vs0 w2 HV1.out (HVR.out.below h2) hnl (by rw [HVL.out]; exact hll)
  rw [HVL.out] at hcr
  have HOK := Lib.hid hok
  have hz2 := h2.size
  clear hcs h2 HF1 BC1 BR1 hok HVR
  refine hK.out _ _ (fun _ => ⟨BC2.out.c 0 _ rfl, BC2.out.c 1 _ rfl⟩) ?_
  clear hK K2
  try simp only [Act.put, List.setIfInBounds_toArray, List.set_cons_zero, List.set_cons_succ]
  refine stage_take (i := 6) (oi := { dst := some 11, op := Go.Op.fieldAddr 28 (Go.Operand.tmp 1) 0, type := 0, pos := "gc.go:34", after := #[{ on := 0, ground := Go.Ground.phase }, { on := 1, ground := Go.Ground.phase }, { on := 2, ground := Go.Ground.phase }, { on := 3, ground := Go.Ground.phase }, { on := 4, ground := Go.Ground.phase }, { on := 5, ground := Go.Ground.textOnly Go.Departure.lateStoresUnsure }], guard := none }) (v := ?_) (T := fun _ => True) rfl (by kernel_rfl) (by kernel_rfl) (by kernel_rfl) (by kernel_rfl) (fun _ _ _ h => h) (fun L' w' hW hS => trivial) (fun L' w' hS => fun h => hS (by rw [getD_set_ne false (by decide)]; exact h)) (Or.inl ⟨by rfl, ?_⟩) trivial (fun _ => ⟨BC2.out.c 0 _ rfl, BC2.out.c 1 _ rfl⟩) ?_
  rotate_left 1
  · intro w9 _; go_simp; (try with_reducible rfl)
  try simp only [Act.put, List.setIfInBounds_toArray, List.set_cons_zero, List.set_cons_succ]
  refine stage_all (rs := [5]) (by kernel_rfl) (by simp) (fun i0 hi0 => ?_)
  obtain rfl : i0 = 5 := by simpa using hi0
  refine stage_step (S := fun (L' : Array Bool) (w' : World) => (L'.getD 7 false = false → w'.cell? ⟨w.heap.size, 0, none⟩ = some (.slice AK ks.length ck) ∧ w'.cell? ⟨w.heap.size, 1, none⟩ = some (.slice AL ls.length cl))) (o := { dst := some 10, op := Go.Op.call { callee := Go.Callee.value (Go.Operand.func 47), args := #[Go.Operand.tmp 9], argTypes := #[26] }, type := 26, pos := "gc.go:34", after := #[{ on := 4, ground := Go.Ground.data }, { on := 2, ground := Go.Ground.chain }], guard := none }) (by rfl) (fun K2 hK => ?_)
  go_simp
  go_wp2_with (go_at_call 47; with_reducible refine hcr.mono ?_; rintro e w3 ⟨vl, rfl, hol, h3⟩)
  have HF3 := Lib.hid (below_step' HF2.out h3)
  have BC3 := Lib.hid (BC2.out.step h3)
  have BR3 := Lib.hid (BR2.out.step h3)
  have HOK3 : Hid (w3.ownsRow (w.heap.size + 2) 9 1 vk ks.length (ks.map .string)) := Lib.hid (own_base (own_below HOK.out h3) hz1)
  have HOL3 : Hid (w3.ownsRow (w.heap.size + 2) 44 1 vl ls.length vs0) := Lib.hid (own_base hol (Nat.le_trans hz1 hz2))
  have HDJ : Hid (∀ g, vk.ownBlock = some g → vl.ownBlock ≠ some g) := Lib.hid (fun g h h' => by have h1 := (HOK.out.lt g h).2; have h2 := (hol.lt g h').1; omega)
  clear hcr h3 HF2 BC2 BR2 hol HOK
  obtain ⟨Ak, ckk, rfl, _, _⟩ := own_slice HOK3.out
  obtain ⟨Al, cll, rfl, _, _⟩ := own_slice HOL3.out
  refine hK.out _ _ (fun _ => ⟨BC3.out.c 0 _ rfl, BC3.out.c 1 _ rfl⟩) ?_
  clear hK K2
  try simp only [Act.put, List.setIfInBounds_toArray, List.set_cons_zero, List.set_cons_succ]
  refine stage_all (rs := [7]) (by kernel_rfl) (by simp) (fun i0 hi0 => ?_)
  obtain rfl : i0 = 7 := by simpa using hi0
  refine stage_step (S := fun (L' : Array Bool) (w' : World) => (L'.getD 7 false = false → w'.cell? ⟨w.heap.size, 0, none⟩ = some (.slice AK ks.length ck) ∧ w'.cell? ⟨w.heap.size, 1, none⟩ = some (.slice AL ls.length cl))) (o := { dst := none, op := Go.Op.store 22 (Go.Operand.tmp 11) (Go.Operand.tmp 7), type := 0, pos := "gc.go:34", after := #[{ on := 6, ground := Go.Ground.data }, { on := 2, ground := Go.Ground.data }, { on := 5, ground := Go.Ground.chain }, { on := 0, ground := Go.Ground.phase }, { on := 1, ground := Go.Ground.phase }, { on := 2, ground := Go.Ground.phase }, { on := 3, ground := Go.Ground.phase }, { on := 4, ground := Go.Ground.phase }, { on := 5, ground := Go.Ground.textOnly Go.Departure.lateStoresUnsure }], guard := none }) (by rfl) (fun K2 hK => ?_)
  have cBC30 := BC3.out.c 0 _ rfl; have fBC30 := BC3.out.f 0 (by simp); have cBC31 := BC3.out.c 1 _ rfl; have fBC31 := BC3.out.f 1 (by simp); have lBC3 := BC3.out.lt
  go_simp
  clear cBC30 fBC30 cBC31 fBC31 lBC3
  have BC4 : Hid (Box (w3.setCell ⟨w.heap.size, 0, none⟩ (.slice Ak ks.length ckk)) w.heap.size [.slice Ak ks.length ckk, .slice AL ls.length cl]) := Lib.hid (BC3.out.set 0 _ (by simp))
  have HF4 := Lib.hid (below_set (g := w.heap.size) (j := 0) (v := (.slice Ak ks.length ckk)) HF3.out (Nat.le_refl _))
  have BR4 := Lib.hid (BR3.out.other ⟨w.heap.size, 0, none⟩ (.slice Ak ks.length ckk) (by show w.heap.size ≠ w.heap.size + 1; omega))
  have HOK4 := Lib.hid (own_set HOK3.out ⟨w.heap.size, 0, none⟩ (.slice Ak ks.length ckk) (by show w.heap.size < w.heap.size + 2; omega))
  have HOL4 := Lib.hid (own_set HOL3.out ⟨w.heap.size, 0, none⟩ (.slice Ak ks.length ckk) (by show w.heap.size < w.heap.size + 2; omega))
  clear BC3 HF3 BR3 HOK3 HOL3
  refine hK.out _ _ (fun h => by simp at h) ?_
  clear hK K2
  try simp only [Act.put, List.setIfInBounds_toArray, List.set_cons_zero, List.set_cons_succ]
  generalize w3.setCell ⟨w.heap.size, 0, none⟩ (.slice Ak ks.length ckk) = w4 at *
  clear w3
  refine stage_take (i := 8) (oi := { dst := some 12, op := Go.Op.fieldAddr 28 (Go.Operand.tmp 1) 1, type := 0, pos := "gc.go:34", after := #[{ on := 0, ground := Go.Ground.phase }, { on := 1, ground := Go.Ground.phase }, { on := 2, ground := Go.Ground.phase }, { on := 3, ground := Go.Ground.phase }, { on := 4, ground := Go.Ground.phase }, { on := 5, ground := Go.Ground.phase }, { on := 6, ground := Go.Ground.phase }, { on := 7, ground := Go.Ground.phase }], guard := none }) (v := ?_) (T := fun _ => True) rfl (by kernel_rfl) (by kernel_rfl) (by kernel_rfl) (by kernel_rfl) (fun _ _ _ h => h) (fun L' w' hW hS => trivial) (fun L' w' hS => fun h => hS (by rw [getD_set_ne false (by decide)]; exact h)) (Or.inl ⟨by rfl, ?_⟩) trivial (fun h => by simp at h) ?_
  rotate_left 1
  · intro w9 _; go_simp; (try with_reducible rfl)
  try simp only [Act.put, List.setIfInBounds_toArray, List.set_cons_zero, List.set_cons_succ]
  refine stage_all (rs := [9]) (by kernel_rfl) (by simp) (fun i0 hi0 => ?_)
  obtain rfl : i0 = 9 := by simpa using hi0
  refine stage_step (S := fun (L' : Array Bool) (w' : World) => (L'.getD 7 false = false → w'.cell? ⟨w.heap.size, 0, none⟩ = some (.slice AK ks.length ck) ∧ w'.cell? ⟨w.heap.size, 1, none⟩ = some (.slice AL ls.length cl))) (o := { dst := none, op := Go.Op.store 26 (Go.Operand.tmp 12) (Go.Operand.tmp 10), type := 0, pos := "gc.go:34", after := #[{ on := 8, ground := Go.Ground.data }, { on := 5, ground := Go.Ground.data }, { on := 7, ground := Go.Ground.chain }, { on := 0, ground := Go.Ground.phase }, { on := 1, ground := Go.Ground.phase }, { on := 2, ground := Go.Ground.phase }, { on := 3, ground := Go.Ground.phase }, { on := 4, ground := Go.Ground.phase }, { on := 5, ground := Go.Ground.phase }, { on := 6, ground := Go.Ground.phase }, { on := 7, ground := Go.Ground.phase }], guard := none }) (by rfl) (fun K2 hK => ?_)
  have cBC40 := BC4.out.c 0 _ rfl; have fBC40 := BC4.out.f 0 (by simp); have cBC41 := BC4.out.c 1 _ rfl; have fBC41 := BC4.out.f 1 (by simp); have lBC4 := BC4.out.lt
  go_simp
  clear cBC40 fBC40 cBC41 fBC41 lBC4
  have BC5 : Hid (Box (w4.setCell ⟨w.heap.size, 1, none⟩ (.slice Al ls.length cll)) w.heap.size [.slice Ak ks.length ckk, .slice Al ls.length cll]) := Lib.hid (BC4.out.set 1 _ (by simp))
  have HF5 := Lib.hid (below_set (g := w.heap.size) (j := 1) (v := (.slice Al ls.length cll)) HF4.out (Nat.le_refl _))
  have BR5 := Lib.hid (BR4.out.other ⟨w.heap.size, 1, none⟩ (.slice Al ls.length cll) (by show w.heap.size ≠ w.heap.size + 1; omega))
  have HOK5 := Lib.hid (own_set HOK4.out ⟨w.heap.size, 1, none⟩ (.slice Al ls.length cll) (by show w.heap.size < w.heap.size + 2; omega))
  have HOL5 := Lib.hid (own_set HOL4.out ⟨w.heap.size, 1, none⟩ (.slice Al ls.length cll) (by show w.heap.size < w.heap.size + 2; omega))
  clear BC4 HF4 BR4 HOK4 HOL4
  refine hK.out _ _ (fun h => by simp at h) ?_
  clear hK K2
  try simp only [Act.put, List.setIfInBounds_toArray, List.set_cons_zero, List.set_cons_succ]
  generalize w4.setCell ⟨w.heap.size, 1, none⟩ (.slice Al ls.length cll) = w5 at *
  clear w4
  refine stage_done (by kernel_rfl) ?_ _
  have cBC50 := BC5.out.c 0 _ rfl; have fBC50 := BC5.out.f 0 (by simp); have cBC51 := BC5.out.c 1 _ rfl; have fBC51 := BC5.out.f 1 (by simp); have lBC5 := BC5.out.lt
  go_wp2_with fail
  clear cBC50 fBC50 cBC51 fBC51 lBC5
  go_loopw [16] (fun s16 wr => ∃ j : Nat, j ≤ ls.length ∧ s16 = .int .i64 j ∧ Hid (Below w.heap.size w wr) ∧ Hid (Box wr w.heap.size [.slice Ak ks.length ckk, .slice Al ls.length cll]) ∧ Hid (Box wr (w.heap.size + 1) [.slice none 0 0, .slice none 0 0]) ∧ Hid (wr.ownsRow (w.heap.size + 2) 9 1 (.slice Ak ks.length ckk) ks.length (ks.map .string)) ∧ ∃ vs, Hid (wr.ownsRow (w.heap.size + 2) 44 1 (.slice Al ls.length cll) ls.length vs) ∧ Hid (∀ i, j ≤ i → vs[i]? = vs0[i]?) ∧ Hid (∀ (i : Nat) (l : List Ver), i < j → ls[i]? = some l → ∃ v, vs[i]? = some v ∧ SlX (fun b => (Value.slice Ak ks.length ckk).ownBlock = some b ∨ (Value.slice Al ls.length cll).ownBlock = some b ∨ b < w.heap.size + 2) wr v l)) (fun s16 _ => ls.length - (Lib.intOf s16).toNat)
  case atStart => exact ⟨0, Nat.zero_le _, rfl, HF5, BC5, BR5, HOK5, vs0, HOL5, Lib.hid (fun i _ => rfl), Lib.hid (fun i l h => absurd h (Nat.not_lt_zero _))⟩
  case round =>
    obtain ⟨j, hj, rfl, HFr, BCr, BRr, HOKr, vs, HOLr, HRS, HDN⟩ := hrel
    clear BC5 BR5 HOK5 HOL5 HF5
    by_cases hlt : j < ls.length
    · obtain ⟨l, hl0⟩ : ∃ l, ls[j]? = some l := ⟨_, List.getElem?_eq_getElem hlt⟩
      obtain ⟨g, cq, hgq, _, hbg, hgs⟩ := own_some HOLr.out (by omega)
      obtain ⟨rfl, rfl⟩ : Al = some ⟨g, 0, none⟩ ∧ cll = cq := by simpa using hgq
      obtain ⟨v, hv0, A, c', rfl, hlc, hrl, hnl⟩ := HVS.out j l hl0
      have hvsl : vs.length = ls.length := by have := HOLr.out.1; simpa using this
      have cg : wr.cell? ⟨g, j, none⟩ = some (.slice A l.length c') := by rw [HOLr.out.cellAt j (by rw [Nat.mul_one]; exact hlt), HRS.out j (Nat.le_refl _)]; exact hv0
      have hji : (j : Int) < (ls.length : Int) := by omega
      clear hgq
      have cBCr0 := BCr.out.c 0 _ rfl; have fBCr0 := BCr.out.f 0 (by simp); have cBCr1 := BCr.out.c 1 _ rfl; have fBCr1 := BCr.out.f 1 (by simp); have lBCr := BCr.out.lt
      go_upto_region 5 with (fail)
      clear cBCr0 fBCr0 cBCr1 fBCr1 lBCr
      clear cg
      refine stage_begin (S := fun (L' : Array Bool) (w' : World) => w'.cell? ⟨w.heap.size, 1, none⟩ = some (.slice (some ⟨g, 0, none⟩) ls.length cll)) (by kernel_rfl) ?_
      have HF1 : Hid (Below w.heap.size w wr.drew) := Lib.hid (below_drewN HFr.out 1)
      have BC1 := Lib.hid BCr.out.drew
      have BR1 := Lib.hid BRr.out.drew
      have HOK1 : Hid (wr.drew.ownsRow (w.heap.size + 2) 9 1 (.slice Ak ks.length ckk) ks.length (ks.map .string)) := Lib.hid (own_below HOKr.out (below_drewN (Below.refl _ wr) 1))
      have HOL1 : Hid (wr.drew.ownsRow (w.heap.size + 2) 44 1 (.slice (some ⟨g, 0, none⟩) ls.length cll) ls.length vs) := Lib.hid (own_below HOLr.out (below_drewN (Below.refl _ wr) 1))
      have HDN1 : Hid (∀ (i : Nat) (l : List Ver), i < j → ls[i]? = some l → ∃ v, vs[i]? = some v ∧ SlX (fun b => (Value.slice Ak ks.length ckk).ownBlock = some b ∨ (Value.slice (some ⟨g, 0, none⟩) ls.length cll).ownBlock = some b ∨ b < w.heap.size + 2) wr.drew v l) := Lib.hid (fun i l h1 h2 => by obtain ⟨v, hv, hs⟩ := HDN.out i l h1 h2; exact ⟨v, hv, hs.below (below_drewN (Below.refl _ wr) 1)⟩)
      have hcl := clone_own A c' l wr.drew (hrl.below HF1.out) hnl (HLS.out l (List.mem_of_getElem? hl0)).2
      have hz1 : w.heap.size + 2 ≤ wr.drew.heap.size := BRr.out.lt
      clear HFr BCr BRr HOKr HOLr HDN
      generalize wr.drew = wd at *
      have hS0 := BC1.out.c 1 _ rfl
      refine stage_take (i := 0) (oi := { dst := some 21, op := Go.Op.fieldAddr 28 (Go.Operand.tmp 1) 1, type := 0, pos := "gc.go:36", after := #[], guard := none }) (v := ?_) (T := fun _ => True) rfl (by kernel_rfl) (by kernel_rfl) (by kernel_rfl) (by kernel_rfl) (fun _ _ _ h => h) (fun L' w' hW hS => trivial) (fun L' w' hS => hS) (Or.inl ⟨by rfl, ?_⟩) trivial (hS0) ?_
      rotate_left 1
      · intro w9 _; go_simp; (try with_reducible rfl)
      try simp only [Act.put, List.setIfInBounds_toArray, List.set_cons_zero, List.set_cons_succ]
      refine stage_take (i := 1) (oi := { dst := some 22, op := Go.Op.load 26 (Go.Operand.tmp 21), type := 26, pos := "gc.go:36", after := #[{ on := 0, ground := Go.Ground.data }], guard := none }) (v := ?_) (T := fun w' : World => w'.cell? ⟨w.heap.size, 1, none⟩ = some (.slice (some ⟨g, 0, none⟩) ls.length cll)) rfl (by kernel_rfl) (by kernel_rfl) (by kernel_rfl) (by kernel_rfl) (fun _ _ _ h => h) (fun L' w' hW hS => hS) (fun L' w' hS => hS) (Or.inl ⟨by rfl, ?_⟩) (hS0) (hS0) ?_
      rotate_left 1
      · intro w9 hS9; obtain z0 := hS9; go_simp; (try with_reducible rfl)
      try simp only [Act.put, List.setIfInBounds_toArray, List.set_cons_zero, List.set_cons_succ]
      refine stage_take (i := 2) (oi := { dst := some 23, op := Go.Op.move (Go.Operand.tmp 3), type := 3, pos := "gc.go:36", after := #[], guard := none }) (v := ?_) (T := fun _ => True) rfl (by kernel_rfl) (by kernel_rfl) (by kernel_rfl) (by kernel_rfl) (fun _ _ _ h => h) (fun L' w' hW hS => trivial) (fun L' w' hS => hS) (Or.inl ⟨by rfl, ?_⟩) trivial (hS0) ?_
      rotate_left 1
      · intro w9 _; go_simp; (try with_reducible rfl)
      try simp only [Act.put, List.setIfInBounds_toArray, List.set_cons_zero, List.set_cons_succ]
      refine stage_take (i := 3) (oi := { dst := some 24, op := Go.Op.move (Go.Operand.tmp 4), type := 44, pos := "gc.go:36", after := #[], guard := none }) (v := ?_) (T := fun _ => True) rfl (by kernel_rfl) (by kernel_rfl) (by kernel_rfl) (by kernel_rfl) (fun _ _ _ h => h) (fun L' w' hW hS => trivial) (fun L' w' hS => hS) (Or.inl ⟨by rfl, ?_⟩) trivial (hS0) ?_
      rotate_left 1
      · intro w9 _; go_simp; (try with_reducible rfl)
      try simp only [Act.put, List.setIfInBounds_toArray, List.set_cons_zero, List.set_cons_succ]
      clear hS0
      refine stage_all (rs := [4]) (by kernel_rfl) (by simp) (fun i0 hi0 => ?_)
      obtain rfl : i0 = 4 := by simpa using hi0
      refine stage_step (S := fun (L' : Array Bool) (w' : World) => w'.cell? ⟨w.heap.size, 1, none⟩ = some (.slice (some ⟨g, 0, none⟩) ls.length cll)) (o := { dst := some 25, op := Go.Op.call { callee := Go.Callee.value (Go.Operand.func 48), args := #[Go.Operand.tmp 24], argTypes := #[44] }, type := 44, pos := "gc.go:36", after := #[{ on := 3, ground := Go.Ground.data }], guard := none }) (by rfl) (fun K2 hK => ?_)
      go_simp
      go_wp2_with (go_at_call 48; with_reducible refine hcl.mono ?_; rintro e w2 ⟨v2, rfl, hov, h2⟩)
      obtain ⟨A2, c2, rfl, hc2, hr2, hn2⟩ := SlE.of_own encVer_len (by decide) hov
      have HF2 := Lib.hid (below_step' HF1.out h2)
      have BC2 := Lib.hid (BC1.out.step h2)
      have BR2 := Lib.hid (BR1.out.step h2)
      have HOK2 := Lib.hid (own_below HOK1.out h2)
      have HOL2 := Lib.hid (own_below HOL1.out h2)
      have HNEW : Hid (SlX (fun b => (Value.slice Ak ks.length ckk).ownBlock = some b ∨ (Value.slice (some ⟨g, 0, none⟩) ls.length cll).ownBlock = some b ∨ b < w.heap.size + 2) w2 (.slice A2 l.length c2) l) := Lib.hid ⟨A2, c2, rfl, hc2, hr2, hn2, fun a ha => by
          have h5 := (hov.lt a.block (by rw [ha]; rfl)).1
          rintro (q | q | q)
          · have := (HOK1.out.lt _ q).2; omega
          · have := (HOL1.out.lt _ q).2; omega
          · omega⟩
      have HDN2 : Hid (∀ (i : Nat) (l : List Ver), i < j → ls[i]? = some l → ∃ v, vs[i]? = some v ∧ SlX (fun b => (Value.slice Ak ks.length ckk).ownBlock = some b ∨ (Value.slice (some ⟨g, 0, none⟩) ls.length cll).ownBlock = some b ∨ b < w.heap.size + 2) w2 v l) := Lib.hid (fun i l h1 hh => by obtain ⟨v, hv, hs⟩ := HDN1.out i l h1 hh; exact ⟨v, hv, hs.below h2⟩)
      have hzz : w.heap.size + 2 ≤ w2.heap.size := BR2.out.lt
      clear hcl hov hr2 hn2 HF1 BC1 BR1 HOK1 HOL1 HDN1 h2
      refine hK.out _ _ (BC2.out.c 1 _ rfl) ?_
      clear hK K2
      try simp only [Act.put, List.setIfInBounds_toArray, List.set_cons_zero, List.set_cons_succ]
      refine stage_take (i := 5) (oi := { dst := some 26, op := Go.Op.indexAddr 26 (Go.Operand.tmp 22) (Go.Operand.tmp 23), type := 0, pos := "gc.go:36", after := #[{ on := 1, ground := Go.Ground.data }, { on := 2, ground := Go.Ground.data }, { on := 0, ground := Go.Ground.phase }, { on := 1, ground := Go.Ground.phase }, { on := 2, ground := Go.Ground.phase }, { on := 3, ground := Go.Ground.phase }, { on := 4, ground := Go.Ground.phase }], guard := none }) (v := ?_) (T := fun _ => True) rfl (by kernel_rfl) (by kernel_rfl) (by kernel_rfl) (by kernel_rfl) (fun _ _ _ h => h) (fun L' w' hW hS => trivial) (fun L' w' hS => hS) (Or.inl ⟨by rfl, ?_⟩) trivial (BC2.out.c 1 _ rfl) ?_
      rotate_left 1
      · intro w9 _; go_simp; (try with_reducible rfl)
      try simp only [Act.put, List.setIfInBounds_toArray, List.set_cons_zero, List.set_cons_succ]
      refine stage_all (rs := [6]) (by kernel_rfl) (by simp) (fun i0 hi0 => ?_)
      obtain rfl : i0 = 6 := by simpa using hi0
      refine stage_step (S := fun (L' : Array Bool) (w' : World) => w'.cell? ⟨w.heap.size, 1, none⟩ = some (.slice (some ⟨g, 0, none⟩) ls.length cll)) (o := { dst := none, op := Go.Op.store 44 (Go.Operand.tmp 26) (Go.Operand.tmp 25), type := 0, pos := "gc.go:36", after := #[{ on := 5, ground := Go.Ground.data }, { on := 4, ground := Go.Ground.data }, { on := 4, ground := Go.Ground.chain }, { on := 0, ground := Go.Ground.phase }, { on := 1, ground := Go.Ground.phase }, { on := 2, ground := Go.Ground.phase }, { on := 3, ground := Go.Ground.phase }, { on := 4, ground := Go.Ground.phase }], guard := none }) (by rfl) (fun K2 hK => ?_)
      have cg2 : w2.cell? ⟨g, j, none⟩ = some (.slice A l.length c') := by rw [HOL2.out.cellAt j (by rw [Nat.mul_one]; exact hlt), HRS.out j (Nat.le_refl _)]; exact hv0
      have fg2 := HOL2.out.frozenAt j
      go_simp
      clear cg2 fg2
      obtain ⟨HOL3, hgr⟩ := HOL2.out.stored j (.slice A2 l.length c2)
      have HOL3 := Lib.hid HOL3
      have HOK3 := Lib.hid (HOK2.out.kept hgr (by
          cases hv : (Value.slice Ak ks.length ckk).ownBlock with
          | none => left; rfl
          | some g' => right; rintro e; exact HDJ.out g' hv e.symm))
      have BC3 := Lib.hid (BC2.out.other ⟨g, j, none⟩ (.slice A2 l.length c2) (by show g ≠ w.heap.size; omega))
      have BR3 := Lib.hid (BR2.out.other ⟨g, j, none⟩ (.slice A2 l.length c2) (by show g ≠ w.heap.size + 1; omega))
      have HF3 := Lib.hid (below_set (g := g) (j := j) (v := .slice A2 l.length c2) HF2.out (by omega))
      have HDN3 : Hid (∀ (i : Nat) (l' : List Ver), i < j + 1 → ls[i]? = some l' → ∃ v, (vs.set j (.slice A2 l.length c2))[i]? = some v ∧ SlX (fun b => (Value.slice Ak ks.length ckk).ownBlock = some b ∨ (Value.slice (some ⟨g, 0, none⟩) ls.length cll).ownBlock = some b ∨ b < w.heap.size + 2) (w2.setCell ⟨g, j, none⟩ (.slice A2 l.length c2)) v l') := Lib.hid (fun i l' h1 hh => by
          by_cases e : i = j
          · subst e
            obtain rfl : l = l' := Option.some.inj (hl0.symm.trans hh)
            exact ⟨_, by rw [List.getElem?_set_self (by rw [hvsl]; exact hlt)], HNEW.out.grown hgr (fun b hb => .inr (.inl hb))⟩
          · obtain ⟨v, hv, hs⟩ := HDN2.out i l' (by omega) hh
            exact ⟨v, by rw [List.getElem?_set_ne (Ne.symm e)]; exact hv, hs.grown hgr (fun b hb => .inr (.inl hb))⟩)
      have HRS3 : Hid (∀ i, j + 1 ≤ i → (vs.set j (.slice A2 l.length c2))[i]? = vs0[i]?) := Lib.hid (fun i hi => by rw [List.getElem?_set_ne (by omega)]; exact HRS.out i (by omega))
      clear HOK2 HOL2 BC2 BR2 HF2 HDN2 HRS hgr HNEW
      refine hK.out _ _ (BC3.out.c 1 _ rfl) ?_
      clear hK K2
      try simp only [Act.put, List.setIfInBounds_toArray, List.set_cons_zero, List.set_cons_succ]
      generalize w2.setCell ⟨g, j, none⟩ (.slice A2 l.length c2) = w3 at *
      refine stage_done (by kernel_rfl) ?_ _
      go_wp2_with fail
      go_roundw
      case rel => exact ⟨j + 1, by omega, by go_num, HF3, BC3, BR3, HOK3, _, HOL3, HRS3, HDN3⟩
      case measure => simp [Lib.intOf]; omega
    · obtain rfl : j = ls.length := by omega
      have HOW : Hid (OwnC (w.heap.size + 2) wr (.slice Ak ks.length ckk) (.slice Al ls.length cll) ks ls vs) := Lib.hid ⟨by rw [flat_encS]; exact HOKr.out, HOLr.out, fun i l hi => by
        obtain ⟨v, hv, hs⟩ := HDN.out i l (lt_of_get hi) hi
        exact ⟨(HLS.out l (List.mem_of_getElem? hi)).1, v, hv, hs⟩, HDJ.out⟩
      clear HDN HRS HOKr HOLr
      have cBCr0 := BCr.out.c 0 _ rfl; have fBCr0 := BCr.out.f 0 (by simp); have cBCr1 := BCr.out.c 1 _ rfl; have fBCr1 := BCr.out.f 1 (by simp); have lBCr := BCr.out.lt; have cBRr0 := BRr.out.c 0 _ rfl; have fBRr0 := BRr.out.f 0 (by simp); have cBRr1 := BRr.out.c 1 _ rfl; have fBRr1 := BRr.out.f 1 (by simp); have lBRr := BRr.out.lt
      go_wp2_with fail
      clear cBCr0 fBCr0 cBCr1 fBCr1 lBCr; clear cBRr0 fBRr0 cBRr1 fBRr1 lBRr
      have BX : Hid (Box ((wr.setCell ⟨w.heap.size + 1, 0, none⟩ (.slice Ak ks.length ckk)).setCell ⟨w.heap.size + 1, 1, none⟩ (.slice Al ls.length cll)) (w.heap.size + 1) [.slice Ak ks.length ckk, .slice Al ls.length cll]) := Lib.hid ((BRr.out.set 0 (.slice Ak ks.length ckk) (by simp)).set 1 (.slice Al ls.length cll) (by simp))
      have HX := Lib.hid (below_set (g := w.heap.size + 1) (j := 1) (v := .slice Al ls.length cll) (below_set (g := w.heap.size + 1) (j := 0) (v := .slice Ak ks.length ckk) HFr.out (Nat.le_succ _)) (Nat.le_succ _))
      have HOX := Lib.hid (((HOW.out.set ⟨w.heap.size + 1, 0, none⟩ (.slice Ak ks.length ckk) (by show w.heap.size + 1 < w.heap.size + 2; omega)).set ⟨w.heap.size + 1, 1, none⟩ (.slice Al ls.length cll) (by show w.heap.size + 1 < w.heap.size + 2; omega)).rebase (b' := w.heap.size) (by omega))
      generalize (wr.setCell ⟨w.heap.size + 1, 0, none⟩ (.slice Ak ks.length ckk)).setCell ⟨w.heap.size + 1, 1, none⟩ (.slice Al ls.length cll) = wz at *
      have cBX0 := BX.out.c 0 _ rfl; have fBX0 := BX.out.f 0 (by simp); have cBX1 := BX.out.c 1 _ rfl; have fBX1 := BX.out.f 1 (by simp); have lBX := BX.out.lt
      refine bodyPost_ret (v := .agg #[.slice Ak ks.length ckk, .slice Al ls.length cll]) (by simp [results, Try.results25, go_sem, cBX0, cBX1]) rfl ?_
      exact ⟨_, _, vs, rfl, HOX.out, HX.out⟩
end Go.Proofs.Ytpkacnoimdjckaa
