/- The law's alive: the page's example holds. -/
import Derived.Test.YtkecbghnapjecaaAliveB
import Derived.KernelRfl
namespace Go.Proofs.Ytkecbghnapjecaa
open Go.RowKit
set_option linter.unusedVariables false
set_option linter.unusedSimpArgs false
def keys5 : List ByteArray := [⟨#[99]⟩, ⟨#[97]⟩, ⟨#[101]⟩, ⟨#[98]⟩, ⟨#[100]⟩]
theorem five_ok : ∀ j k, keys5[j]? = some k → (putS (fillS keys5 j).1 (fillS keys5 j).2 k (k ++ bang)).2 = 0
  | 0, k, h => by obtain rfl := Option.some.inj h; kernel_rfl
  | 1, k, h => by obtain rfl := Option.some.inj h; kernel_rfl
  | 2, k, h => by obtain rfl := Option.some.inj h; kernel_rfl
  | 3, k, h => by obtain rfl := Option.some.inj h; kernel_rfl
  | 4, k, h => by obtain rfl := Option.some.inj h; kernel_rfl
  | j + 5, k, h => by simp [keys5] at h
theorem five_state : (fillS keys5 5).1.length = 3 ∧ rdD (readS (fillS keys5 5).1 (fillS keys5 5).2) = 2 ∧ rdE (readS (fillS keys5 5).1 (fillS keys5 5).2) = 0 ∧ getS (fillS keys5 5).1 (fillS keys5 5).2 ⟨#[100]⟩ = (⟨#[100, 33]⟩, true, 0) := ⟨by kernel_rfl, by kernel_rfl, by kernel_rfl, by kernel_rfl⟩
theorem StB.fill (l : List ByteArray) : ∀ j, StB (fillS l j)
  | 0 => StB.nil (-1) (by simp)
  | j + 1 => by
    cases h : l[j]? with
    | none =>
      have e : fillS l (j + 1) = fillS l j := by
        unfold fillS
        rw [List.take_add_one, h]
        simp
      rw [e]; exact StB.fill l j
    | some k => rw [fillS_succ h]; exact StB.put _ _ _ _
set_option maxHeartbeats 4000000 in
set_option maxRecDepth 100000 in
theorem alive_any (w : World) : Calls Try.prog 11 #[] w fun e w' => e = .returned (.bool true) ∧ Below w.heap.size w w' := by
  obtain ⟨h1, h2, h3, h4⟩ := five_state
  have hb0 : Below w.heap.size w (w.alloc (.cells #[.string ⟨#[99]⟩, .string ⟨#[97]⟩, .string ⟨#[101]⟩, .string ⟨#[98]⟩, .string ⟨#[100]⟩] 9)) := (Below.refl _ _).alloc (Nat.le_refl _) _
  have hR : RowE encS 1 (w.alloc (.cells #[.string ⟨#[99]⟩, .string ⟨#[97]⟩, .string ⟨#[101]⟩, .string ⟨#[98]⟩, .string ⟨#[100]⟩] 9)) (some ⟨w.heap.size, 0, none⟩) keys5 := RowE.lit encS_len (heap_alloc_new w _) rfl
  have hfl := filled_any (some ⟨w.heap.size, 0, none⟩) 5 keys5 _ hR (by decide) (fun k hk => by simp [keys5] at hk; rcases hk with rfl | rfl | rfl | rfl | rfl <;> decide) five_ok
  have hsb := StB.fill keys5 5
  rw [show keys5.length = 5 from rfl] at hfl
  obtain ⟨X, hX⟩ : ∃ X, fillS keys5 5 = X := ⟨_, rfl⟩
  rw [hX] at h1 h2 h3 h4 hsb hfl
  have HFL := Lib.hid hfl
  have HSB := Lib.hid hsb
  have H1 := Lib.hid h1
  have H2 := Lib.hid h2
  have H3 := Lib.hid h3
  have H4 := Lib.hid h4
  have HF := Lib.hid hb0
  clear hX h1 h2 h3 h4 hsb hfl hR hb0
  go_enter Try.func11, Try.ntmps11
  go_wp2_with fail
  refine HFL.out.mono ?_
  rintro e w2 ⟨v, rfl, hst, hb⟩
  replace HF := Lib.hid (below_step' HF.out hb)
  clear hb HFL
  obtain ⟨A, c, rfl, hs1, hs2⟩ := hst
  have HST : Hid (StAt w2 w.heap.size (.agg #[.slice A X.1.length c, .int .i64 X.2]) X) := Lib.hid ((show StAt w2 _ (.agg #[.slice A X.1.length c, .int .i64 X.2]) X from ⟨A, c, rfl, hs1, hs2⟩).mono (by simp))
  clear hs1 hs2
  have HB := Lib.hid (Box.new w2 #[.slice A X.1.length c, .int .i64 X.2] 27)
  have hal : Below w2.heap.size w2 (w2.alloc (.cells #[.slice A X.1.length c, .int .i64 X.2] 27)) := (Below.refl _ _).alloc (Nat.le_refl _) _
  replace HST := Lib.hid (HST.out.below hal)
  have HF3 := Lib.hid (below_step' HF.out hal)
  have hdp := depth_any A c X.2 X.1 _ (HST.out.nodes HSB.out) HSB.out.root
  rw [H2.out, H3.out] at hdp
  have HDP := Lib.hid hdp
  clear hal hdp HF
  go_upto_region 2 with (fail)
  generalize w2.alloc (.cells #[.slice A X.1.length c, .int .i64 X.2] 27) = w3 at *
  generalize w2.heap.size = bx at *
  have cHB0 := HB.out.c 0 _ rfl; have fHB0 := HB.out.f 0 (by simp); have cHB1 := HB.out.c 1 _ rfl; have fHB1 := HB.out.f 1 (by simp); have lHB := HB.out.lt
  go_wp2_with fail
  clear cHB0 fHB0 cHB1 fHB1 lHB
  refine HDP.out.mono ?_
  rintro e w4 ⟨rfl, hb⟩
  clear HDP
  replace HB := Lib.hid (HB.out.step hb)
  replace HST := Lib.hid (HST.out.below hb)
  replace HF3 := Lib.hid (below_step' HF3.out hb)
  have hgt := get_top A c X.2 X.1 ⟨#[100]⟩ w4 (HST.out.nodes HSB.out) HSB.out.root
  rw [H4.out] at hgt
  have HGT := Lib.hid hgt
  clear hb hgt
  have cHB0 := HB.out.c 0 _ rfl; have fHB0 := HB.out.f 0 (by simp); have cHB1 := HB.out.c 1 _ rfl; have fHB1 := HB.out.f 1 (by simp); have lHB := HB.out.lt
  go_wp2_with fail
  clear cHB0 fHB0 cHB1 fHB1 lHB
  refine HGT.out.mono ?_
  rintro e w5 ⟨rfl, hb⟩
  clear HGT
  replace HB := Lib.hid (HB.out.step hb)
  replace HF3 := Lib.hid (below_step' HF3.out hb)
  have h1 := H1.out
  clear hb HST
  have cHB0 := HB.out.c 0 _ rfl; have fHB0 := HB.out.f 0 (by simp); have cHB1 := HB.out.c 1 _ rfl; have fHB1 := HB.out.f 1 (by simp); have lHB := HB.out.lt
  rw [h1] at cHB0
  go_wp2_with (go_at_call 13; (with_reducible refine (num_any _ _).mono ?_); rintro e w' ⟨rfl, rfl⟩)
  go_ret
  exact ⟨rfl, HF3.out⟩
end Go.Proofs.Ytkecbghnapjecaa
