/- Package eval: args, eval of and, or that are told by what is ahead; Eval. -/
import Derived.Test.YtbhajjinlbadhaaEvS
namespace Go.Proofs.Ytbhajjinlbadhaa
open Go.RowKit
set_option linter.unusedVariables false
set_option linter.unusedSimpArgs false
attribute [local go_sem high] eqVal
/-- The cells of an expression. -/
def exc (op k n : Int) (s t nm : ByteArray) (a : Value) : List Value := [.int .i64 op, .int .i64 k, .int .i64 n, .string s, .string t, .string nm, a]
theorem vbool_eq (b : Bool) : sameB (vbool b).k (vbool b).n (vbool b).s (vbool b).k (vbool b).n (vbool b).s = true := by simp [sameB]
theorem cell_val {w : World} {x : V} {T : TypeId} {j : Nat} {u : Value} (hj : (encU x)[j]? = some u) : (w.alloc (.cells #[.int .i64 x.k, .int .i64 x.n, .string x.s] T)).cell? ((⟨w.heap.size, 0, none⟩ : Addr).add j) = some u := by
  have e : (w.alloc (.cells #[.int .i64 x.k, .int .i64 x.n, .string x.s] T)).heap[w.heap.size]? = _ := heap_alloc_new w _
  rw [Addr.add_lit]
  simp only [World.cell?, e, Nat.zero_add]
  simpa [encU] using hj
set_option maxHeartbeats 4000000 in
set_option maxRecDepth 100000 in
theorem args_short (op k n : Int) (s t nm : ByteArray) (b : Nat) (A : Option Addr) (m c : Nat) (w : World) (tb : Bool) (hop : op = 14 ∧ tb = false ∨ op = 15 ∧ tb = true) (HB : Box w b [.int .i64 0, .int .i64 2, .int .i64 (vbool tb).n, .string ⟨#[]⟩, .string ⟨#[]⟩, .string ⟨#[]⟩, .slice none 0 0]) :
    Calls Try.prog 39 #[.agg #[.int .i64 op, .int .i64 k, .int .i64 n, .string s, .string t, .string nm, .slice (some ⟨b, 0, none⟩) 2 2], .slice A m c, .int .i64 1] w fun e w' => ∃ v, e = .returned (.tuple #[v, .bool true, .int .i64 0]) ∧ SlB encU 3 w.heap.size w' v [vbool tb] ∧ Below w.heap.size w w' := by
  obtain ⟨i0, hi, hz0, hz1, hz2⟩ := infoU
  have hlit := eval_lit (vbool tb) ⟨#[]⟩ ⟨#[]⟩ A m c 2 (by decide)
  have hbo := bool_any tb
  have hkk : (vbool tb).k = 2 := rfl
  have hss : (vbool tb).s = ⟨#[]⟩ := rfl
  rw [hkk, hss] at hlit hbo
  have HVE : Hid (encU (vbool tb) = [.int .i64 2, .int .i64 (vbool tb).n, .string ⟨#[]⟩]) := Lib.hid rfl
  generalize (vbool tb).n = q at *
  generalize vbool tb = X at *
  have HLIT := Lib.hid hlit
  have HBO := Lib.hid hbo
  clear hkk hss hlit hbo
  have HF := Lib.hid ((Below.refl w.heap.size w).alloc (Nat.le_refl _) (.cells #[.int .i64 op, .int .i64 k, .int .i64 n, .string s, .string t, .string nm, .slice (some ⟨b, 0, none⟩) 2 2] 26))
  have HB1 := Lib.hid (HB.alloc (.cells #[.int .i64 op, .int .i64 k, .int .i64 n, .string s, .string t, .string nm, .slice (some ⟨b, 0, none⟩) 2 2] 26))
  have BE := Lib.hid (Box.new w #[.int .i64 op, .int .i64 k, .int .i64 n, .string s, .string t, .string nm, .slice (some ⟨b, 0, none⟩) 2 2] 26)
  have hs : sameB 2 q ⟨#[]⟩ 2 q ⟨#[]⟩ = true := by simp [sameB]
  clear HB
  rcases hop with ⟨rfl, rfl⟩ | ⟨rfl, rfl⟩
  all_goals
    go_enter Try.func39, Try.ntmps39
    go_wp2_with fail
    generalize hb3 : w.heap.size = b3 at *
    generalize w.alloc (.cells #[.int .i64 _, .int .i64 k, .int .i64 n, .string s, .string t, .string nm, .slice (some ⟨b, 0, none⟩) 2 2] 26) = w1 at *
    have HB3 := Lib.hid hb3
    clear hb3
    go_loopw [6, 16] (fun s6 s16 wr => s6 = .slice none 0 0 ∧ s16 = .int .i64 0 ∧ wr = w1) (fun _ _ _ => 0)
    case atStart => exact ⟨rfl, rfl, rfl⟩
    case round =>
      obtain ⟨rfl, rfl, rfl⟩ := hrel
      have cHB10 := HB1.out.c 0 _ rfl; have fHB10 := HB1.out.f 0 (by simp); have cHB11 := HB1.out.c 1 _ rfl; have fHB11 := HB1.out.f 1 (by simp); have cHB12 := HB1.out.c 2 _ rfl; have fHB12 := HB1.out.f 2 (by simp); have cHB13 := HB1.out.c 3 _ rfl; have fHB13 := HB1.out.f 3 (by simp); have cHB14 := HB1.out.c 4 _ rfl; have fHB14 := HB1.out.f 4 (by simp); have cHB15 := HB1.out.c 5 _ rfl; have fHB15 := HB1.out.f 5 (by simp); have cHB16 := HB1.out.c 6 _ rfl; have fHB16 := HB1.out.f 6 (by simp); have lHB1 := HB1.out.lt; have cBE0 := BE.out.c 0 _ rfl; have fBE0 := BE.out.f 0 (by simp); have cBE1 := BE.out.c 1 _ rfl; have fBE1 := BE.out.f 1 (by simp); have cBE2 := BE.out.c 2 _ rfl; have fBE2 := BE.out.f 2 (by simp); have cBE3 := BE.out.c 3 _ rfl; have fBE3 := BE.out.f 3 (by simp); have cBE4 := BE.out.c 4 _ rfl; have fBE4 := BE.out.f 4 (by simp); have cBE5 := BE.out.c 5 _ rfl; have fBE5 := BE.out.f 5 (by simp); have cBE6 := BE.out.c 6 _ rfl; have fBE6 := BE.out.f 6 (by simp); have lBE := BE.out.lt
      have hz3 := BE.out.lt
      have hne : b3 ≠ wr.heap.size := by omega
      have hbne : b ≠ wr.heap.size := by omega
      have BE1 := Lib.hid (BE.out.alloc (.cells #[.int .i64 0, .int .i64 2, .int .i64 q, .string ⟨#[]⟩, .string ⟨#[]⟩, .string ⟨#[]⟩, .slice none 0 0] 26))
      have HF1 := Lib.hid (HF.out.alloc (by omega) (.cells #[.int .i64 0, .int .i64 2, .int .i64 q, .string ⟨#[]⟩, .string ⟨#[]⟩, .string ⟨#[]⟩, .slice none 0 0] 26))
      go_wp2_with fail
      refine (HLIT.out _).mono ?_; rintro e w2 ⟨rfl, h2⟩
      clear cHB10 fHB10 cHB11 fHB11 cHB12 fHB12 cHB13 fHB13 cHB14 fHB14 cHB15 fHB15 cHB16 fHB16 lHB1; clear cBE0 fBE0 cBE1 fBE1 cBE2 fBE2 cBE3 fBE3 cBE4 fBE4 cBE5 fBE5 cBE6 fBE6 lBE
      have BE2 := Lib.hid (BE1.out.step h2)
      have HF2 := Lib.hid (HF1.out.trans (h2.mono (by simp; omega)))
      have BV := Lib.hid (Box.new w2 #[.int .i64 2, .int .i64 q, .string ⟨#[]⟩] 23)
      have HO := Lib.hid (World.ownsRow_nil (w2.alloc (.cells #[.int .i64 2, .int .i64 q, .string ⟨#[]⟩] 23)) w2.heap.size 23 3)
      have hz4 : b3 < w2.heap.size := BE2.out.lt
      clear h2 hne hbne
      go_wp2_with (at_builtin; refine wpList_append_own _ rfl _ _ 27 rfl w2.heap.size 23 i0 (.agg #[.int .i64 0, .int .i64 0, .string ⟨#[]⟩]) 3 32 Try.underlying27 hi hz0 hz1 hz2 rfl (by decide) _ _ _ rfl (HO.out.alloc _) ⟨w2.heap.size + 1, 0, none⟩ 1 1 [.int .i64 2, .int .i64 q, .string ⟨#[]⟩] rfl rfl ?_ ?_ ?_ ?_ ?_ ?_)
      all_goals first | (intro jj u hjj; exact cell_new (by simp) hjj) | (intro u hu; simp at hu; rcases hu with rfl | rfl | rfl <;> rfl) | (unfold maxLen; omega) | omega | (simp; done) | (simp; omega) | skip
      intro v' w3 hown' hgrow hnil
      have HS : Hid (SlB encU 3 w2.heap.size w3 v' [X]) := Lib.hid (SlB.of_own encU_len (by decide) (Nat.le_refl _) (by simp only [List.flatMap_cons, List.flatMap_nil, HVE.out]; simpa using hown'))
      have BE3 := Lib.hid ((((BE2.out.alloc (.cells #[.int .i64 2, .int .i64 q, .string ⟨#[]⟩] 23)).alloc (.cells #[.int .i64 2, .int .i64 q, .string ⟨#[]⟩] 23))).grown hgrow (by simp [Value.ownBlock]))
      have BV3 := Lib.hid ((BV.out.alloc (.cells #[.int .i64 2, .int .i64 q, .string ⟨#[]⟩] 23)).grown hgrow (by simp [Value.ownBlock]))
      have HF3 := Lib.hid (((HF2.out.alloc (by omega) (.cells #[.int .i64 2, .int .i64 q, .string ⟨#[]⟩] 23)).alloc (by simp; omega) (.cells #[.int .i64 2, .int .i64 q, .string ⟨#[]⟩] 23)).grown hgrow (by simp; omega) (fun k hk => by simp [Value.ownBlock] at hk))
      obtain ⟨A9, c9, rfl, _, _⟩ := own_slice hown'
      have q0 := later_cell BE3.out.lt (BE3.out.c 0 _ rfl)
      have p0 := later_cell BV3.out.lt (BV3.out.c 0 _ rfl)
      have p1 := later_cell BV3.out.lt (BV3.out.c 1 _ rfl)
      have p2 := later_cell BV3.out.lt (BV3.out.c 2 _ rfl)
      clear hown' hgrow hnil BE2 BV HF2 HO
      go_wp2_with fail
      (refine wp_region_later (by kernel_rfl) (by kernel_rfl) ?_
       repeat (first | go_big_quiet_step ((go_at_call 45; exact later_of (HBO.out _))) | quiet_step ((go_at_call 45; exact later_of (HBO.out _))))
       refine wpQuiet_nil ?_
       intro _ hw'
       obtain ⟨qL, hw''⟩ := hw'
       subst hw''
       obtain ⟨wL, h⟩ := qL)
      go_wp2
      go_ret3
      have zz := BE3.out.lt
      have z5 := HB3.out
      exact ⟨_, rfl, (HS.out.below h).mono (M := w.heap.size) (by omega), z5 ▸ HF3.out.trans (h.mono (by omega))⟩
set_option maxHeartbeats 4000000 in
set_option maxRecDepth 100000 in
theorem eval_short (op k n : Int) (s t nm : ByteArray) (b : Nat) (A : Option Addr) (m c : Nat) (w : World) (tb : Bool) (hop : op = 14 ∧ tb = false ∨ op = 15 ∧ tb = true) (HB : Box w b [.int .i64 0, .int .i64 2, .int .i64 (vbool tb).n, .string ⟨#[]⟩, .string ⟨#[]⟩, .string ⟨#[]⟩, .slice none 0 0]) :
    Calls Try.prog 18 #[.agg #[.int .i64 op, .int .i64 k, .int .i64 n, .string s, .string t, .string nm, .slice (some ⟨b, 0, none⟩) 2 2], .slice A m c, .int .i64 1] w fun e w' => e = .returned (.tuple #[.agg #[.int .i64 2, .int .i64 (vbool tb).n, .string ⟨#[]⟩], .int .i64 0]) ∧ Below w.heap.size w w' := by
  have HF := Lib.hid (((Below.refl w.heap.size w).alloc (Nat.le_refl _) (.cells #[.int .i64 op, .int .i64 k, .int .i64 n, .string s, .string t, .string nm, .slice (some ⟨b, 0, none⟩) 2 2] 26)).alloc (by simp) (.cells #[.int .i64 0, .int .i64 0, .string ⟨#[]⟩] 23))
  have HB1 := Lib.hid ((HB.alloc (.cells #[.int .i64 op, .int .i64 k, .int .i64 n, .string s, .string t, .string nm, .slice (some ⟨b, 0, none⟩) 2 2] 26)).alloc (.cells #[.int .i64 0, .int .i64 0, .string ⟨#[]⟩] 23))
  have BR := Lib.hid (Box.new (w.alloc (.cells #[.int .i64 op, .int .i64 k, .int .i64 n, .string s, .string t, .string nm, .slice (some ⟨b, 0, none⟩) 2 2] 26)) #[.int .i64 0, .int .i64 0, .string ⟨#[]⟩] 23)
  simp only [World.size_alloc] at BR
  have hsy := fun W => syn_two op (by rcases hop with h | h; exact .inl h.1; exact .inr h.1) W
  have hag := args_short op k n s t nm b A m c _ tb hop HB1.out
  have HX : Hid (encU (vbool tb) = [.int .i64 2, .int .i64 (vbool tb).n, .string ⟨#[]⟩]) := Lib.hid rfl
  generalize (vbool tb).n = q at *
  have ho : (op == 0) = false ∧ (op == 1) = false ∧ ¬ 18 ≤ op := by rcases hop with ⟨rfl, _⟩ | ⟨rfl, _⟩ <;> decide
  obtain ⟨o1, o2, o3⟩ := ho
  have HSY := Lib.hid hsy
  generalize vbool tb = X at *
  clear HB hop hsy
  go_enter Try.func18, Try.ntmps18
  go_wp2_with (refine (HSY.out _).mono ?_; rintro e w' ⟨rfl, rfl⟩)
  refine hag.mono ?_; rintro e w2 ⟨v, rfl, hv, h2⟩
  obtain ⟨A2, c2, rfl, _, hr, _, hN⟩ := hv
  obtain ⟨b0, off, rfl, hb0, hcx⟩ := hr 0 X rfl
  have hcc := hcx 0 X rfl
  rw [HX.out] at hcc
  have g0 := hcc 0 _ rfl
  have g1 := hcc 1 _ rfl
  have g2 := hcc 2 _ rfl
  simp only [Nat.zero_mul, Nat.add_zero] at g0 g1 g2
  have BR2 := Lib.hid (BR.out.below h2 (by simp))
  have HF2 := Lib.hid (HF.out.trans (h2.mono (by simp; omega)))
  have hne : b0 ≠ w.heap.size + 1 := by have := hN _ rfl; simp at this; omega
  clear hag hcc hcx hr hN h2
  have cBR20 := BR2.out.c 0 _ rfl; have fBR20 := BR2.out.f 0 (by simp); have cBR21 := BR2.out.c 1 _ rfl; have fBR21 := BR2.out.f 1 (by simp); have cBR22 := BR2.out.c 2 _ rfl; have fBR22 := BR2.out.f 2 (by simp); have lBR2 := BR2.out.lt
  go_wp2
  exact bodyPost_ret (v := .tuple #[.agg #[.int .i64 2, .int .i64 q, .string ⟨#[]⟩], .int .i64 0]) (by simp [results, Try.results18, go_sem, cBR20, cBR21, cBR22, lBR2]) rfl ⟨rfl, Below.setCell (Below.setCell (Below.setCell HF2.out (by simp) _) (by simp) _) (by simp) _⟩
set_option maxHeartbeats 4000000 in
set_option maxRecDepth 100000 in
theorem Eval_short (op k n : Int) (s t nm : ByteArray) (b : Nat) (A : Option Addr) (m c : Nat) (w : World) (tb : Bool) (hop : op = 14 ∧ tb = false ∨ op = 15 ∧ tb = true) (HB : Box w b [.int .i64 0, .int .i64 2, .int .i64 (vbool tb).n, .string ⟨#[]⟩, .string ⟨#[]⟩, .string ⟨#[]⟩, .slice none 0 0]) :
    Calls Try.prog 7 #[.agg #[.int .i64 op, .int .i64 k, .int .i64 n, .string s, .string t, .string nm, .slice (some ⟨b, 0, none⟩) 2 2], .slice A m c] w fun e w' => e = .returned (.tuple #[.agg #[.int .i64 2, .int .i64 (vbool tb).n, .string ⟨#[]⟩], .int .i64 0]) ∧ Below w.heap.size w w' := by
  have HF := Lib.hid (((Below.refl w.heap.size w).alloc (Nat.le_refl _) (.cells #[.int .i64 op, .int .i64 k, .int .i64 n, .string s, .string t, .string nm, .slice (some ⟨b, 0, none⟩) 2 2] 26)).alloc (by simp) (.cells #[.int .i64 0, .int .i64 0, .string ⟨#[]⟩] 23))
  have HB1 := Lib.hid ((HB.alloc (.cells #[.int .i64 op, .int .i64 k, .int .i64 n, .string s, .string t, .string nm, .slice (some ⟨b, 0, none⟩) 2 2] 26)).alloc (.cells #[.int .i64 0, .int .i64 0, .string ⟨#[]⟩] 23))
  have BR := Lib.hid (Box.new (w.alloc (.cells #[.int .i64 op, .int .i64 k, .int .i64 n, .string s, .string t, .string nm, .slice (some ⟨b, 0, none⟩) 2 2] 26)) #[.int .i64 0, .int .i64 0, .string ⟨#[]⟩] 23)
  simp only [World.size_alloc] at BR
  have hag := eval_short op k n s t nm b A m c _ tb hop HB1.out
  generalize (vbool tb).n = q at *
  clear HB hop
  go_enter Try.func7, Try.ntmps7
  go_wp2_with fail
  refine hag.mono ?_; rintro e w2 ⟨rfl, h2⟩
  have BR2 := Lib.hid (BR.out.below h2 (by simp))
  have HF2 := Lib.hid (HF.out.trans (h2.mono (by simp; omega)))
  clear hag h2
  have cBR20 := BR2.out.c 0 _ rfl; have fBR20 := BR2.out.f 0 (by simp); have cBR21 := BR2.out.c 1 _ rfl; have fBR21 := BR2.out.f 1 (by simp); have cBR22 := BR2.out.c 2 _ rfl; have fBR22 := BR2.out.f 2 (by simp); have lBR2 := BR2.out.lt
  go_wp2
  exact bodyPost_ret (v := .tuple #[.agg #[.int .i64 2, .int .i64 q, .string ⟨#[]⟩], .int .i64 0]) (by simp [results, Try.results7, go_sem, cBR20, cBR21, cBR22, lBR2]) rfl ⟨rfl, Below.setCell (Below.setCell (Below.setCell HF2.out (by simp) _) (by simp) _) (by simp) _⟩
end Go.Proofs.Ytbhajjinlbadhaa
