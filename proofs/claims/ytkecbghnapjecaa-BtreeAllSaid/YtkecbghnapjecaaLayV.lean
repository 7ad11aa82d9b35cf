/- Package btree: lay. -/
import Derived.Test.YtkecbghnapjecaaLayW
import Derived.Test.YtkecbghnapjecaaSmallW
namespace Go.Proofs.Ytkecbghnapjecaa
open Go.RowKit
set_option linter.unusedVariables false
set_option linter.unusedSimpArgs false
theorem lay_all : ∀ (n : Nat) (t : Tr), szT t ≤ n → LayGo t
  | 0, .mk ks vs ts, h => by unfold szT at h; omega
  | n + 1, .mk ks vs ts, h => lay_node ks vs ts (fun t ht => lay_all n t (by have := szT_kid (ks := ks) (vs := vs) ht; omega))
set_option maxRecDepth 100000 in
theorem lay_nil (w : World) : Calls Try.prog 27 #[.pointer none] w fun e w' => e = .returned (.agg #[.slice none 0 0, .int .i64 (-1)]) ∧ Below w.heap.size w w' := by
  have hn := Lib.hid (new_any (w.alloc (.cells #[.slice none 0 0, .int .i64 0] 27)))
  have HX := Lib.hid (Box.new w #[.slice none 0 0, .int .i64 0] 27)
  go_enter Try.func27, Try.ntmps27
  go_wp2_with fail
  refine hn.out.mono ?_
  rintro e w2 ⟨rfl, hb⟩
  replace HX := Lib.hid (HX.out.step hb)
  have hF : Below w.heap.size w w2 := below_step' ((Below.refl _ w).alloc (Nat.le_refl _) _) hb
  have HF := Lib.hid hF
  clear hb hF hn
  have cHX0 := HX.out.c 0 _ rfl; have fHX0 := HX.out.f 0 (by simp); have cHX1 := HX.out.c 1 _ rfl; have fHX1 := HX.out.f 1 (by simp); have lHX := HX.out.lt
  go_wp2
  clear cHX0 fHX0 cHX1 fHX1 lHX
  have hX1 := ((HX.out.set 0 (.slice none 0 0) (by simp)).set 1 (.int .i64 (-1)) (by simp)).alloc (.cells #[.slice none 0 0, .int .i64 (-1)] 27)
  have hF1 : Below w.heap.size w (((w2.setCell ⟨w.heap.size, 0, none⟩ (.slice none 0 0)).setCell ⟨w.heap.size, 1, none⟩ (.int .i64 (-1))).alloc (.cells #[.slice none 0 0, .int .i64 (-1)] 27)) := ((HF.out.setCell (p := ⟨w.heap.size, 0, none⟩) (Nat.le_refl _) _).setCell (p := ⟨w.heap.size, 1, none⟩) (Nat.le_refl _) _).alloc (by simpa using HF.out.size) _
  generalize (((w2.setCell ⟨w.heap.size, 0, none⟩ (.slice none 0 0)).setCell ⟨w.heap.size, 1, none⟩ (.int .i64 (-1))).alloc (.cells #[.slice none 0 0, .int .i64 (-1)] 27)) = wz at *
  have z0 := hX1.c 0 _ rfl
  have z1 := hX1.c 1 _ rfl
  refine bodyPost_ret (by simp [results, Try.results27, go_sem, z0, z1]; rfl) rfl ?_
  exact ⟨rfl, hF1⟩
theorem lay_ne {w w2 w3 : World} (hs3 : w3.heap.size = w2.heap.size + 2) (hlt : w.heap.size < w2.heap.size) : ¬ (w.heap.size = w2.heap.size ∨ (Value.slice none 0 0).ownBlock = some w.heap.size) := fun h => by
  rcases h with h | h
  · omega
  · simp [Value.ownBlock] at h
theorem lay_ge {w w2 : World} (hlt : w.heap.size < w2.heap.size) : ∀ k, (k = w2.heap.size ∨ (Value.slice none 0 0).ownBlock = some k) → w.heap.size ≤ k := fun k h => by
  rcases h with h | h
  · omega
  · simp [Value.ownBlock] at h
theorem lay_vn {w2 w3 : World} {v : Value} (hs3 : w3.heap.size = w2.heap.size + 2) (h : v.ownBlock = (Value.slice none 0 0).ownBlock ∨ ∀ b, v.ownBlock = some b → w3.heap.size ≤ b) : ∀ b, v.ownBlock = some b → w2.heap.size + 2 ≤ b := fun b hb => by
  rcases h with h | h
  · rw [h] at hb; simp [Value.ownBlock] at hb
  · have := h b hb; omega
set_option maxHeartbeats 4000000 in
set_option maxRecDepth 100000 in
theorem lay_any (P : Nat → Prop) (g : Nat) (t : Tr) (w : World) (hT : RdT w P g t) (hP : ∀ b, P b → b < w.heap.size) (hsz : szT t * 72 ≤ 140737488351232) :
    Calls Try.prog 27 #[.pointer (some ⟨g, 0, none⟩)] w fun e w' => ∃ A c, e = .returned (.agg #[.slice A (szT t) c, .int .i64 0]) ∧ (∀ (B : Nat → Prop) (w'' : World), (∀ k, B k → ¬ (P k ∨ w.heap.size ≤ k)) → Kept w'.heap.size B w' w'' → NodesAt w'' A (layT 0 t)) ∧ szT t ≤ c ∧ (A = none → c = 0) ∧ (∀ a, A = some a → w.heap.size ≤ a.block) ∧ Below w.heap.size w w' := by
  have hmf : ∀ (fn : Fn) (first cap : Array Value) (w : World), (Instr.makeFunc fn first cap).run Try.prog w = .ok (.func fn first cap) w := fun _ _ _ _ => rfl
  have eg : ∀ args w, (callFunc 44 args).run Try.prog w = .ok (.enter 44 args) w := enters_of Try.func44 (by kernel_rfl) rfl
  have hst := fun (W : World) (a : Addr) (f : FuncId) (c : Array Value) => run_store Try.prog W a (.func (.func f) #[] c) .plain rfl
  have hn := Lib.hid (new_any (w.alloc (.cells #[.slice none 0 0, .int .i64 0] 27)))
  have HX := Lib.hid (Box.new w #[.slice none 0 0, .int .i64 0] 27)
  have HT := Lib.hid hT
  have HG := Lib.hid (lay_all (szT t) t (Nat.le_refl _))
  clear hT
  go_enter Try.func27, Try.ntmps27
  go_wp2_with fail
  refine hn.out.mono ?_
  rintro e w2 ⟨rfl, hb⟩
  replace HX := Lib.hid (HX.out.step hb)
  have hF : Below w.heap.size w w2 := below_step' ((Below.refl _ w).alloc (Nat.le_refl _) _) hb
  have HF := Lib.hid hF
  have hlt : w.heap.size < w2.heap.size := HX.out.lt
  clear hb hF hn
  go_upto_region 6 with (fail)
  have HS := Lib.hid ((Box.new w2 #[.slice none 0 0, .int .i64 (-1)] 27).alloc (.cells #[.func (.func 44) #[] #[.pointer (some ⟨w2.heap.size, 0, none⟩), .pointer (some ⟨w2.heap.size + 1, 0, none⟩)]] 99))
  have HB := Lib.hid (Box.new (w2.alloc (.cells #[.slice none 0 0, .int .i64 (-1)] 27)) #[.func (.func 44) #[] #[.pointer (some ⟨w2.heap.size, 0, none⟩), .pointer (some ⟨w2.heap.size + 1, 0, none⟩)]] 99)
  replace HX := Lib.hid ((HX.out.alloc (.cells #[.slice none 0 0, .int .i64 (-1)] 27)).alloc (.cells #[.func (.func 44) #[] #[.pointer (some ⟨w2.heap.size, 0, none⟩), .pointer (some ⟨w2.heap.size + 1, 0, none⟩)]] 99))
  have hF1 : Below w.heap.size w ((w2.alloc (.cells #[.slice none 0 0, .int .i64 (-1)] 27)).alloc (.cells #[.func (.func 44) #[] #[.pointer (some ⟨w2.heap.size, 0, none⟩), .pointer (some ⟨w2.heap.size + 1, 0, none⟩)]] 99)) := (HF.out.alloc HF.out.size _).alloc (by simp; omega) _
  simp only [World.size_alloc] at HB
  have hs3 : ((w2.alloc (.cells #[.slice none 0 0, .int .i64 (-1)] 27)).alloc (.cells #[.func (.func 44) #[] #[.pointer (some ⟨w2.heap.size, 0, none⟩), .pointer (some ⟨w2.heap.size + 1, 0, none⟩)]] 99)).heap.size = w2.heap.size + 2 := by simp
  replace HF := Lib.hid hF1
  clear hF1 hst
  replace HT := Lib.hid (HT.out.below HF.out)
  generalize ((w2.alloc (.cells #[.slice none 0 0, .int .i64 (-1)] 27)).alloc (.cells #[.func (.func 44) #[] #[.pointer (some ⟨w2.heap.size, 0, none⟩), .pointer (some ⟨w2.heap.size + 1, 0, none⟩)]] 99)) = w3 at *
  have hgo := HG.out w3 w.heap.size w2.heap.size (w2.heap.size + 1) (-1) (.slice none 0 0) [] P g ⟨HT.out, hP, by omega, by omega, by omega, HS.out, HB.out, World.ownsRow_nil _ _ _ _, by simp [Value.ownBlock], by simp [Value.ownBlock], by simpa using hsz, by omega⟩
  have HGO := Lib.hid (hgo.mono (fun e w' h => Lib.hid h))
  clear hgo HG HT
  have cHB0 := HB.out.c 0 _ rfl; have fHB0 := HB.out.f 0 (by simp); have lHB := HB.out.lt
  go_wp2_with (go_at_fn 44; (with_reducible refine HGO.out.mono ?_); rintro e w4 HQ; obtain ⟨v4, M, rfl, hown, hld, hS4, hk4, hv4⟩ := HQ; clear HS HGO; have HS := Lib.hid hS4; have HO : Hid (w4.ownsRow w.heap.size 66 3 v4 (szT t) (M.flatMap enc3)) := Lib.hid (by simpa using hown); have HLD : Hid (LaidQ _ w4 M (layT 0 t)) := Lib.hid hld; replace HX := Lib.hid (HX.out.kept hk4 HX.out.lt (lay_ne hs3 hlt)); have hF4 : Below w.heap.size w w4 := HF.out.trans (hk4.to_below (by omega) (lay_ge hlt)); replace HF := Lib.hid hF4; have hvn := lay_vn hs3 hv4; have hs4 := hk4.size; clear hS4 hown hld hk4 hv4 hF4; obtain ⟨A, c, rfl, hc, hAn⟩ := own_slice HO.out; clear cHB0 fHB0 lHB; have cHS0 := HS.out.c 0 _ rfl; have fHS0 := HS.out.f 0 (by simp); have cHS1 := HS.out.c 1 _ rfl; have fHS1 := HS.out.f 1 (by simp); have lHS := HS.out.lt; have cHX0 := HX.out.c 0 _ rfl; have fHX0 := HX.out.f 0 (by simp); have cHX1 := HX.out.c 1 _ rfl; have fHX1 := HX.out.f 1 (by simp); have lHX := HX.out.lt)
  clear cHS0 fHS0 cHS1 fHS1 lHS; clear cHX0 fHX0 cHX1 fHX1 lHX
  have hk9 : Kept w4.heap.size (fun k => k = w2.heap.size ∨ k = w.heap.size) w4 (((w4.setCell ⟨w2.heap.size, 1, none⟩ (.int .i64 0)).setCell ⟨w.heap.size, 0, none⟩ (.slice A (szT t) c)).setCell ⟨w.heap.size, 1, none⟩ (.int .i64 0)) := (((Kept.refl _ (fun k => k = w2.heap.size ∨ k = w.heap.size) w4).set ⟨w2.heap.size, 1, none⟩ (.int .i64 0) (.inr (.inl rfl))).set ⟨w.heap.size, 0, none⟩ (.slice A (szT t) c) (.inr (.inr rfl))).set ⟨w.heap.size, 1, none⟩ (.int .i64 0) (.inr (.inr rfl))
  have hX9 := ((HX.out.other ⟨w2.heap.size, 1, none⟩ (.int .i64 0) (by simp; omega)).set 0 (.slice A (szT t) c) (by simp)).set 1 (.int .i64 0) (by simp)
  have hF9 : Below w.heap.size w (((w4.setCell ⟨w2.heap.size, 1, none⟩ (.int .i64 0)).setCell ⟨w.heap.size, 0, none⟩ (.slice A (szT t) c)).setCell ⟨w.heap.size, 1, none⟩ (.int .i64 0)) := ((HF.out.setCell (p := ⟨w2.heap.size, 1, none⟩) (by simp; omega) _).setCell (p := ⟨w.heap.size, 0, none⟩) (Nat.le_refl _) _).setCell (p := ⟨w.heap.size, 1, none⟩) (Nat.le_refl _) _
  generalize (((w4.setCell ⟨w2.heap.size, 1, none⟩ (.int .i64 0)).setCell ⟨w.heap.size, 0, none⟩ (.slice A (szT t) c)).setCell ⟨w.heap.size, 1, none⟩ (.int .i64 0)) = wz at *
  have hO9 := hk9.own HO.out (fun b hb => ⟨(HO.out.lt b hb).2, fun h => by have := hvn b hb; omega⟩)
  have hL9 := HLD.out.kept hk9 (fun k hk h => by
    rcases h.1 with h | h
    · have := hP k h; omega
    · omega)
  have hN9 : ∀ (B : Nat → Prop) (w'' : World), (∀ k, B k → ¬ (P k ∨ w.heap.size ≤ k)) → Kept wz.heap.size B wz w'' → NodesAt w'' A (layT 0 t) := fun B w'' hB hk => NodesAt.of_own (P := fun b => (P b ∨ w3.heap.size ≤ b) ∧ (Value.slice A (szT t) c).ownBlock ≠ some b) (hk.own hO9 (fun b hb => ⟨(hO9.lt b hb).2, fun h => hB b h (.inr (hO9.lt b hb).1)⟩)) hL9.1 (fun i x n h1 h2 => (hL9.2 i x n h1 h2).kept hk (fun k hk h => hB k hk (h.1.imp id (fun h => by omega))))
  have z0 := hX9.c 0 _ rfl
  have z1 := hX9.c 1 _ rfl
  clear hk9 hX9 hO9 hL9
  refine bodyPost_ret (by simp [results, Try.results27, go_sem, z0, z1]; rfl) rfl ?_
  exact ⟨A, c, rfl, hN9, hc, hAn, fun a ha => by have := hvn a.block (by rw [ha]; rfl); omega, hF9⟩
end Go.Proofs.Ytkecbghnapjecaa
