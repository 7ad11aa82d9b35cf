/- The law GcKeys. -/
import Derived.Test.YtpkacnoimdjckaaAliveG
import Derived.Test.YtpkacnoimdjckaaLawG
import Derived.Test.YtpkacnoimdjckaaGetW
namespace Go.Proofs.Ytpkacnoimdjckaa
open Go.RowKit
open Go.Shelf
set_option linter.unusedVariables false
set_option linter.unusedSimpArgs false
theorem get_here {ks : List ByteArray} {ls : List (List Ver)} (hc : chkC ks ls = 0) {j : Nat} {y : ByteArray} {l : List Ver} (hk : ks[j]? = some y) (hl : ls[j]? = some l) (snap tx : Int) : getR ks ls y snap tx = seeR snap tx l := by
  unfold getR
  rw [if_neg (by simp [hc]), find_at (chkC_ok hc).2.2.1 hk hl rfl]
theorem see_ok {l : List Ver} (hc : chk l = 0) (snap tx : Int) : (seeR snap tx l).2.2.2 = 0 := by
  unfold seeR; rw [if_pos hc]; cases see snap tx l <;> rfl
theorem range_app (fr tt : ByteArray) (snap tx : Int) {Z : List (ByteArray × List Ver)} {j : Nat} {z : ByteArray × List Ver} (h : Z[j]? = some z) : Z.flatMap (tellP fr tt snap tx) = (Z.take j).flatMap (tellP fr tt snap tx) ++ (tellP fr tt snap tx z ++ (Z.drop (j + 1)).flatMap (tellP fr tt snap tx)) := by
  have e : Z = Z.take (j + 1) ++ Z.drop (j + 1) := (List.take_append_drop _ _).symm
  conv => lhs; rw [e, List.flatMap_append, tell_snoc h]
  rw [List.append_assoc]
set_option maxHeartbeats 8000000 in
set_option maxRecDepth 100000 in
theorem keys_law (AK AL : Option Addr) (ck cl : Nat) (ks : List ByteArray) (ls : List (List Ver)) (fr tt : ByteArray) (snap tx : Int) (w : World) (HK : RowE encS 1 w AK ks) (HL : RowL w AL ls) (hnk : AK = none → ck = 0) (hk : ks.length * 16 ≤ 140737488351232) (hl : ls.length * 24 ≤ 140737488351232) (hls : ∀ l ∈ ls, l.length * 40 ≤ 140737488351232) :
    Calls Try.prog 7 #[.agg #[.slice AK ks.length ck, .slice AL ls.length cl], .string fr, .string tt, .int .i64 snap, .int .i64 tx] w fun e w' => e = .returned (.bool true) ∧ Below w.heap.size w w' := by
  have h0 : Below w.heap.size w (w.alloc (.cells #[.slice AK ks.length ck, .slice AL ls.length cl] 25)) := (by (repeat (first | (with_reducible exact Below.refl _ _) | apply below_alloc _ (Nat.le_refl _) | refine below_set ?_ (by first | exact Nat.le_refl _ | omega) | apply below_drewN | refine below_step ?_ HB)))
  have BC := Lib.hid (Box.new w #[.slice AK ks.length ck, .slice AL ls.length cl] 25)
  have HF := Lib.hid h0
  have RK := Lib.hid (HK.below h0)
  have RL := Lib.hid (HL.below h0)
  have HLS := Lib.hid hls
  clear h0 HK HL hls
  go_enter Try.func7, Try.ntmps7
  go_wp2_with fail
  generalize w.alloc (.cells #[.slice AK ks.length ck, .slice AL ls.length cl] 25) = w0 at *
  refine (alive_any _).mono ?_; rintro e w1 ⟨rfl, h1⟩
  replace BC := Lib.hid (BC.out.below h1 BC.out.lt); replace HF := Lib.hid (below_step' HF.out h1); replace RK := Lib.hid (RK.out.below h1); replace RL := Lib.hid (RL.out.below h1)
  clear h1
  have hof := gof_any AK AL ck cl ks ls w1 RK.out RL.out hnk hk hl HLS.out
  have cBC0 := BC.out.c 0 _ rfl; have fBC0 := BC.out.f 0 (by simp); have cBC1 := BC.out.c 1 _ rfl; have fBC1 := BC.out.f 1 (by simp); have lBC := BC.out.lt
  go_wp2_with fail
  clear cBC0 fBC0 cBC1 fBC1 lBC
  refine hof.mono ?_; rintro e w2 ⟨v2, rfl, hv2, h2⟩
  replace BC := Lib.hid (BC.out.below h2 BC.out.lt); replace HF := Lib.hid (below_step' HF.out h2); replace RK := Lib.hid (RK.out.below h2); replace RL := Lib.hid (RL.out.below h2)
  obtain ⟨AK2, AL2, ck2, cl2, rfl, hrk2, hrl2, _⟩ := hv2
  have hra := range_any AK2 AL2 ck2 cl2 ks ls fr tt snap tx w2 hrk2 hrl2.row (by omega) (by omega)
  clear hof h2 hrk2 hrl2
  by_cases hc0 : chkC ks ls = 0
  · have hRR : rangeR ks ls fr tt snap tx = ((ks.zip ls).flatMap (tellP fr tt snap tx), 0) := by unfold rangeR; rw [if_neg (by simp [hc0])]; rfl
    rw [hRR] at hra
    have hRl : ((ks.zip ls).flatMap (tellP fr tt snap tx)).length ≤ ks.length := Nat.le_trans (tell_len fr tt snap tx (ks.zip ls)) (by rw [List.length_zip]; omega)
    obtain ⟨R, hR⟩ : ∃ R, R = (ks.zip ls).flatMap (tellP fr tt snap tx) := ⟨_, rfl⟩
    rw [← hR] at hra hRl
    have HR := Lib.hid hR
    have hk8 := (chkC_ok hc0).2.1
    have HLEN := Lib.hid (chkC_ok hc0).1
    have HC0 := Lib.hid hc0
    clear hRR hR hc0
    dsimp only at hra
    go_wp2_with fail
    refine hra.mono ?_; rintro e w3 ⟨v3, rfl, ⟨AR, cR, rfl, hcR, hrR, hnR, _⟩, h3⟩
    replace BC := Lib.hid (BC.out.below h3 BC.out.lt); replace HF := Lib.hid (below_step' HF.out h3); replace RK := Lib.hid (RK.out.below h3); replace RL := Lib.hid (RL.out.below h3)
    have VS := Lib.hid hrR
    clear hra h3 hrR
    go_wp2_with (go_at_call 13; (with_reducible refine (num_any _ _).mono ?_); rintro e w' ⟨rfl, rfl⟩)
    go_loopw [13, 14] (fun s13 s14 wr => ∃ j : Nat, j ≤ ks.length ∧ s14 = .int .i64 j ∧ (∃ n : Nat, s13 = .int .i64 n ∧ Hid ((((ks.zip ls).take j).flatMap (tellP fr tt snap tx)).length = n)) ∧ Hid (Below w.heap.size w wr) ∧ Hid (Box wr w.heap.size [.slice AK ks.length ck, .slice AL ls.length cl]) ∧ Hid (RowE encS 1 wr AK ks) ∧ Hid (RowL wr AL ls) ∧ Hid (RowE encP 2 wr AR R)) (fun _ s14 _ => ks.length - (Lib.intOf s14).toNat)
    case atStart => exact ⟨0, Nat.zero_le _, rfl, ⟨0, rfl, Lib.hid rfl⟩, HF, BC, RK, RL, VS⟩
    case round =>
      obtain ⟨j, hj, rfl, ⟨n, rfl, HN⟩, HFr, BCr, RKr, RLr, VSr⟩ := hrel
      clear HF BC RK RL VS
      by_cases hlt : j < ks.length
      · obtain ⟨y, hy⟩ : ∃ y, ks[j]? = some y := ⟨_, List.getElem?_eq_getElem hlt⟩
        obtain ⟨l, hl0⟩ : ∃ l, ls[j]? = some l := ⟨_, List.getElem?_eq_getElem (by have := HLEN.out; omega)⟩
        have hZ : (ks.zip ls)[j]? = some (y, l) := List.getElem?_zip_eq_some.2 ⟨hy, hl0⟩
        have hlc := ((chkC_ok HC0.out).2.2.2 l (List.mem_of_getElem? hl0)).2
        have HGE := Lib.hid (get_here HC0.out hy hl0 snap tx)
        have hso := see_ok hlc snap tx
        have HSN := Lib.hid (tell_snoc (fr := fr) (tt := tt) (snap := snap) (tx := tx) hZ)
        have HRA := Lib.hid (HR.out.trans (range_app fr tt snap tx hZ))
        have HTP : Hid (tellP fr tt snap tx (y, l) = if inSpan fr tt y = true ∧ (seeR snap tx l).2.1 = true then [(y, (seeR snap tx l).1)] else []) := Lib.hid rfl
        have hji : (j : Int) < (ks.length : Int) := by omega
        obtain ⟨bk, ok, rfl, hbk, hck⟩ := RKr.out j y hy
        have gk : wr.cell? ⟨bk, ok + j, none⟩ = some (.string y) := by have := hck j y hy 0 _ rfl; simpa using this
        clear hy hl0 hZ hlc hck
        generalize seeR snap tx l = r at *
        obtain ⟨rv, ri, rs, re⟩ := r
        dsimp only at hso
        subst hso
        have cBCr0 := BCr.out.c 0 _ rfl; have fBCr0 := BCr.out.f 0 (by simp); have cBCr1 := BCr.out.c 1 _ rfl; have fBCr1 := BCr.out.f 1 (by simp); have lBCr := BCr.out.lt
        go_upto_region 10 with (fail)
        clear cBCr0 fBCr0 cBCr1 fBCr1 lBCr
        refine stage_begin (S := fun (L' : Array Bool) (w' : World) => w'.cell? ⟨w.heap.size, 0, none⟩ = some (.slice (some ⟨bk, ok, none⟩) ks.length ck) ∧ w'.cell? ⟨w.heap.size, 1, none⟩ = some (.slice AL ls.length cl) ∧ w'.cell? ⟨bk, ok + j, none⟩ = some (.string y)) (by kernel_rfl) ?_
        have HFx : Hid (Below w.heap.size w wr.drew) := Lib.hid (below_drewN HFr.out 1)
        have BCx := Lib.hid BCr.out.drew
        have RKx : Hid (RowE encS 1 wr.drew (some ⟨bk, ok, none⟩) ks) := RKr
        have RLx : Hid (RowL wr.drew AL ls) := Lib.hid (RLr.out.below (below_drewN (Below.refl _ wr) 1))
        have VSx : Hid (RowE encP 2 wr.drew AR R) := VSr
        have gx : wr.drew.cell? ⟨bk, ok + j, none⟩ = some (.string y) := gk
        have hof := gof_any (some ⟨bk, ok, none⟩) AL ck cl ks ls wr.drew RKx.out RLx.out (fun h => by cases h) hk hl HLS.out
        clear HFr BCr RKr RLr VSr gk
        generalize wr.drew = wd at *
        have hS0 : (fun w' : World => w'.cell? ⟨w.heap.size, 0, none⟩ = some (.slice (some ⟨bk, ok, none⟩) ks.length ck) ∧ w'.cell? ⟨w.heap.size, 1, none⟩ = some (.slice AL ls.length cl) ∧ w'.cell? ⟨bk, ok + j, none⟩ = some (.string y)) wd := ⟨BCx.out.c 0 _ rfl, BCx.out.c 1 _ rfl, gx⟩
        refine stage_take (i := 0) (oi := { dst := some 45, op := Go.Op.load 25 (Go.Operand.tmp 5), type := 25, pos := "law.go:145", after := #[], guard := none }) (v := ?_) (T := fun w' : World => w'.cell? ⟨w.heap.size, 0, none⟩ = some (.slice (some ⟨bk, ok, none⟩) ks.length ck) ∧ w'.cell? ⟨w.heap.size, 1, none⟩ = some (.slice AL ls.length cl) ∧ w'.cell? ⟨bk, ok + j, none⟩ = some (.string y)) rfl (by kernel_rfl) (by kernel_rfl) (by kernel_rfl) (by kernel_rfl) (fun _ _ _ h => h) (fun L' w' hW hS => hS) (fun L' w' hS => hS) (Or.inl ⟨by rfl, ?_⟩) (hS0) (hS0) ?_
        rotate_left 1
        · intro w9 hS9; obtain ⟨z0, z1, z2⟩ := hS9; go_simp; (try with_reducible rfl)
        try simp only [Act.put, List.setIfInBounds_toArray, List.set_cons_zero, List.set_cons_succ]
        refine stage_take (i := 2) (oi := { dst := some 47, op := Go.Op.fieldAddr 25 (Go.Operand.tmp 5) 0, type := 0, pos := "law.go:145", after := #[], guard := none }) (v := ?_) (T := fun _ => True) rfl (by kernel_rfl) (by kernel_rfl) (by kernel_rfl) (by kernel_rfl) (fun _ _ _ h => h) (fun L' w' hW hS => trivial) (fun L' w' hS => hS) (Or.inl ⟨by rfl, ?_⟩) trivial (hS0) ?_
        rotate_left 1
        · intro w9 _; go_simp; (try with_reducible rfl)
        try simp only [Act.put, List.setIfInBounds_toArray, List.set_cons_zero, List.set_cons_succ]
        refine stage_take (i := 3) (oi := { dst := some 48, op := Go.Op.load 22 (Go.Operand.tmp 47), type := 22, pos := "law.go:145", after := #[{ on := 2, ground := Go.Ground.data }], guard := none }) (v := ?_) (T := fun w' : World => w'.cell? ⟨w.heap.size, 0, none⟩ = some (.slice (some ⟨bk, ok, none⟩) ks.length ck) ∧ w'.cell? ⟨w.heap.size, 1, none⟩ = some (.slice AL ls.length cl) ∧ w'.cell? ⟨bk, ok + j, none⟩ = some (.string y)) rfl (by kernel_rfl) (by kernel_rfl) (by kernel_rfl) (by kernel_rfl) (fun _ _ _ h => h) (fun L' w' hW hS => hS) (fun L' w' hS => hS) (Or.inl ⟨by rfl, ?_⟩) (hS0) (hS0) ?_
        rotate_left 1
        · intro w9 hS9; obtain ⟨z0, z1, z2⟩ := hS9; go_simp; (try with_reducible rfl)
        try simp only [Act.put, List.setIfInBounds_toArray, List.set_cons_zero, List.set_cons_succ]
        refine stage_take (i := 4) (oi := { dst := some 49, op := Go.Op.move (Go.Operand.tmp 14), type := 3, pos := "law.go:145", after := #[], guard := none }) (v := ?_) (T := fun _ => True) rfl (by kernel_rfl) (by kernel_rfl) (by kernel_rfl) (by kernel_rfl) (fun _ _ _ h => h) (fun L' w' hW hS => trivial) (fun L' w' hS => hS) (Or.inl ⟨by rfl, ?_⟩) trivial (hS0) ?_
        rotate_left 1
        · intro w9 _; go_simp; (try with_reducible rfl)
        try simp only [Act.put, List.setIfInBounds_toArray, List.set_cons_zero, List.set_cons_succ]
        refine stage_take (i := 5) (oi := { dst := some 50, op := Go.Op.indexAddr 22 (Go.Operand.tmp 48) (Go.Operand.tmp 49), type := 0, pos := "law.go:145", after := #[{ on := 3, ground := Go.Ground.data }, { on := 4, ground := Go.Ground.data }], guard := none }) (v := ?_) (T := fun _ => True) rfl (by kernel_rfl) (by kernel_rfl) (by kernel_rfl) (by kernel_rfl) (fun _ _ _ h => h) (fun L' w' hW hS => trivial) (fun L' w' hS => hS) (Or.inl ⟨by rfl, ?_⟩) trivial (hS0) ?_
        rotate_left 1
        · intro w9 _; go_simp; (try with_reducible rfl)
        try simp only [Act.put, List.setIfInBounds_toArray, List.set_cons_zero, List.set_cons_succ]
        refine stage_take (i := 6) (oi := { dst := some 51, op := Go.Op.load 9 (Go.Operand.tmp 50), type := 9, pos := "law.go:145", after := #[{ on := 5, ground := Go.Ground.data }], guard := none }) (v := ?_) (T := fun w' : World => w'.cell? ⟨w.heap.size, 0, none⟩ = some (.slice (some ⟨bk, ok, none⟩) ks.length ck) ∧ w'.cell? ⟨w.heap.size, 1, none⟩ = some (.slice AL ls.length cl) ∧ w'.cell? ⟨bk, ok + j, none⟩ = some (.string y)) rfl (by kernel_rfl) (by kernel_rfl) (by kernel_rfl) (by kernel_rfl) (fun _ _ _ h => h) (fun L' w' hW hS => hS) (fun L' w' hS => hS) (Or.inl ⟨by rfl, ?_⟩) (hS0) (hS0) ?_
        rotate_left 1
        · intro w9 hS9; obtain ⟨z0, z1, z2⟩ := hS9; go_simp; (try with_reducible rfl)
        try simp only [Act.put, List.setIfInBounds_toArray, List.set_cons_zero, List.set_cons_succ]
        refine stage_take (i := 7) (oi := { dst := some 52, op := Go.Op.move (Go.Operand.tmp 3), type := 3, pos := "law.go:145", after := #[], guard := none }) (v := ?_) (T := fun _ => True) rfl (by kernel_rfl) (by kernel_rfl) (by kernel_rfl) (by kernel_rfl) (fun _ _ _ h => h) (fun L' w' hW hS => trivial) (fun L' w' hS => hS) (Or.inl ⟨by rfl, ?_⟩) trivial (hS0) ?_
        rotate_left 1
        · intro w9 _; go_simp; (try with_reducible rfl)
        try simp only [Act.put, List.setIfInBounds_toArray, List.set_cons_zero, List.set_cons_succ]
        refine stage_take (i := 8) (oi := { dst := some 53, op := Go.Op.move (Go.Operand.tmp 4), type := 3, pos := "law.go:145", after := #[], guard := none }) (v := ?_) (T := fun _ => True) rfl (by kernel_rfl) (by kernel_rfl) (by kernel_rfl) (by kernel_rfl) (fun _ _ _ h => h) (fun L' w' hW hS => trivial) (fun L' w' hS => hS) (Or.inl ⟨by rfl, ?_⟩) trivial (hS0) ?_
        rotate_left 1
        · intro w9 _; go_simp; (try with_reducible rfl)
        try simp only [Act.put, List.setIfInBounds_toArray, List.set_cons_zero, List.set_cons_succ]
        clear hS0
        refine stage_all (rs := [1]) (by kernel_rfl) (by simp) (fun i0 hi0 => ?_)
        obtain rfl : i0 = 1 := by simpa using hi0
        refine stage_step (S := fun (L' : Array Bool) (w' : World) => w'.cell? ⟨w.heap.size, 0, none⟩ = some (.slice (some ⟨bk, ok, none⟩) ks.length ck) ∧ w'.cell? ⟨w.heap.size, 1, none⟩ = some (.slice AL ls.length cl) ∧ w'.cell? ⟨bk, ok + j, none⟩ = some (.string y)) (o := { dst := some 46, op := Go.Op.call { callee := Go.Callee.value (Go.Operand.func 9), args := #[Go.Operand.tmp 45], argTypes := #[25] }, type := 28, pos := "law.go:145", after := #[{ on := 0, ground := Go.Ground.data }], guard := none }) (by rfl) (fun K2 hK => ?_)
        go_simp
        go_wp2_with (go_at_call 9; (with_reducible refine hof.mono ?_); rintro e w2 ⟨v2, rfl, hv2, h2⟩)
        obtain ⟨AK2, AL2, ck2, cl2, rfl, hrk2, hrl2, _⟩ := hv2
        have hge := get_any AK2 AL2 ck2 cl2 ks ls y snap tx w2 hrk2 hrl2.row (by omega) (by omega)
        rw [HGE.out] at hge
        replace BCx := Lib.hid (BCx.out.below h2 BCx.out.lt); replace HFx := Lib.hid (below_step' HFx.out h2); replace RKx := Lib.hid (RKx.out.below h2); replace RLx := Lib.hid (RLx.out.below h2); replace VSx := Lib.hid (VSx.out.below h2)
        replace gx := (h2.cell (p := ⟨bk, ok + j, none⟩) (World.block_lt_of_cell? _ _ gx)).trans gx
        clear hof h2 hrk2 hrl2
        refine hK.out _ _ (⟨BCx.out.c 0 _ rfl, BCx.out.c 1 _ rfl, gx⟩) ?_
        clear hK K2
        try simp only [Act.put, List.setIfInBounds_toArray, List.set_cons_zero, List.set_cons_succ]
        refine stage_all (rs := [9]) (by kernel_rfl) (by simp) (fun i0 hi0 => ?_)
        obtain rfl : i0 = 9 := by simpa using hi0
        refine stage_step (S := fun (L' : Array Bool) (w' : World) => w'.cell? ⟨w.heap.size, 0, none⟩ = some (.slice (some ⟨bk, ok, none⟩) ks.length ck) ∧ w'.cell? ⟨w.heap.size, 1, none⟩ = some (.slice AL ls.length cl) ∧ w'.cell? ⟨bk, ok + j, none⟩ = some (.string y)) (o := { dst := some 54, op := Go.Op.call { callee := Go.Callee.value (Go.Operand.func 19), args := #[Go.Operand.tmp 46, Go.Operand.tmp 51, Go.Operand.tmp 52, Go.Operand.tmp 53], argTypes := #[28, 9, 3, 3] }, type := 53, pos := "law.go:145", after := #[{ on := 1, ground := Go.Ground.data }, { on := 6, ground := Go.Ground.data }, { on := 7, ground := Go.Ground.data }, { on := 8, ground := Go.Ground.data }, { on := 1, ground := Go.Ground.chain }], guard := none }) (by rfl) (fun K2 hK => ?_)
        go_simp
        go_wp2_with (go_at_call 19; (with_reducible refine hge.mono ?_); rintro e w3 ⟨rfl, h3⟩)
        replace BCx := Lib.hid (BCx.out.below h3 BCx.out.lt); replace HFx := Lib.hid (below_step' HFx.out h3); replace RKx := Lib.hid (RKx.out.below h3); replace RLx := Lib.hid (RLx.out.below h3); replace VSx := Lib.hid (VSx.out.below h3)
        replace gx := (h3.cell (p := ⟨bk, ok + j, none⟩) (World.block_lt_of_cell? _ _ gx)).trans gx
        clear hge h3
        refine hK.out _ _ (⟨BCx.out.c 0 _ rfl, BCx.out.c 1 _ rfl, gx⟩) ?_
        clear hK K2
        try simp only [Act.put, List.setIfInBounds_toArray, List.set_cons_zero, List.set_cons_succ]
        refine stage_take (i := 10) (oi := { dst := some 44, op := Go.Op.move (Go.Operand.tmp 54), type := 53, pos := "law.go:145", after := #[{ on := 9, ground := Go.Ground.data }], guard := none }) (v := ?_) (T := fun _ => True) rfl (by kernel_rfl) (by kernel_rfl) (by kernel_rfl) (by kernel_rfl) (fun _ _ _ h => h) (fun L' w' hW hS => trivial) (fun L' w' hS => hS) (Or.inl ⟨by rfl, ?_⟩) trivial (⟨BCx.out.c 0 _ rfl, BCx.out.c 1 _ rfl, gx⟩) ?_
        rotate_left 1
        · intro w9 _; go_simp; (try with_reducible rfl)
        try simp only [Act.put, List.setIfInBounds_toArray, List.set_cons_zero, List.set_cons_succ]
        refine stage_take (i := 11) (oi := { dst := some 55, op := Go.Op.extract (Go.Operand.tmp 44) 0, type := 9, pos := "law.go:145", after := #[{ on := 10, ground := Go.Ground.data }], guard := none }) (v := ?_) (T := fun _ => True) rfl (by kernel_rfl) (by kernel_rfl) (by kernel_rfl) (by kernel_rfl) (fun _ _ _ h => h) (fun L' w' hW hS => trivial) (fun L' w' hS => hS) (Or.inl ⟨by rfl, ?_⟩) trivial (⟨BCx.out.c 0 _ rfl, BCx.out.c 1 _ rfl, gx⟩) ?_
        rotate_left 1
        · intro w9 _; go_simp; (try with_reducible rfl)
        try simp only [Act.put, List.setIfInBounds_toArray, List.set_cons_zero, List.set_cons_succ]
        refine stage_take (i := 12) (oi := { dst := some 56, op := Go.Op.extract (Go.Operand.tmp 44) 1, type := 4, pos := "law.go:145", after := #[{ on := 10, ground := Go.Ground.data }, { on := 15, ground := Go.Ground.gcOnly Go.Departure.lateStores }], guard := none }) (v := ?_) (T := fun _ => True) rfl (by kernel_rfl) (by kernel_rfl) (by kernel_rfl) (by kernel_rfl) (fun _ _ _ h => h) (fun L' w' hW hS => trivial) (fun L' w' hS => hS) (Or.inl ⟨by rfl, ?_⟩) trivial (⟨BCx.out.c 0 _ rfl, BCx.out.c 1 _ rfl, gx⟩) ?_
        rotate_left 1
        · intro w9 _; go_simp; (try with_reducible rfl)
        try simp only [Act.put, List.setIfInBounds_toArray, List.set_cons_zero, List.set_cons_succ]
        refine stage_take (i := 13) (oi := { dst := some 57, op := Go.Op.extract (Go.Operand.tmp 44) 2, type := 3, pos := "law.go:145", after := #[{ on := 10, ground := Go.Ground.data }, { on := 16, ground := Go.Ground.gcOnly Go.Departure.lateStores }], guard := none }) (v := ?_) (T := fun _ => True) rfl (by kernel_rfl) (by kernel_rfl) (by kernel_rfl) (by kernel_rfl) (fun _ _ _ h => h) (fun L' w' hW hS => trivial) (fun L' w' hS => hS) (Or.inl ⟨by rfl, ?_⟩) trivial (⟨BCx.out.c 0 _ rfl, BCx.out.c 1 _ rfl, gx⟩) ?_
        rotate_left 1
        · intro w9 _; go_simp; (try with_reducible rfl)
        try simp only [Act.put, List.setIfInBounds_toArray, List.set_cons_zero, List.set_cons_succ]
        refine stage_take (i := 14) (oi := { dst := some 58, op := Go.Op.extract (Go.Operand.tmp 44) 3, type := 30, pos := "law.go:145", after := #[{ on := 10, ground := Go.Ground.data }, { on := 17, ground := Go.Ground.gcOnly Go.Departure.lateStores }], guard := none }) (v := ?_) (T := fun _ => True) rfl (by kernel_rfl) (by kernel_rfl) (by kernel_rfl) (by kernel_rfl) (fun _ _ _ h => h) (fun L' w' hW hS => trivial) (fun L' w' hS => hS) (Or.inl ⟨by rfl, ?_⟩) trivial (⟨BCx.out.c 0 _ rfl, BCx.out.c 1 _ rfl, gx⟩) ?_
        rotate_left 1
        · intro w9 _; go_simp; (try with_reducible rfl)
        try simp only [Act.put, List.setIfInBounds_toArray, List.set_cons_zero, List.set_cons_succ]
        refine stage_take (i := 15) (oi := { dst := some 15, op := Go.Op.assign (Go.Operand.tmp 55), type := 9, pos := "law.go:145", after := #[{ on := 11, ground := Go.Ground.data }, { on := 9, ground := Go.Ground.chain }, { on := 0, ground := Go.Ground.phase }, { on := 1, ground := Go.Ground.phase }, { on := 2, ground := Go.Ground.phase }, { on := 3, ground := Go.Ground.phase }, { on := 4, ground := Go.Ground.phase }, { on := 5, ground := Go.Ground.phase }, { on := 6, ground := Go.Ground.phase }, { on := 7, ground := Go.Ground.phase }, { on := 8, ground := Go.Ground.phase }, { on := 9, ground := Go.Ground.phase }, { on := 10, ground := Go.Ground.phase }, { on := 11, ground := Go.Ground.phase }, { on := 12, ground := Go.Ground.textOnly Go.Departure.lateStores }, { on := 13, ground := Go.Ground.textOnly Go.Departure.lateStores }, { on := 14, ground := Go.Ground.textOnly Go.Departure.lateStores }], guard := none }) (v := ?_) (T := fun _ => True) rfl (by kernel_rfl) (by kernel_rfl) (by kernel_rfl) (by kernel_rfl) (fun _ _ _ h => h) (fun L' w' hW hS => trivial) (fun L' w' hS => hS) (Or.inl ⟨by rfl, ?_⟩) trivial (⟨BCx.out.c 0 _ rfl, BCx.out.c 1 _ rfl, gx⟩) ?_
        rotate_left 1
        · intro w9 _; go_simp; (try with_reducible rfl)
        try simp only [Act.put, List.setIfInBounds_toArray, List.set_cons_zero, List.set_cons_succ]
        refine stage_take (i := 16) (oi := { dst := some 16, op := Go.Op.assign (Go.Operand.tmp 56), type := 4, pos := "law.go:145", after := #[{ on := 12, ground := Go.Ground.data }, { on := 15, ground := Go.Ground.chain }, { on := 0, ground := Go.Ground.phase }, { on := 1, ground := Go.Ground.phase }, { on := 2, ground := Go.Ground.phase }, { on := 3, ground := Go.Ground.phase }, { on := 4, ground := Go.Ground.phase }, { on := 5, ground := Go.Ground.phase }, { on := 6, ground := Go.Ground.phase }, { on := 7, ground := Go.Ground.phase }, { on := 8, ground := Go.Ground.phase }, { on := 9, ground := Go.Ground.phase }, { on := 10, ground := Go.Ground.phase }, { on := 11, ground := Go.Ground.phase }, { on := 12, ground := Go.Ground.phase }, { on := 13, ground := Go.Ground.textOnly Go.Departure.lateStores }, { on := 14, ground := Go.Ground.textOnly Go.Departure.lateStores }, { on := 15, ground := Go.Ground.phase }], guard := none }) (v := ?_) (T := fun _ => True) rfl (by kernel_rfl) (by kernel_rfl) (by kernel_rfl) (by kernel_rfl) (fun _ _ _ h => h) (fun L' w' hW hS => trivial) (fun L' w' hS => hS) (Or.inl ⟨by rfl, ?_⟩) trivial (⟨BCx.out.c 0 _ rfl, BCx.out.c 1 _ rfl, gx⟩) ?_
        rotate_left 1
        · intro w9 _; go_simp; (try with_reducible rfl)
        try simp only [Act.put, List.setIfInBounds_toArray, List.set_cons_zero, List.set_cons_succ]
        refine stage_take (i := 17) (oi := { dst := some 17, op := Go.Op.assign (Go.Operand.tmp 57), type := 3, pos := "law.go:145", after := #[{ on := 13, ground := Go.Ground.data }, { on := 16, ground := Go.Ground.chain }, { on := 0, ground := Go.Ground.phase }, { on := 1, ground := Go.Ground.phase }, { on := 2, ground := Go.Ground.phase }, { on := 3, ground := Go.Ground.phase }, { on := 4, ground := Go.Ground.phase }, { on := 5, ground := Go.Ground.phase }, { on := 6, ground := Go.Ground.phase }, { on := 7, ground := Go.Ground.phase }, { on := 8, ground := Go.Ground.phase }, { on := 9, ground := Go.Ground.phase }, { on := 10, ground := Go.Ground.phase }, { on := 11, ground := Go.Ground.phase }, { on := 12, ground := Go.Ground.phase }, { on := 13, ground := Go.Ground.phase }, { on := 14, ground := Go.Ground.textOnly Go.Departure.lateStores }, { on := 15, ground := Go.Ground.phase }, { on := 16, ground := Go.Ground.phase }], guard := none }) (v := ?_) (T := fun _ => True) rfl (by kernel_rfl) (by kernel_rfl) (by kernel_rfl) (by kernel_rfl) (fun _ _ _ h => h) (fun L' w' hW hS => trivial) (fun L' w' hS => hS) (Or.inl ⟨by rfl, ?_⟩) trivial (⟨BCx.out.c 0 _ rfl, BCx.out.c 1 _ rfl, gx⟩) ?_
        rotate_left 1
        · intro w9 _; go_simp; (try with_reducible rfl)
        try simp only [Act.put, List.setIfInBounds_toArray, List.set_cons_zero, List.set_cons_succ]
        refine stage_take (i := 18) (oi := { dst := some 18, op := Go.Op.assign (Go.Operand.tmp 58), type := 30, pos := "law.go:145", after := #[{ on := 14, ground := Go.Ground.data }, { on := 17, ground := Go.Ground.chain }, { on := 0, ground := Go.Ground.phase }, { on := 1, ground := Go.Ground.phase }, { on := 2, ground := Go.Ground.phase }, { on := 3, ground := Go.Ground.phase }, { on := 4, ground := Go.Ground.phase }, { on := 5, ground := Go.Ground.phase }, { on := 6, ground := Go.Ground.phase }, { on := 7, ground := Go.Ground.phase }, { on := 8, ground := Go.Ground.phase }, { on := 9, ground := Go.Ground.phase }, { on := 10, ground := Go.Ground.phase }, { on := 11, ground := Go.Ground.phase }, { on := 12, ground := Go.Ground.phase }, { on := 13, ground := Go.Ground.phase }, { on := 14, ground := Go.Ground.phase }, { on := 15, ground := Go.Ground.phase }, { on := 16, ground := Go.Ground.phase }, { on := 17, ground := Go.Ground.phase }], guard := none }) (v := ?_) (T := fun _ => True) rfl (by kernel_rfl) (by kernel_rfl) (by kernel_rfl) (by kernel_rfl) (fun _ _ _ h => h) (fun L' w' hW hS => trivial) (fun L' w' hS => hS) (Or.inl ⟨by rfl, ?_⟩) trivial (⟨BCx.out.c 0 _ rfl, BCx.out.c 1 _ rfl, gx⟩) ?_
        rotate_left 1
        · intro w9 _; go_simp; (try with_reducible rfl)
        try simp only [Act.put, List.setIfInBounds_toArray, List.set_cons_zero, List.set_cons_succ]
        refine stage_done (by kernel_rfl) ?_ _
        clear HGE
        have hb0 : inSpan fr tt y = (!(Op.bytesLess y.toList fr.toList) && (tt.toList == [] || Op.bytesLess y.toList tt.toList)) := rfl
        have HB0 := Lib.hid hb0
        have HNX : Hid ((((ks.zip ls).take (j + 1)).flatMap (tellP fr tt snap tx)).length = n + (tellP fr tt snap tx (y, l)).length) := Lib.hid (by rw [HSN.out, List.length_append, HN.out])
        have num1 : ∀ e W, Calls Try.prog 13 #[.int .i64 e] W fun r w' => r = .returned (.int .i64 e) ∧ W = w' := num_any
        clear HSN hb0
        have hrr : ∀ b, Op.bytesLess y.toList fr.toList = b → True := fun _ _ => trivial
        clear hrr
        cases ri with
        | false =>
          have HT : Hid (tellP fr tt snap tx (y, l) = []) := Lib.hid (by rw [HTP.out]; simp)
          go_wp2_with (go_at_call 13; (with_reducible refine (num_any _ _).mono ?_); rintro e w' ⟨rfl, rfl⟩)
          go_roundw
          case rel => exact ⟨j + 1, by omega, by go_num, ⟨n, rfl, Lib.hid (by rw [HNX.out, HT.out]; rfl)⟩, HFx, BCx, RKx, RLx, VSx⟩
          case measure => simp [Lib.intOf]; omega
        | true =>
          cases q1 : Op.bytesLess y.toList fr.toList with
          | true =>
            have HT : Hid (tellP fr tt snap tx (y, l) = []) := Lib.hid (by rw [HTP.out, HB0.out, q1]; simp)
            have cBCx0 := BCx.out.c 0 _ rfl; have fBCx0 := BCx.out.f 0 (by simp); have cBCx1 := BCx.out.c 1 _ rfl; have fBCx1 := BCx.out.f 1 (by simp); have lBCx := BCx.out.lt
            go_wp2_with (go_at_call 13; (with_reducible refine (num_any _ _).mono ?_); rintro e w' ⟨rfl, rfl⟩)
            go_roundw
            case rel => exact ⟨j + 1, by omega, by go_num, ⟨n, rfl, Lib.hid (by rw [HNX.out, HT.out]; rfl)⟩, HFx, BCx, RKx, RLx, VSx⟩
            case measure => simp [Lib.intOf]; omega
          | false =>
            by_cases q2 : (tt.toList == []) = true ∨ Op.bytesLess y.toList tt.toList = true
            · have hR0 : R[n]? = some (y, rv) := by
                rw [HRA.out, HTP.out, HB0.out, q1, if_pos ⟨by rcases q2 with q | q <;> simp [q], rfl⟩, List.getElem?_append_right (by rw [HN.out]; omega), HN.out, Nat.sub_self]; rfl
              have HT : Hid (tellP fr tt snap tx (y, l) = [(y, rv)]) := Lib.hid (by rw [HTP.out, HB0.out, q1, if_pos ⟨by rcases q2 with q | q <;> simp [q], rfl⟩])
              have hnl : n < R.length := lt_of_get hR0
              obtain ⟨bR, oR, rfl, hbR, hcR2⟩ := VSx.out n _ hR0
              have r0 : w3.cell? ⟨bR, oR + n * 2, none⟩ = some (.string y) := by have := hcR2 n _ hR0 0 _ rfl; simpa using this
              have r1 : w3.cell? ⟨bR, oR + n * 2 + 1, none⟩ = some (.string rv) := by have := hcR2 n _ hR0 1 _ rfl; simpa using this
              have hni : (n : Int) < (R.length : Int) := by omega
              clear hcR2 hR0
              have hni2 : ¬ (R.length : Int) ≤ (n : Int) := by omega
              have hni3 : decide ((R.length : Int) ≤ (n : Int)) = false := by simpa using hni
              rcases (by cases hh : (tt.toList == []) with | true => exact .inl rfl | false => exact .inr ⟨rfl, by rcases q2 with q | q; (rw [hh] at q; cases q); exact q⟩ : (tt.toList == []) = true ∨ ((tt.toList == []) = false ∧ Op.bytesLess y.toList tt.toList = true)) with ht | ⟨ht, ht2⟩
              · have ht' : tt.toList = [] := by simpa using ht
                have cBCx0 := BCx.out.c 0 _ rfl; have fBCx0 := BCx.out.f 0 (by simp); have cBCx1 := BCx.out.c 1 _ rfl; have fBCx1 := BCx.out.f 1 (by simp); have lBCx := BCx.out.lt
                go_wp2_with (go_at_call 13; (with_reducible refine (num_any _ _).mono ?_); rintro e w' ⟨rfl, rfl⟩)
                go_quiet (fail)
                clear cBCx0 fBCx0 cBCx1 fBCx1 lBCx
                clear r0 r1 gx
                go_wp2_with fail
                go_roundw
                case rel => exact ⟨j + 1, by omega, by go_num, ⟨n + 1, by go_num, Lib.hid (by rw [HNX.out, HT.out]; rfl)⟩, Lib.hid (below_drewN HFx.out _), Lib.hid (BCx.out.drewN _), RKx, Lib.hid (RLx.out.below (below_drewN (Below.refl _ _) _)), VSx⟩
                case measure => simp [Lib.intOf]; omega
              · have ht' : ¬ tt.toList = [] := by simpa using ht
                have cBCx0 := BCx.out.c 0 _ rfl; have fBCx0 := BCx.out.f 0 (by simp); have cBCx1 := BCx.out.c 1 _ rfl; have fBCx1 := BCx.out.f 1 (by simp); have lBCx := BCx.out.lt
                go_wp2_with (go_at_call 13; (with_reducible refine (num_any _ _).mono ?_); rintro e w' ⟨rfl, rfl⟩)
                go_quiet (fail)
                clear cBCx0 fBCx0 cBCx1 fBCx1 lBCx
                clear r0 r1 gx
                go_wp2_with fail
                go_roundw
                case rel => exact ⟨j + 1, by omega, by go_num, ⟨n + 1, by go_num, Lib.hid (by rw [HNX.out, HT.out]; rfl)⟩, Lib.hid (below_drewN HFx.out _), Lib.hid (BCx.out.drewN _), RKx, Lib.hid (RLx.out.below (below_drewN (Below.refl _ _) _)), VSx⟩
                case measure => simp [Lib.intOf]; omega
            · have ht : (tt.toList == []) = false := by cases hh : (tt.toList == []) with | true => exact absurd (.inl hh) q2 | false => rfl
              have ht2 : Op.bytesLess y.toList tt.toList = false := by cases hh : Op.bytesLess y.toList tt.toList with | true => exact absurd (.inr hh) q2 | false => rfl
              have ht' : ¬ tt.toList = [] := by simpa using ht
              have HT : Hid (tellP fr tt snap tx (y, l) = []) := Lib.hid (by rw [HTP.out, HB0.out, q1, ht, ht2]; simp)
              clear q2
              have cBCx0 := BCx.out.c 0 _ rfl; have fBCx0 := BCx.out.f 0 (by simp); have cBCx1 := BCx.out.c 1 _ rfl; have fBCx1 := BCx.out.f 1 (by simp); have lBCx := BCx.out.lt
              go_wp2_with (go_at_call 13; (with_reducible refine (num_any _ _).mono ?_); rintro e w' ⟨rfl, rfl⟩)
              go_roundw
              case rel => exact ⟨j + 1, by omega, by go_num, ⟨n, rfl, Lib.hid (by rw [HNX.out, HT.out]; rfl)⟩, HFx, BCx, RKx, RLx, VSx⟩
              case measure => simp [Lib.intOf]; omega
      · obtain rfl : j = ks.length := by omega
        have e9 : n = R.length := by
          have := HN.out
          rw [List.take_of_length_le (by rw [List.length_zip]; omega)] at this
          rw [HR.out]; exact this.symm
        subst e9
        have cBCr0 := BCr.out.c 0 _ rfl; have fBCr0 := BCr.out.f 0 (by simp); have cBCr1 := BCr.out.c 1 _ rfl; have fBCr1 := BCr.out.f 1 (by simp); have lBCr := BCr.out.lt
        go_wp2_with fail
        go_ret
        exact ⟨rfl, HFr.out⟩
  · have hRR : rangeR ks ls fr tt snap tx = ([], chkC ks ls) := by unfold rangeR; rw [if_pos hc0]
    rw [hRR] at hra
    have hr1 : (chkC ks ls == 0) = false := by simpa using hc0
    clear hRR RK RL
    generalize chkC ks ls = kc at *
    simp only [List.length_nil] at hra
    go_wp2_with fail
    refine hra.mono ?_; rintro e w3 ⟨v3, rfl, ⟨AR, cR, rfl, hcR, hrR, hnR, _⟩, h3⟩
    replace BC := Lib.hid (BC.out.below h3 BC.out.lt); replace HF := Lib.hid (below_step' HF.out h3)
    clear hra h3 hrR
    go_wp2_with (go_at_call 13; (with_reducible refine (num_any _ _).mono ?_); rintro e w' ⟨rfl, rfl⟩)
    go_ret
    exact ⟨rfl, HF.out⟩
end Go.Proofs.Ytpkacnoimdjckaa
