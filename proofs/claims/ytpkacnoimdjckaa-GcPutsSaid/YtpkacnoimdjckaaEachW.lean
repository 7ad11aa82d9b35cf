/- Package gc: each. -/
import Derived.Test.YtpkacnoimdjckaaOwnC
import Derived.Test.YtpkacnoimdjckaaVerW3
import Derived.Test.YtpkacnoimdjckaaStep
import Derived.Test.YtpkacnoimdjckaaLater
import Derived.Lib.Walk
import Derived.Lib.Hide
namespace Go.Proofs.Ytpkacnoimdjckaa
open Go.RowKit
open Go.Shelf
set_option linter.unusedVariables false
set_option linter.unusedSimpArgs false
/-- What a turn of each chain makes: the first error; the keys, the chains that are left; how many versions went. -/
def errZ (T : List Ver → List Ver × Int) : List (List Ver) → Int
  | [] => 0
  | l :: ls => if (T l).2 ≠ 0 then (T l).2 else errZ T ls
def keyT (T : List Ver → List Ver × Int) (p : ByteArray × List Ver) : List ByteArray := if (T p.2).1 = [] then [] else [p.1]
def lstT (T : List Ver → List Ver × Int) (p : ByteArray × List Ver) : List (List Ver) := if (T p.2).1 = [] then [] else [(T p.2).1]
def goneT (T : List Ver → List Ver × Int) : List (List Ver) → Int
  | [] => 0
  | l :: ls => (l.length : Int) - (T l).1.length + goneT T ls
theorem errZ_snoc (T : List Ver → List Ver × Int) (l : List Ver) : ∀ ls, errZ T (ls ++ [l]) = if errZ T ls = 0 then (T l).2 else errZ T ls
  | [] => by by_cases h : (T l).2 = 0 <;> simp [errZ, h]
  | a :: ls => by
    have ih := errZ_snoc T l ls
    by_cases h : (T a).2 = 0
    · have e1 : errZ T (a :: ls) = errZ T ls := by simp [errZ, h]
      have e2 : errZ T (a :: ls ++ [l]) = errZ T (ls ++ [l]) := by simp [errZ, h]
      rw [e1, e2, ih]
    · have e1 : errZ T (a :: ls) = (T a).2 := by simp [errZ, h]
      have e2 : errZ T (a :: ls ++ [l]) = (T a).2 := by simp [errZ, h]
      rw [e1, e2, if_neg h]
theorem errZ_app (T : List Ver → List Ver × Int) : ∀ ls ms, errZ T ls ≠ 0 → errZ T (ls ++ ms) = errZ T ls
  | [], ms, h => by simp [errZ] at h
  | a :: ls, ms, h => by
    rw [List.cons_append]
    simp only [errZ] at *
    by_cases q : (T a).2 ≠ 0
    · rw [if_pos q, if_pos q]
    · rw [if_neg q] at h ⊢
      rw [if_neg q]; exact errZ_app T ls ms h
theorem goneT_snoc (T : List Ver → List Ver × Int) (l : List Ver) : ∀ ls, goneT T (ls ++ [l]) = goneT T ls + ((l.length : Int) - (T l).1.length)
  | [] => by simp [goneT]
  | a :: ls => by
    rw [List.cons_append]
    simp only [goneT]
    rw [goneT_snoc T l ls]; omega
theorem goneT_bound (T : List Ver → List Ver × Int) : ∀ ls : List (List Ver), (∀ l ∈ ls, (T l).1.length ≤ 1000 ∧ l.length ≤ 64) → -1000 * (ls.length : Int) ≤ goneT T ls ∧ goneT T ls ≤ 64 * (ls.length : Int)
  | [], _ => by simp [goneT]
  | a :: ls, h => by
    obtain ⟨h1, h2⟩ := goneT_bound T ls (fun l hl => h l (by simp [hl]))
    obtain ⟨g1, g2⟩ := h a (by simp)
    simp only [goneT, List.length_cons]
    omega
theorem flat_one {α β : Type} (f : α → List β) {Z : List α} {j : Nat} {z : α} (h : Z[j]? = some z) : (Z.take (j + 1)).flatMap f = (Z.take j).flatMap f ++ f z := by
  rw [List.take_add_one, h]; simp
theorem flat_le {α β : Type} (f : α → List β) (hf : ∀ z, (f z).length ≤ 1) : ∀ Z : List α, (Z.flatMap f).length ≤ Z.length
  | [] => by simp
  | z :: Z => by
    have := flat_le f hf Z
    have := hf z
    rw [List.flatMap_cons, List.length_append, List.length_cons]; omega
theorem keyT_le (T : List Ver → List Ver × Int) (z : ByteArray × List Ver) : (keyT T z).length ≤ 1 := by unfold keyT; split <;> simp
theorem lstT_le (T : List Ver → List Ver × Int) (z : ByteArray × List Ver) : (lstT T z).length ≤ 1 := by unfold lstT; split <;> simp
theorem infoS : ∃ i0, Try.prog.info? 9 = some i0 ∧ i0.zero = some (.string ⟨#[]⟩) ∧ i0.size = 1 ∧ i0.bytes = 16 :=
  info_parts (show (Try.prog.info? 9).map (fun i => (i.zero, i.size, i.bytes)) = some (some (.string ⟨#[]⟩), 1, 16) by kernel_rfl)
theorem infoR : ∃ i0, Try.prog.info? 44 = some i0 ∧ i0.zero = some (.slice none 0 0) ∧ i0.size = 1 ∧ i0.bytes = 24 :=
  info_parts (show (Try.prog.info? 44).map (fun i => (i.zero, i.size, i.bytes)) = some (some (.slice none 0 0), 1, 24) by kernel_rfl)
set_option maxHeartbeats 8000000 in
set_option maxRecDepth 100000 in
theorem each_any (bc : Nat) (AK AL : Option Addr) (ck cl : Nat) (ks : List ByteArray) (ls : List (List Ver)) (fn : FuncId) (first cap : Array Value) (T : List Ver → List Ver × Int) (w : World)
    (HB : Box w bc [.slice AK ks.length ck, .slice AL ls.length cl]) (HK : RowE encS 1 w AK ks) (HL : RowL w AL ls) (hlen : ks.length = ls.length) (hle : ls.length ≤ 2048) (hT : ∀ l ∈ ls, (T l).1.length ≤ 1000 ∧ l.length ≤ 64)
    (eg : ∀ args w, (callFunc fn args).run Try.prog w = .ok (.enter fn args) w)
    (hC : ∀ (W : World) (A : Option Addr) (c : Nat) (l : List Ver), l ∈ ls → Below w.heap.size w W → RowE encVer 4 W A l → (A = none → c = 0) → l.length ≤ c → Calls Try.prog fn (first.push (.slice A l.length c) ++ cap) W fun e w' => ∃ v, e = .returned (.tuple #[v, .int .i64 (T l).2]) ∧ SlB encVer 4 W.heap.size w' v (T l).1 ∧ Below W.heap.size W w') :
    Calls Try.prog 60 #[.pointer (some ⟨bc, 0, none⟩), .func (.func fn) first cap] w fun e w' =>
      (errZ T ls ≠ 0 ∧ e = .returned (.tuple #[.int .i64 0, .int .i64 (errZ T ls)]) ∧ Below w.heap.size w w') ∨
      (errZ T ls = 0 ∧ e = .returned (.tuple #[.int .i64 (goneT T ls), .int .i64 0]) ∧ ∃ vk vl vs, Box w' bc [vk, vl] ∧ OwnC w.heap.size w' vk vl ((ks.zip ls).flatMap (keyT T)) ((ks.zip ls).flatMap (lstT T)) vs ∧ Kept w.heap.size (fun b => b = bc) w w') := by
  have BC := Lib.hid HB
  have RK := Lib.hid HK
  have RL := Lib.hid HL
  have HLEN := Lib.hid hlen
  have HT := Lib.hid hT
  have HC := Lib.hid hC
  have hle2 : ks.length ≤ 2048 := by omega
  have hbc := HB.lt
  have H0 := Lib.hid ((Below.refl w.heap.size w).alloc (Nat.le_refl _) (.cells #[.slice none 0 0, .slice none 0 0] 28))
  have BO := Lib.hid (Box.new w #[.slice none 0 0, .slice none 0 0] 28)
  have BC1 := Lib.hid (HB.alloc (.cells #[.slice none 0 0, .slice none 0 0] 28))
  clear HB HK HL hlen hT hC
  obtain ⟨iS, hiS1, hiS2, hiS3, hiS4⟩ := infoS
  obtain ⟨iR, hiR1, hiR2, hiR3, hiR4⟩ := infoR
  go_enter Try.func60, Try.ntmps60
  have cBC10 := BC1.out.c 0 _ rfl; have fBC10 := BC1.out.f 0 (by simp); have cBC11 := BC1.out.c 1 _ rfl; have fBC11 := BC1.out.f 1 (by simp); have lBC1 := BC1.out.lt
  go_wp2_with fail
  clear cBC10 fBC10 cBC11 fBC11 lBC1
  generalize hw1 : w.alloc (.cells #[.slice none 0 0, .slice none 0 0] 28) = w1 at *
  clear hw1
  go_loopw [7, 17] (fun s7 s17 wr => ∃ j : Nat, j ≤ ls.length ∧ s17 = .int .i64 j ∧ s7 = .int .i64 (goneT T (ls.take j)) ∧ Hid (errZ T (ls.take j) = 0) ∧ Hid (Below w.heap.size w wr) ∧ ∃ vk vl vs, Hid (Box wr w.heap.size [vk, vl]) ∧ Hid (OwnC (w.heap.size + 1) wr vk vl (((ks.zip ls).take j).flatMap (keyT T)) (((ks.zip ls).take j).flatMap (lstT T)) vs)) (fun _ s17 _ => ls.length - (Lib.intOf s17).toNat)
  case atStart => exact ⟨0, Nat.zero_le _, rfl, by simp [goneT], Lib.hid (by simp [errZ]), H0, .slice none 0 0, .slice none 0 0, [], BO, Lib.hid ⟨by simpa using World.ownsRow_nil _ _ _ _, by simpa using World.ownsRow_nil _ _ _ _, fun i l h => by simp at h, fun g h => by simp [Value.ownBlock] at h⟩⟩
  case round =>
    obtain ⟨j, hj, rfl, rfl, HE, HF, vk, vl, vs, HO, HW⟩ := hrel
    clear H0 BO BC1
    by_cases hlt : j < ls.length
    · obtain ⟨l, hl0⟩ : ∃ l, ls[j]? = some l := ⟨_, List.getElem?_eq_getElem hlt⟩
      obtain ⟨y, hk0⟩ : ∃ y, ks[j]? = some y := ⟨_, List.getElem?_eq_getElem (by have := HLEN.out; omega)⟩
      obtain ⟨bl, ol, v, rfl, hbl, hcl, Al, c', rfl, hlc, hrl, hnl⟩ := RL.out j l hl0
      obtain ⟨bk, ok, rfl, hbk, hck⟩ := RK.out.atE hk0 HF.out
      have gk : wr.cell? ⟨bk, ok + j, none⟩ = some (.string y) := by simpa using hck 0 _ rfl
      have gl : wr.cell? ⟨bl, ol + j, none⟩ = some (.slice Al l.length c') := (HF.out.cell (p := ⟨bl, ol + j, none⟩) hbl).trans hcl
      have hcall := HC.out wr Al c' l (List.mem_of_getElem? hl0) HF.out (hrl.below HF.out) hnl hlc
      have htl := HT.out l (List.mem_of_getElem? hl0)
      have hZ : (ks.zip ls)[j]? = some (y, l) := List.getElem?_zip_eq_some.2 ⟨hk0, hl0⟩
      have KS := Lib.hid (flat_one (keyT T) hZ)
      have LS := Lib.hid (flat_one (lstT T) hZ)
      have hta : ls.take (j + 1) = ls.take j ++ [l] := by rw [List.take_add_one, hl0]; rfl
      have GS : Hid (goneT T (ls.take (j + 1)) = goneT T (ls.take j) + ((l.length : Int) - (T l).1.length)) := Lib.hid (by rw [hta]; exact goneT_snoc T l _)
      have ES : Hid (errZ T (ls.take (j + 1)) = (T l).2) := Lib.hid (by rw [hta, errZ_snoc, HE.out]; simp)
      have EA : Hid ((T l).2 ≠ 0 → errZ T ls = (T l).2) := Lib.hid (fun h => by
        have e : ls = ls.take (j + 1) ++ ls.drop (j + 1) := (List.take_append_drop _ _).symm
        rw [e, errZ_app _ _ _ (by rw [ES.out]; exact h), ES.out])
      have gb := goneT_bound T (ls.take j) (fun x hx => HT.out x (List.mem_of_mem_take hx))
      have hkl : (((ks.zip ls).take j).flatMap (keyT T)).length ≤ 2048 := Nat.le_trans (flat_le _ (keyT_le T) _) (by rw [List.length_take, List.length_zip]; omega)
      have hll : (((ks.zip ls).take j).flatMap (lstT T)).length ≤ 2048 := Nat.le_trans (flat_le _ (lstT_le T) _) (by rw [List.length_take, List.length_zip]; omega)
      have hjl : (ls.take j).length ≤ 2048 := by rw [List.length_take]; omega
      have KT : Hid (keyT T (y, l) = if (T l).1 = [] then [] else [y]) := Lib.hid rfl
      have LT : Hid (lstT T (y, l) = if (T l).1 = [] then [] else [(T l).1]) := Lib.hid rfl
      have BCr := Lib.hid (BC.out.step HF.out)
      clear hl0 hk0 hck hcl hrl hZ hta
      generalize goneT T (ls.take j) = gn at *
      generalize ((ks.zip ls).take j).flatMap (keyT T) = K at *
      generalize ((ks.zip ls).take j).flatMap (lstT T) = L at *
      generalize (T l).1 = m at *
      generalize (T l).2 = er at *
      go_wp2_with fail
      refine hcall.mono ?_; rintro e w3 ⟨v3, rfl, ⟨Am, cm, rfl, hcm, hrm, hnm, hNm⟩, h3⟩
      have HF3 := Lib.hid (below_step' HF.out h3)
      have HO3 := Lib.hid (HO.out.step h3)
      have HW3 := Lib.hid (HW.out.below h3)
      have BC3 := Lib.hid (BCr.out.step h3)
      have gk3 : w3.cell? ⟨bk, ok + j, none⟩ = some (.string y) := (h3.cell (p := ⟨bk, ok + j, none⟩) (World.block_lt_of_cell? _ _ gk)).trans gk
      have HNm : Hid (SlX (fun b => vk.ownBlock = some b ∨ vl.ownBlock = some b ∨ b < w.heap.size + 1) w3 (.slice Am m.length cm) m) := Lib.hid ⟨Am, cm, rfl, hcm, hrm, hnm, fun a ha => by
        have h5 := hNm a ha
        rintro (q | q | q)
        · have := (HW.out.ok.lt a.block q).2; omega
        · have := (HW.out.ol.lt a.block q).2; omega
        · have := HO.out.lt; omega⟩
      clear hcall h3 hrm hnm hNm gk gl HF HO HW BCr
      by_cases he0 : er = 0
      · subst he0
        by_cases hm0 : m = []
        · subst hm0
          have KS2 : Hid (((ks.zip ls).take (j + 1)).flatMap (keyT T) = K) := Lib.hid (by rw [KS.out, KT.out]; simp)
          have LS2 : Hid (((ks.zip ls).take (j + 1)).flatMap (lstT T) = L) := Lib.hid (by rw [LS.out, LT.out]; simp)
          clear KS LS KT LT
          go_wp2_with fail
          go_roundw
          case rel => exact ⟨j + 1, by omega, by go_num, by rw [GS.out]; simp, ES, HF3, vk, vl, vs, HO3, by rw [KS2.out, LS2.out]; exact HW3⟩
          case measure => simp [Lib.intOf]; omega
        · have hmp : 0 < m.length := List.length_pos_iff.2 hm0
          have KS2 : Hid (((ks.zip ls).take (j + 1)).flatMap (keyT T) = K ++ [y]) := Lib.hid (by rw [KS.out, KT.out, if_neg hm0])
          have LS2 : Hid (((ks.zip ls).take (j + 1)).flatMap (lstT T) = L ++ [m]) := Lib.hid (by rw [LS.out, LT.out, if_neg hm0])
          have HM0 := Lib.hid hm0
          clear KS LS KT LT hm0
          obtain ⟨Ak9, ck9, rfl, _, _⟩ := own_slice HW3.out.ok
          obtain ⟨Al9, cl9, rfl, _, _⟩ := own_slice HW3.out.ol
          have cHO30 := HO3.out.c 0 _ rfl; have fHO30 := HO3.out.f 0 (by simp); have cHO31 := HO3.out.c 1 _ rfl; have fHO31 := HO3.out.f 1 (by simp); have lHO3 := HO3.out.lt; have cBC30 := BC3.out.c 0 _ rfl; have fBC30 := BC3.out.f 0 (by simp); have cBC31 := BC3.out.c 1 _ rfl; have fBC31 := BC3.out.f 1 (by simp); have lBC3 := BC3.out.lt
          go_upto_region 11 with (fail)
          have hji : (j : Int) < (ks.length : Int) := by have := HLEN.out; omega
          refine stage_begin (S := fun (L' : Array Bool) (w' : World) => (w'.cell? ⟨bc, 0, none⟩ = some (.slice (some ⟨bk, ok, none⟩) ks.length ck) ∧ w'.cell? ⟨bk, ok + j, none⟩ = some (.string y)) ∧ (L'.getD 17 false = false → w'.cell? ⟨w.heap.size, 0, none⟩ = some (.slice Ak9 K.length ck9) ∧ w'.cell? ⟨w.heap.size, 1, none⟩ = some (.slice Al9 L.length cl9))) (by kernel_rfl) ?_
          have HFx : Hid (Below w.heap.size w w3.drew) := Lib.hid (below_drewN HF3.out 1)
          have HOx := Lib.hid HO3.out.drew
          have HWx : Hid (OwnC (w.heap.size + 1) w3.drew (.slice Ak9 K.length ck9) (.slice Al9 L.length cl9) K L vs) := Lib.hid (HW3.out.below (below_drewN (Below.refl _ w3) 1))
          have HCx := Lib.hid BC3.out.drew
          have gx : w3.drew.cell? ⟨bk, ok + j, none⟩ = some (.string y) := gk3
          have HNx : Hid (SlX (fun b => (Value.slice Ak9 K.length ck9).ownBlock = some b ∨ (Value.slice Al9 L.length cl9).ownBlock = some b ∨ b < w.heap.size + 1) w3.drew (.slice Am m.length cm) m) := Lib.hid (HNm.out.below (below_drewN (Below.refl _ w3) 1))
          have hbk3 : bk < w.heap.size := hbk
          have hz3 : w.heap.size + 1 ≤ w3.drew.heap.size := HO3.out.lt
          clear cHO30 fHO30 cHO31 fHO31 lHO3; clear cBC30 fBC30 cBC31 fBC31 lBC3
          clear HF3 HO3 HW3 BC3 gk3 HNm
          generalize w3.drew = wd at *
          have hS0 : (fun w' : World => (w'.cell? ⟨bc, 0, none⟩ = some (.slice (some ⟨bk, ok, none⟩) ks.length ck) ∧ w'.cell? ⟨bk, ok + j, none⟩ = some (.string y)) ∧ w'.cell? ⟨w.heap.size, 0, none⟩ = some (.slice Ak9 K.length ck9) ∧ w'.cell? ⟨w.heap.size, 1, none⟩ = some (.slice Al9 L.length cl9)) wd := ⟨⟨HCx.out.c 0 _ rfl, gx⟩, HOx.out.c 0 _ rfl, HOx.out.c 1 _ rfl⟩
          refine stage_take (i := 0) (oi := { dst := some 41, op := Go.Op.fieldAddr 28 (Go.Operand.tmp 6) 0, type := 0, pos := "gc.go:117", after := #[], guard := none }) (v := ?_) (T := fun _ => True) rfl (by kernel_rfl) (by kernel_rfl) (by kernel_rfl) (by kernel_rfl) (fun _ _ _ h => h) (fun L' w' hW hS => trivial) (fun L' w' hS => ⟨hS.1, fun h => hS.2 (by rw [getD_set_ne false (by decide)]; exact h)⟩) (Or.inl ⟨by rfl, ?_⟩) trivial ⟨hS0.1, fun _ => hS0.2⟩ ?_
          rotate_left 1
          · intro w9 _; go_simp; (try with_reducible rfl)
          try simp only [Act.put, List.setIfInBounds_toArray, List.set_cons_zero, List.set_cons_succ]
          refine stage_take (i := 1) (oi := { dst := some 42, op := Go.Op.load 22 (Go.Operand.tmp 41), type := 22, pos := "gc.go:117", after := #[{ on := 0, ground := Go.Ground.data }], guard := none }) (v := ?_) (T := fun w' : World => (w'.cell? ⟨bc, 0, none⟩ = some (.slice (some ⟨bk, ok, none⟩) ks.length ck) ∧ w'.cell? ⟨bk, ok + j, none⟩ = some (.string y)) ∧ w'.cell? ⟨w.heap.size, 0, none⟩ = some (.slice Ak9 K.length ck9) ∧ w'.cell? ⟨w.heap.size, 1, none⟩ = some (.slice Al9 L.length cl9)) rfl (by kernel_rfl) (by kernel_rfl) (by kernel_rfl) (by kernel_rfl) (fun _ _ _ h => h) (fun L' w' hW hS => ⟨hS.1, hS.2 (not_yet hW (by kernel_rfl))⟩) (fun L' w' hS => ⟨hS.1, fun h => hS.2 (by rw [getD_set_ne false (by decide)]; exact h)⟩) (Or.inl ⟨by rfl, ?_⟩) hS0 ⟨hS0.1, fun _ => hS0.2⟩ ?_
          rotate_left 1
          · intro w9 hS9; obtain ⟨⟨z0, z1⟩, z2, z3⟩ := hS9; go_simp; (try with_reducible rfl)
          try simp only [Act.put, List.setIfInBounds_toArray, List.set_cons_zero, List.set_cons_succ]
          refine stage_take (i := 2) (oi := { dst := some 43, op := Go.Op.move (Go.Operand.tmp 0), type := 108, pos := "gc.go:117", after := #[], guard := none }) (v := ?_) (T := fun _ => True) rfl (by kernel_rfl) (by kernel_rfl) (by kernel_rfl) (by kernel_rfl) (fun _ _ _ h => h) (fun L' w' hW hS => trivial) (fun L' w' hS => ⟨hS.1, fun h => hS.2 (by rw [getD_set_ne false (by decide)]; exact h)⟩) (Or.inl ⟨by rfl, ?_⟩) trivial ⟨hS0.1, fun _ => hS0.2⟩ ?_
          rotate_left 1
          · intro w9 _; go_simp; (try with_reducible rfl)
          try simp only [Act.put, List.setIfInBounds_toArray, List.set_cons_zero, List.set_cons_succ]
          refine stage_take (i := 3) (oi := { dst := some 44, op := Go.Op.nilCheck (Go.Operand.tmp 43), type := 0, pos := "gc.go:117", after := #[{ on := 2, ground := Go.Ground.data }], guard := none }) (v := ?_) (T := fun _ => True) rfl (by kernel_rfl) (by kernel_rfl) (by kernel_rfl) (by kernel_rfl) (fun _ _ _ h => h) (fun L' w' hW hS => trivial) (fun L' w' hS => ⟨hS.1, fun h => hS.2 (by rw [getD_set_ne false (by decide)]; exact h)⟩) (Or.inl ⟨by rfl, ?_⟩) trivial ⟨hS0.1, fun _ => hS0.2⟩ ?_
          rotate_left 1
          · intro w9 _; go_simp; (try with_reducible rfl)
          try simp only [Act.put, List.setIfInBounds_toArray, List.set_cons_zero, List.set_cons_succ]
          refine stage_take (i := 4) (oi := { dst := some 45, op := Go.Op.fieldAddr 28 (Go.Operand.tmp 44) 0, type := 0, pos := "gc.go:117", after := #[{ on := 3, ground := Go.Ground.data }], guard := none }) (v := ?_) (T := fun _ => True) rfl (by kernel_rfl) (by kernel_rfl) (by kernel_rfl) (by kernel_rfl) (fun _ _ _ h => h) (fun L' w' hW hS => trivial) (fun L' w' hS => ⟨hS.1, fun h => hS.2 (by rw [getD_set_ne false (by decide)]; exact h)⟩) (Or.inl ⟨by rfl, ?_⟩) trivial ⟨hS0.1, fun _ => hS0.2⟩ ?_
          rotate_left 1
          · intro w9 _; go_simp; (try with_reducible rfl)
          try simp only [Act.put, List.setIfInBounds_toArray, List.set_cons_zero, List.set_cons_succ]
          refine stage_take (i := 5) (oi := { dst := some 46, op := Go.Op.load 22 (Go.Operand.tmp 45), type := 22, pos := "gc.go:117", after := #[{ on := 4, ground := Go.Ground.data }], guard := none }) (v := ?_) (T := fun w' : World => (w'.cell? ⟨bc, 0, none⟩ = some (.slice (some ⟨bk, ok, none⟩) ks.length ck) ∧ w'.cell? ⟨bk, ok + j, none⟩ = some (.string y)) ∧ w'.cell? ⟨w.heap.size, 0, none⟩ = some (.slice Ak9 K.length ck9) ∧ w'.cell? ⟨w.heap.size, 1, none⟩ = some (.slice Al9 L.length cl9)) rfl (by kernel_rfl) (by kernel_rfl) (by kernel_rfl) (by kernel_rfl) (fun _ _ _ h => h) (fun L' w' hW hS => ⟨hS.1, hS.2 (not_yet hW (by kernel_rfl))⟩) (fun L' w' hS => ⟨hS.1, fun h => hS.2 (by rw [getD_set_ne false (by decide)]; exact h)⟩) (Or.inl ⟨by rfl, ?_⟩) hS0 ⟨hS0.1, fun _ => hS0.2⟩ ?_
          rotate_left 1
          · intro w9 hS9; obtain ⟨⟨z0, z1⟩, z2, z3⟩ := hS9; go_simp; (try with_reducible rfl)
          try simp only [Act.put, List.setIfInBounds_toArray, List.set_cons_zero, List.set_cons_succ]
          refine stage_take (i := 6) (oi := { dst := some 47, op := Go.Op.move (Go.Operand.tmp 8), type := 3, pos := "gc.go:117", after := #[], guard := none }) (v := ?_) (T := fun _ => True) rfl (by kernel_rfl) (by kernel_rfl) (by kernel_rfl) (by kernel_rfl) (fun _ _ _ h => h) (fun L' w' hW hS => trivial) (fun L' w' hS => ⟨hS.1, fun h => hS.2 (by rw [getD_set_ne false (by decide)]; exact h)⟩) (Or.inl ⟨by rfl, ?_⟩) trivial ⟨hS0.1, fun _ => hS0.2⟩ ?_
          rotate_left 1
          · intro w9 _; go_simp; (try with_reducible rfl)
          try simp only [Act.put, List.setIfInBounds_toArray, List.set_cons_zero, List.set_cons_succ]
          refine stage_take (i := 7) (oi := { dst := some 48, op := Go.Op.indexAddr 22 (Go.Operand.tmp 46) (Go.Operand.tmp 47), type := 0, pos := "gc.go:117", after := #[{ on := 5, ground := Go.Ground.data }, { on := 6, ground := Go.Ground.data }], guard := none }) (v := ?_) (T := fun _ => True) rfl (by kernel_rfl) (by kernel_rfl) (by kernel_rfl) (by kernel_rfl) (fun _ _ _ h => h) (fun L' w' hW hS => trivial) (fun L' w' hS => ⟨hS.1, fun h => hS.2 (by rw [getD_set_ne false (by decide)]; exact h)⟩) (Or.inl ⟨by rfl, ?_⟩) trivial ⟨hS0.1, fun _ => hS0.2⟩ ?_
          rotate_left 1
          · intro w9 _; go_simp; (try with_reducible rfl)
          try simp only [Act.put, List.setIfInBounds_toArray, List.set_cons_zero, List.set_cons_succ]
          refine stage_take (i := 8) (oi := { dst := some 49, op := Go.Op.load 9 (Go.Operand.tmp 48), type := 9, pos := "gc.go:117", after := #[{ on := 7, ground := Go.Ground.data }], guard := none }) (v := ?_) (T := fun w' : World => (w'.cell? ⟨bc, 0, none⟩ = some (.slice (some ⟨bk, ok, none⟩) ks.length ck) ∧ w'.cell? ⟨bk, ok + j, none⟩ = some (.string y)) ∧ w'.cell? ⟨w.heap.size, 0, none⟩ = some (.slice Ak9 K.length ck9) ∧ w'.cell? ⟨w.heap.size, 1, none⟩ = some (.slice Al9 L.length cl9)) rfl (by kernel_rfl) (by kernel_rfl) (by kernel_rfl) (by kernel_rfl) (fun _ _ _ h => h) (fun L' w' hW hS => ⟨hS.1, hS.2 (not_yet hW (by kernel_rfl))⟩) (fun L' w' hS => ⟨hS.1, fun h => hS.2 (by rw [getD_set_ne false (by decide)]; exact h)⟩) (Or.inl ⟨by rfl, ?_⟩) hS0 ⟨hS0.1, fun _ => hS0.2⟩ ?_
          rotate_left 1
          · intro w9 hS9; obtain ⟨⟨z0, z1⟩, z2, z3⟩ := hS9; go_simp; (try with_reducible rfl)
          try simp only [Act.put, List.setIfInBounds_toArray, List.set_cons_zero, List.set_cons_succ]
          refine stage_take (i := 11) (oi := { dst := some 52, op := Go.Op.fieldAddr 28 (Go.Operand.tmp 6) 1, type := 0, pos := "gc.go:117", after := #[], guard := none }) (v := ?_) (T := fun _ => True) rfl (by kernel_rfl) (by kernel_rfl) (by kernel_rfl) (by kernel_rfl) (fun _ _ _ h => h) (fun L' w' hW hS => trivial) (fun L' w' hS => ⟨hS.1, fun h => hS.2 (by rw [getD_set_ne false (by decide)]; exact h)⟩) (Or.inl ⟨by rfl, ?_⟩) trivial ⟨hS0.1, fun _ => hS0.2⟩ ?_
          rotate_left 1
          · intro w9 _; go_simp; (try with_reducible rfl)
          try simp only [Act.put, List.setIfInBounds_toArray, List.set_cons_zero, List.set_cons_succ]
          refine stage_take (i := 12) (oi := { dst := some 53, op := Go.Op.load 26 (Go.Operand.tmp 52), type := 26, pos := "gc.go:117", after := #[{ on := 11, ground := Go.Ground.data }], guard := none }) (v := ?_) (T := fun w' : World => (w'.cell? ⟨bc, 0, none⟩ = some (.slice (some ⟨bk, ok, none⟩) ks.length ck) ∧ w'.cell? ⟨bk, ok + j, none⟩ = some (.string y)) ∧ w'.cell? ⟨w.heap.size, 0, none⟩ = some (.slice Ak9 K.length ck9) ∧ w'.cell? ⟨w.heap.size, 1, none⟩ = some (.slice Al9 L.length cl9)) rfl (by kernel_rfl) (by kernel_rfl) (by kernel_rfl) (by kernel_rfl) (fun _ _ _ h => h) (fun L' w' hW hS => ⟨hS.1, hS.2 (not_yet hW (by kernel_rfl))⟩) (fun L' w' hS => ⟨hS.1, fun h => hS.2 (by rw [getD_set_ne false (by decide)]; exact h)⟩) (Or.inl ⟨by rfl, ?_⟩) hS0 ⟨hS0.1, fun _ => hS0.2⟩ ?_
          rotate_left 1
          · intro w9 hS9; obtain ⟨⟨z0, z1⟩, z2, z3⟩ := hS9; go_simp; (try with_reducible rfl)
          try simp only [Act.put, List.setIfInBounds_toArray, List.set_cons_zero, List.set_cons_succ]
          refine stage_take (i := 13) (oi := { dst := some 54, op := Go.Op.move (Go.Operand.tmp 10), type := 44, pos := "gc.go:117", after := #[], guard := none }) (v := ?_) (T := fun _ => True) rfl (by kernel_rfl) (by kernel_rfl) (by kernel_rfl) (by kernel_rfl) (fun _ _ _ h => h) (fun L' w' hW hS => trivial) (fun L' w' hS => ⟨hS.1, fun h => hS.2 (by rw [getD_set_ne false (by decide)]; exact h)⟩) (Or.inl ⟨by rfl, ?_⟩) trivial ⟨hS0.1, fun _ => hS0.2⟩ ?_
          rotate_left 1
          · intro w9 _; go_simp; (try with_reducible rfl)
          try simp only [Act.put, List.setIfInBounds_toArray, List.set_cons_zero, List.set_cons_succ]
          clear hS0
          refine stage_all (rs := [9, 14]) (by kernel_rfl) (by simp) (fun i hi => ?_)
          simp only [List.mem_cons, List.not_mem_nil, or_false] at hi
          rcases hi with rfl | rfl
          · refine stage_step (S := fun (L' : Array Bool) (w' : World) => (w'.cell? ⟨bc, 0, none⟩ = some (.slice (some ⟨bk, ok, none⟩) ks.length ck) ∧ w'.cell? ⟨bk, ok + j, none⟩ = some (.string y)) ∧ (L'.getD 17 false = false → w'.cell? ⟨w.heap.size, 0, none⟩ = some (.slice Ak9 K.length ck9) ∧ w'.cell? ⟨w.heap.size, 1, none⟩ = some (.slice Al9 L.length cl9))) (o := { dst := some 50, op := Go.Op.buildSlice 22 1 #[(0, Go.Operand.tmp 49)], type := 22, pos := "gc.go:117", after := #[{ on := 8, ground := Go.Ground.data }], guard := none }) (by rfl) (fun K2 hK => ?_)
            go_simp
            skip
            skip
            have N9 : Hid (Box (wd.alloc (.cells #[.string y] 9)) wd.heap.size [.string y]) := Lib.hid (Box.new wd #[.string y] _)
            replace HFx := Lib.hid (HFx.out.alloc HFx.out.size (.cells #[.string y] 9))
            replace HOx := Lib.hid (HOx.out.alloc (.cells #[.string y] 9))
            replace HWx := Lib.hid (HWx.out.alloc (.cells #[.string y] 9))
            replace HCx := Lib.hid (HCx.out.alloc (.cells #[.string y] 9))
            replace gx := (((Below.refl _ wd).alloc (Nat.le_refl _) (.cells #[.string y] 9)).cell (p := ⟨bk, ok + j, none⟩) (by show bk < wd.heap.size; omega)).trans gx
            replace HNx := Lib.hid (HNx.out.below ((Below.refl _ wd).alloc (Nat.le_refl _) (.cells #[.string y] 9)))
            refine hK.out _ _ ⟨⟨HCx.out.c 0 _ rfl, gx⟩, fun _ => ⟨HOx.out.c 0 _ rfl, HOx.out.c 1 _ rfl⟩⟩ ?_
            clear hK K2
            try simp only [Act.put, List.setIfInBounds_toArray, List.set_cons_zero, List.set_cons_succ]
            have hs9 : w.heap.size + 1 ≤ wd.heap.size := by omega
            replace hz3 : w.heap.size + 1 ≤ (wd.alloc (.cells #[.string y] 9)).heap.size := HOx.out.lt
            generalize wd.alloc (.cells #[.string y] 9) = wd9 at *
            generalize wd.heap.size = g9 at *
            (try clear wd)
            refine stage_all (rs := [10, 14]) (by kernel_rfl) (by simp) (fun i hi => ?_)
            simp only [List.mem_cons, List.not_mem_nil, or_false] at hi
            rcases hi with rfl | rfl
            · refine stage_step (S := fun (L' : Array Bool) (w' : World) => (w'.cell? ⟨bc, 0, none⟩ = some (.slice (some ⟨bk, ok, none⟩) ks.length ck) ∧ w'.cell? ⟨bk, ok + j, none⟩ = some (.string y)) ∧ (L'.getD 17 false = false → w'.cell? ⟨w.heap.size, 0, none⟩ = some (.slice Ak9 K.length ck9) ∧ w'.cell? ⟨w.heap.size, 1, none⟩ = some (.slice Al9 L.length cl9))) (o := { dst := some 51, op := Go.Op.call { callee := Go.Callee.builtin Go.Builtin.append, args := #[Go.Operand.tmp 42, Go.Operand.tmp 50], argTypes := #[22, 22] }, type := 22, pos := "gc.go:117", after := #[{ on := 1, ground := Go.Ground.data }, { on := 9, ground := Go.Ground.data }], guard := none }) (by rfl) (fun K2 hK => ?_)
              refine step_append_at rfl _ _ 22 rfl (w.heap.size + 1) 9 iS (.string ⟨#[]⟩) 1 16 rfl hiS1 hiS2 hiS3 hiS4 rfl (by decide) _ K.length (K.flatMap encS) rfl HWx.out.ok ⟨g9, 0, none⟩ 1 1 [.string y] rfl rfl (fun i u hi => by rw [Addr.add_lit, Nat.zero_add]; exact N9.out.c i u hi) (by simp [Value.oneCell']) (by simp only [maxLen]; omega) (by omega) hz3 (fun vk2 wd910 hown hgrow hat => ?_)
              have qb : (Value.slice Ak9 K.length ck9).ownBlock ≠ some bc := fun q => by have := (HWx.out.ok.lt bc q).1; omega
              have qk : (Value.slice Ak9 K.length ck9).ownBlock ≠ some bk := fun q => by have := (HWx.out.ok.lt bk q).1; omega
              have qo : (Value.slice Ak9 K.length ck9).ownBlock ≠ some w.heap.size := fun q => by have := (HWx.out.ok.lt w.heap.size q).1; omega
              replace HFx := Lib.hid (HFx.out.grown hgrow (by omega) (fun k hk => by have := (HWx.out.ok.lt k hk).1; omega))
              replace HOx := Lib.hid (HOx.out.grown hgrow (Ne.symm qo))
              replace HCx := Lib.hid (HCx.out.grown hgrow (Ne.symm qb))
              replace gx := (World.cell?_of_block (a := ⟨bk, ok + j, none⟩) (hgrow.block bk (by omega) (Ne.symm qk))).trans gx
              obtain ⟨Ak2, ck2, rfl, _, _⟩ := own_slice hown
              replace HNx := Lib.hid (HWx.out.keyx hgrow hat HM0.out HNx.out)
              replace HWx := Lib.hid (HWx.out.key hown hgrow hat)
              replace hz3 : w.heap.size + 1 ≤ wd910.heap.size := HOx.out.lt
              clear hown hgrow hat qb qk qo
              skip
              refine hK.out _ _ ⟨⟨HCx.out.c 0 _ rfl, gx⟩, fun _ => ⟨HOx.out.c 0 _ rfl, HOx.out.c 1 _ rfl⟩⟩ ?_
              clear hK K2
              try simp only [Act.put, List.setIfInBounds_toArray, List.set_cons_zero, List.set_cons_succ]
              have hS0 : (fun w' : World => (w'.cell? ⟨bc, 0, none⟩ = some (.slice (some ⟨bk, ok, none⟩) ks.length ck) ∧ w'.cell? ⟨bk, ok + j, none⟩ = some (.string y)) ∧ w'.cell? ⟨w.heap.size, 0, none⟩ = some (.slice Ak9 K.length ck9) ∧ w'.cell? ⟨w.heap.size, 1, none⟩ = some (.slice Al9 L.length cl9)) wd910 := ⟨⟨HCx.out.c 0 _ rfl, gx⟩, HOx.out.c 0 _ rfl, HOx.out.c 1 _ rfl⟩
              refine stage_take (i := 16) (oi := { dst := some 57, op := Go.Op.fieldAddr 28 (Go.Operand.tmp 6) 0, type := 0, pos := "gc.go:117", after := #[{ on := 0, ground := Go.Ground.phase }, { on := 1, ground := Go.Ground.phase }, { on := 2, ground := Go.Ground.phase }, { on := 3, ground := Go.Ground.phase }, { on := 4, ground := Go.Ground.phase }, { on := 5, ground := Go.Ground.phase }, { on := 6, ground := Go.Ground.phase }, { on := 7, ground := Go.Ground.phase }, { on := 8, ground := Go.Ground.phase }, { on := 9, ground := Go.Ground.phase }, { on := 10, ground := Go.Ground.phase }, { on := 11, ground := Go.Ground.phase }, { on := 12, ground := Go.Ground.phase }, { on := 13, ground := Go.Ground.textOnly Go.Departure.lateStores }, { on := 14, ground := Go.Ground.textOnly Go.Departure.lateStores }, { on := 15, ground := Go.Ground.textOnly Go.Departure.lateStoresUnsure }], guard := none }) (v := ?_) (T := fun _ => True) rfl (by kernel_rfl) (by kernel_rfl) (by kernel_rfl) (by kernel_rfl) (fun _ _ _ h => h) (fun L' w' hW hS => trivial) (fun L' w' hS => ⟨hS.1, fun h => hS.2 (by rw [getD_set_ne false (by decide)]; exact h)⟩) (Or.inl ⟨by rfl, ?_⟩) trivial ⟨hS0.1, fun _ => hS0.2⟩ ?_
              rotate_left 1
              · intro w9 _; go_simp; (try with_reducible rfl)
              try simp only [Act.put, List.setIfInBounds_toArray, List.set_cons_zero, List.set_cons_succ]
              clear hS0
              refine stage_all (rs := [14]) (by kernel_rfl) (by simp) (fun i hi => ?_)
              obtain rfl : i = 14 := by simpa using hi
              refine stage_step (S := fun (L' : Array Bool) (w' : World) => (w'.cell? ⟨bc, 0, none⟩ = some (.slice (some ⟨bk, ok, none⟩) ks.length ck) ∧ w'.cell? ⟨bk, ok + j, none⟩ = some (.string y)) ∧ (L'.getD 17 false = false → w'.cell? ⟨w.heap.size, 0, none⟩ = some (.slice Ak9 K.length ck9) ∧ w'.cell? ⟨w.heap.size, 1, none⟩ = some (.slice Al9 L.length cl9))) (o := { dst := some 55, op := Go.Op.buildSlice 26 1 #[(0, Go.Operand.tmp 54)], type := 26, pos := "gc.go:117", after := #[{ on := 13, ground := Go.Ground.data }], guard := none }) (by rfl) (fun K2 hK => ?_)
              go_simp
              skip
              skip
              have N14 : Hid (Box (wd910.alloc (.cells #[.slice Am m.length cm] 44)) wd910.heap.size [.slice Am m.length cm]) := Lib.hid (Box.new wd910 #[.slice Am m.length cm] _)
              replace HFx := Lib.hid (HFx.out.alloc HFx.out.size (.cells #[.slice Am m.length cm] 44))
              replace HOx := Lib.hid (HOx.out.alloc (.cells #[.slice Am m.length cm] 44))
              replace HWx := Lib.hid (HWx.out.alloc (.cells #[.slice Am m.length cm] 44))
              replace HCx := Lib.hid (HCx.out.alloc (.cells #[.slice Am m.length cm] 44))
              replace gx := (((Below.refl _ wd910).alloc (Nat.le_refl _) (.cells #[.slice Am m.length cm] 44)).cell (p := ⟨bk, ok + j, none⟩) (by show bk < wd910.heap.size; omega)).trans gx
              replace HNx := Lib.hid (HNx.out.below ((Below.refl _ wd910).alloc (Nat.le_refl _) (.cells #[.slice Am m.length cm] 44)))
              replace N9 := Lib.hid (N9.out.alloc (.cells #[.slice Am m.length cm] 44))
              refine hK.out _ _ ⟨⟨HCx.out.c 0 _ rfl, gx⟩, fun _ => ⟨HOx.out.c 0 _ rfl, HOx.out.c 1 _ rfl⟩⟩ ?_
              clear hK K2
              try simp only [Act.put, List.setIfInBounds_toArray, List.set_cons_zero, List.set_cons_succ]
              have hs14 : w.heap.size + 1 ≤ wd910.heap.size := by omega
              replace hz3 : w.heap.size + 1 ≤ (wd910.alloc (.cells #[.slice Am m.length cm] 44)).heap.size := HOx.out.lt
              generalize wd910.alloc (.cells #[.slice Am m.length cm] 44) = wd91014 at *
              generalize wd910.heap.size = g14 at *
              (try clear wd910)
              refine stage_all (rs := [15]) (by kernel_rfl) (by simp) (fun i hi => ?_)
              obtain rfl : i = 15 := by simpa using hi
              refine stage_step (S := fun (L' : Array Bool) (w' : World) => (w'.cell? ⟨bc, 0, none⟩ = some (.slice (some ⟨bk, ok, none⟩) ks.length ck) ∧ w'.cell? ⟨bk, ok + j, none⟩ = some (.string y)) ∧ (L'.getD 17 false = false → w'.cell? ⟨w.heap.size, 0, none⟩ = some (.slice Ak9 K.length ck9) ∧ w'.cell? ⟨w.heap.size, 1, none⟩ = some (.slice Al9 L.length cl9))) (o := { dst := some 56, op := Go.Op.call { callee := Go.Callee.builtin Go.Builtin.append, args := #[Go.Operand.tmp 53, Go.Operand.tmp 55], argTypes := #[26, 26] }, type := 26, pos := "gc.go:117", after := #[{ on := 12, ground := Go.Ground.data }, { on := 14, ground := Go.Ground.data }, { on := 10, ground := Go.Ground.chain }], guard := none }) (by rfl) (fun K2 hK => ?_)
              refine step_append_at rfl _ _ 26 rfl (w.heap.size + 1) 44 iR (.slice none 0 0) 1 24 rfl hiR1 hiR2 hiR3 hiR4 rfl (by decide) _ L.length vs rfl HWx.out.ol ⟨g14, 0, none⟩ 1 1 [.slice Am m.length cm] rfl rfl (fun i u hi => by rw [Addr.add_lit, Nat.zero_add]; exact N14.out.c i u hi) (by simp [Value.oneCell']) (by simp only [maxLen]; omega) (by omega) hz3 (fun vl2 wd9101415 hown hgrow hat => ?_)
              have qb : (Value.slice Al9 L.length cl9).ownBlock ≠ some bc := fun q => by have := (HWx.out.ol.lt bc q).1; omega
              have qk : (Value.slice Al9 L.length cl9).ownBlock ≠ some bk := fun q => by have := (HWx.out.ol.lt bk q).1; omega
              have qo : (Value.slice Al9 L.length cl9).ownBlock ≠ some w.heap.size := fun q => by have := (HWx.out.ol.lt w.heap.size q).1; omega
              replace HFx := Lib.hid (HFx.out.grown hgrow (by omega) (fun k hk => by have := (HWx.out.ol.lt k hk).1; omega))
              replace HOx := Lib.hid (HOx.out.grown hgrow (Ne.symm qo))
              replace HCx := Lib.hid (HCx.out.grown hgrow (Ne.symm qb))
              replace gx := (World.cell?_of_block (a := ⟨bk, ok + j, none⟩) (hgrow.block bk (by omega) (Ne.symm qk))).trans gx
              obtain ⟨Al2, cl2, rfl, _, _⟩ := own_slice hown
              replace HWx := Lib.hid (HWx.out.list hown hgrow hat HM0.out HNx.out)
              clear HNx
              replace hz3 : w.heap.size + 1 ≤ wd9101415.heap.size := HOx.out.lt
              clear hown hgrow hat qb qk qo
              (try clear wd91014)
              refine hK.out _ _ ⟨⟨HCx.out.c 0 _ rfl, gx⟩, fun _ => ⟨HOx.out.c 0 _ rfl, HOx.out.c 1 _ rfl⟩⟩ ?_
              clear hK K2
              try simp only [Act.put, List.setIfInBounds_toArray, List.set_cons_zero, List.set_cons_succ]
              refine stage_all (rs := [17]) (by kernel_rfl) (by simp) (fun i hi => ?_)
              obtain rfl : i = 17 := by simpa using hi
              refine stage_step (S := fun (L' : Array Bool) (w' : World) => (w'.cell? ⟨bc, 0, none⟩ = some (.slice (some ⟨bk, ok, none⟩) ks.length ck) ∧ w'.cell? ⟨bk, ok + j, none⟩ = some (.string y)) ∧ (L'.getD 17 false = false → w'.cell? ⟨w.heap.size, 0, none⟩ = some (.slice Ak9 K.length ck9) ∧ w'.cell? ⟨w.heap.size, 1, none⟩ = some (.slice Al9 L.length cl9))) (o := { dst := none, op := Go.Op.store 22 (Go.Operand.tmp 57) (Go.Operand.tmp 51), type := 0, pos := "gc.go:117", after := #[{ on := 16, ground := Go.Ground.data }, { on := 10, ground := Go.Ground.data }, { on := 15, ground := Go.Ground.chain }, { on := 0, ground := Go.Ground.phase }, { on := 1, ground := Go.Ground.phase }, { on := 2, ground := Go.Ground.phase }, { on := 3, ground := Go.Ground.phase }, { on := 4, ground := Go.Ground.phase }, { on := 5, ground := Go.Ground.phase }, { on := 6, ground := Go.Ground.phase }, { on := 7, ground := Go.Ground.phase }, { on := 8, ground := Go.Ground.phase }, { on := 9, ground := Go.Ground.phase }, { on := 10, ground := Go.Ground.phase }, { on := 11, ground := Go.Ground.phase }, { on := 12, ground := Go.Ground.phase }, { on := 13, ground := Go.Ground.textOnly Go.Departure.lateStores }, { on := 14, ground := Go.Ground.textOnly Go.Departure.lateStores }, { on := 15, ground := Go.Ground.textOnly Go.Departure.lateStoresUnsure }], guard := none }) (by rfl) (fun K2 hK => ?_)
              have cHOx0 := HOx.out.c 0 _ rfl; have fHOx0 := HOx.out.f 0 (by simp); have cHOx1 := HOx.out.c 1 _ rfl; have fHOx1 := HOx.out.f 1 (by simp); have lHOx := HOx.out.lt
              go_simp
              clear cHOx0 fHOx0 cHOx1 fHOx1 lHOx
              replace HFx := Lib.hid (below_set (g := w.heap.size) (j := 0) (v := (.slice Ak2 (K.length + 1) ck2)) HFx.out (Nat.le_refl _))
              replace HOx : Hid (Box (wd9101415.setCell ⟨w.heap.size, 0, none⟩ (.slice Ak2 (K.length + 1) ck2)) w.heap.size [.slice Ak2 (K.length + 1) ck2, .slice Al9 L.length cl9]) := Lib.hid (HOx.out.set 0 _ (by simp))
              replace HWx := Lib.hid (HWx.out.set ⟨w.heap.size, 0, none⟩ (.slice Ak2 (K.length + 1) ck2) (Nat.lt_succ_self _))
              replace gx := (World.cell?_of_block (a := ⟨bk, ok + j, none⟩) (heap_setCell_other wd9101415 ⟨w.heap.size, 0, none⟩ bk (.slice Ak2 (K.length + 1) ck2) (by show bk ≠ w.heap.size; omega))).trans gx
              replace HCx := Lib.hid (HCx.out.other ⟨w.heap.size, 0, none⟩ (.slice Ak2 (K.length + 1) ck2) (by show w.heap.size ≠ bc; omega))
              refine hK.out _ _ ⟨⟨HCx.out.c 0 _ rfl, gx⟩, fun h => by simp at h⟩ ?_
              clear hK K2
              try simp only [Act.put, List.setIfInBounds_toArray, List.set_cons_zero, List.set_cons_succ]
              generalize wd9101415.setCell ⟨w.heap.size, 0, none⟩ (.slice Ak2 (K.length + 1) ck2) = wd910141517 at *
              (try clear wd9101415)
              refine stage_take (i := 18) (oi := { dst := some 58, op := Go.Op.fieldAddr 28 (Go.Operand.tmp 6) 1, type := 0, pos := "gc.go:117", after := #[{ on := 0, ground := Go.Ground.phase }, { on := 1, ground := Go.Ground.phase }, { on := 2, ground := Go.Ground.phase }, { on := 3, ground := Go.Ground.phase }, { on := 4, ground := Go.Ground.phase }, { on := 5, ground := Go.Ground.phase }, { on := 6, ground := Go.Ground.phase }, { on := 7, ground := Go.Ground.phase }, { on := 8, ground := Go.Ground.phase }, { on := 9, ground := Go.Ground.phase }, { on := 10, ground := Go.Ground.phase }, { on := 11, ground := Go.Ground.phase }, { on := 12, ground := Go.Ground.phase }, { on := 13, ground := Go.Ground.phase }, { on := 14, ground := Go.Ground.phase }, { on := 15, ground := Go.Ground.phase }, { on := 16, ground := Go.Ground.phase }, { on := 17, ground := Go.Ground.phase }], guard := none }) (v := ?_) (T := fun _ => True) rfl (by kernel_rfl) (by kernel_rfl) (by kernel_rfl) (by kernel_rfl) (fun _ _ _ h => h) (fun L' w' hW hS => trivial) (fun L' w' hS => ⟨hS.1, fun h => hS.2 (by rw [getD_set_ne false (by decide)]; exact h)⟩) (Or.inl ⟨by rfl, ?_⟩) trivial ⟨⟨HCx.out.c 0 _ rfl, gx⟩, fun h => by simp at h⟩ ?_
              rotate_left 1
              · intro w9 _; go_simp; (try with_reducible rfl)
              try simp only [Act.put, List.setIfInBounds_toArray, List.set_cons_zero, List.set_cons_succ]
              refine stage_all (rs := [19]) (by kernel_rfl) (by simp) (fun i hi => ?_)
              obtain rfl : i = 19 := by simpa using hi
              refine stage_step (S := fun (L' : Array Bool) (w' : World) => (w'.cell? ⟨bc, 0, none⟩ = some (.slice (some ⟨bk, ok, none⟩) ks.length ck) ∧ w'.cell? ⟨bk, ok + j, none⟩ = some (.string y)) ∧ (L'.getD 17 false = false → w'.cell? ⟨w.heap.size, 0, none⟩ = some (.slice Ak9 K.length ck9) ∧ w'.cell? ⟨w.heap.size, 1, none⟩ = some (.slice Al9 L.length cl9))) (o := { dst := none, op := Go.Op.store 26 (Go.Operand.tmp 58) (Go.Operand.tmp 56), type := 0, pos := "gc.go:117", after := #[{ on := 18, ground := Go.Ground.data }, { on := 15, ground := Go.Ground.data }, { on := 17, ground := Go.Ground.chain }, { on := 0, ground := Go.Ground.phase }, { on := 1, ground := Go.Ground.phase }, { on := 2, ground := Go.Ground.phase }, { on := 3, ground := Go.Ground.phase }, { on := 4, ground := Go.Ground.phase }, { on := 5, ground := Go.Ground.phase }, { on := 6, ground := Go.Ground.phase }, { on := 7, ground := Go.Ground.phase }, { on := 8, ground := Go.Ground.phase }, { on := 9, ground := Go.Ground.phase }, { on := 10, ground := Go.Ground.phase }, { on := 11, ground := Go.Ground.phase }, { on := 12, ground := Go.Ground.phase }, { on := 13, ground := Go.Ground.phase }, { on := 14, ground := Go.Ground.phase }, { on := 15, ground := Go.Ground.phase }, { on := 16, ground := Go.Ground.phase }, { on := 17, ground := Go.Ground.phase }], guard := none }) (by rfl) (fun K2 hK => ?_)
              have cHOx0 := HOx.out.c 0 _ rfl; have fHOx0 := HOx.out.f 0 (by simp); have cHOx1 := HOx.out.c 1 _ rfl; have fHOx1 := HOx.out.f 1 (by simp); have lHOx := HOx.out.lt
              go_simp
              clear cHOx0 fHOx0 cHOx1 fHOx1 lHOx
              replace HFx := Lib.hid (below_set (g := w.heap.size) (j := 1) (v := (.slice Al2 (L.length + 1) cl2)) HFx.out (Nat.le_refl _))
              replace HOx : Hid (Box (wd910141517.setCell ⟨w.heap.size, 1, none⟩ (.slice Al2 (L.length + 1) cl2)) w.heap.size [.slice Ak2 (K.length + 1) ck2, .slice Al2 (L.length + 1) cl2]) := Lib.hid (HOx.out.set 1 _ (by simp))
              replace HWx := Lib.hid (HWx.out.set ⟨w.heap.size, 1, none⟩ (.slice Al2 (L.length + 1) cl2) (Nat.lt_succ_self _))
              replace gx := (World.cell?_of_block (a := ⟨bk, ok + j, none⟩) (heap_setCell_other wd910141517 ⟨w.heap.size, 1, none⟩ bk (.slice Al2 (L.length + 1) cl2) (by show bk ≠ w.heap.size; omega))).trans gx
              replace HCx := Lib.hid (HCx.out.other ⟨w.heap.size, 1, none⟩ (.slice Al2 (L.length + 1) cl2) (by show w.heap.size ≠ bc; omega))
              refine hK.out _ _ ⟨⟨HCx.out.c 0 _ rfl, gx⟩, fun h => by simp at h⟩ ?_
              clear hK K2
              try simp only [Act.put, List.setIfInBounds_toArray, List.set_cons_zero, List.set_cons_succ]
              generalize wd910141517.setCell ⟨w.heap.size, 1, none⟩ (.slice Al2 (L.length + 1) cl2) = wd91014151719 at *
              (try clear wd910141517)
              refine stage_done (by kernel_rfl) ?_ _
              trace "TAIL"
              go_wp2_with fail
              go_roundw
              case rel => exact ⟨j + 1, by omega, by go_num, by rw [GS.out], ES, HFx, _, _, _, HOx, by rw [KS2.out, LS2.out]; exact HWx⟩
              case measure => simp [Lib.intOf]; omega
            · refine stage_step (S := fun (L' : Array Bool) (w' : World) => (w'.cell? ⟨bc, 0, none⟩ = some (.slice (some ⟨bk, ok, none⟩) ks.length ck) ∧ w'.cell? ⟨bk, ok + j, none⟩ = some (.string y)) ∧ (L'.getD 17 false = false → w'.cell? ⟨w.heap.size, 0, none⟩ = some (.slice Ak9 K.length ck9) ∧ w'.cell? ⟨w.heap.size, 1, none⟩ = some (.slice Al9 L.length cl9))) (o := { dst := some 55, op := Go.Op.buildSlice 26 1 #[(0, Go.Operand.tmp 54)], type := 26, pos := "gc.go:117", after := #[{ on := 13, ground := Go.Ground.data }], guard := none }) (by rfl) (fun K2 hK => ?_)
              go_simp
              skip
              have q14k : (Value.slice Ak9 K.length ck9).ownBlock ≠ some wd9.heap.size := fun q => by have := (HWx.out.ok.lt _ q).2; omega
              have N14 : Hid (Box (wd9.alloc (.cells #[.slice Am m.length cm] 44)) wd9.heap.size [.slice Am m.length cm]) := Lib.hid (Box.new wd9 #[.slice Am m.length cm] _)
              replace HFx := Lib.hid (HFx.out.alloc HFx.out.size (.cells #[.slice Am m.length cm] 44))
              replace HOx := Lib.hid (HOx.out.alloc (.cells #[.slice Am m.length cm] 44))
              replace HWx := Lib.hid (HWx.out.alloc (.cells #[.slice Am m.length cm] 44))
              replace HCx := Lib.hid (HCx.out.alloc (.cells #[.slice Am m.length cm] 44))
              replace gx := (((Below.refl _ wd9).alloc (Nat.le_refl _) (.cells #[.slice Am m.length cm] 44)).cell (p := ⟨bk, ok + j, none⟩) (by show bk < wd9.heap.size; omega)).trans gx
              replace HNx := Lib.hid (HNx.out.below ((Below.refl _ wd9).alloc (Nat.le_refl _) (.cells #[.slice Am m.length cm] 44)))
              replace N9 := Lib.hid (N9.out.alloc (.cells #[.slice Am m.length cm] 44))
              refine hK.out _ _ ⟨⟨HCx.out.c 0 _ rfl, gx⟩, fun _ => ⟨HOx.out.c 0 _ rfl, HOx.out.c 1 _ rfl⟩⟩ ?_
              clear hK K2
              try simp only [Act.put, List.setIfInBounds_toArray, List.set_cons_zero, List.set_cons_succ]
              have hs14 : w.heap.size + 1 ≤ wd9.heap.size := by omega
              replace hz3 : w.heap.size + 1 ≤ (wd9.alloc (.cells #[.slice Am m.length cm] 44)).heap.size := HOx.out.lt
              generalize wd9.alloc (.cells #[.slice Am m.length cm] 44) = wd914 at *
              generalize wd9.heap.size = g14 at *
              (try clear wd9)
              refine stage_all (rs := [10]) (by kernel_rfl) (by simp) (fun i hi => ?_)
              obtain rfl : i = 10 := by simpa using hi
              refine stage_step (S := fun (L' : Array Bool) (w' : World) => (w'.cell? ⟨bc, 0, none⟩ = some (.slice (some ⟨bk, ok, none⟩) ks.length ck) ∧ w'.cell? ⟨bk, ok + j, none⟩ = some (.string y)) ∧ (L'.getD 17 false = false → w'.cell? ⟨w.heap.size, 0, none⟩ = some (.slice Ak9 K.length ck9) ∧ w'.cell? ⟨w.heap.size, 1, none⟩ = some (.slice Al9 L.length cl9))) (o := { dst := some 51, op := Go.Op.call { callee := Go.Callee.builtin Go.Builtin.append, args := #[Go.Operand.tmp 42, Go.Operand.tmp 50], argTypes := #[22, 22] }, type := 22, pos := "gc.go:117", after := #[{ on := 1, ground := Go.Ground.data }, { on := 9, ground := Go.Ground.data }], guard := none }) (by rfl) (fun K2 hK => ?_)
              refine step_append_at rfl _ _ 22 rfl (w.heap.size + 1) 9 iS (.string ⟨#[]⟩) 1 16 rfl hiS1 hiS2 hiS3 hiS4 rfl (by decide) _ K.length (K.flatMap encS) rfl HWx.out.ok ⟨g9, 0, none⟩ 1 1 [.string y] rfl rfl (fun i u hi => by rw [Addr.add_lit, Nat.zero_add]; exact N9.out.c i u hi) (by simp [Value.oneCell']) (by simp only [maxLen]; omega) (by omega) hz3 (fun vk2 wd91410 hown hgrow hat => ?_)
              have qb : (Value.slice Ak9 K.length ck9).ownBlock ≠ some bc := fun q => by have := (HWx.out.ok.lt bc q).1; omega
              have qk : (Value.slice Ak9 K.length ck9).ownBlock ≠ some bk := fun q => by have := (HWx.out.ok.lt bk q).1; omega
              have qo : (Value.slice Ak9 K.length ck9).ownBlock ≠ some w.heap.size := fun q => by have := (HWx.out.ok.lt w.heap.size q).1; omega
              replace HFx := Lib.hid (HFx.out.grown hgrow (by omega) (fun k hk => by have := (HWx.out.ok.lt k hk).1; omega))
              replace HOx := Lib.hid (HOx.out.grown hgrow (Ne.symm qo))
              replace HCx := Lib.hid (HCx.out.grown hgrow (Ne.symm qb))
              replace gx := (World.cell?_of_block (a := ⟨bk, ok + j, none⟩) (hgrow.block bk (by omega) (Ne.symm qk))).trans gx
              replace N14 := Lib.hid (N14.out.grown hgrow (Ne.symm q14k))
              obtain ⟨Ak2, ck2, rfl, _, _⟩ := own_slice hown
              replace HNx := Lib.hid (HWx.out.keyx hgrow hat HM0.out HNx.out)
              replace HWx := Lib.hid (HWx.out.key hown hgrow hat)
              replace hz3 : w.heap.size + 1 ≤ wd91410.heap.size := HOx.out.lt
              clear hown hgrow hat qb qk qo
              skip
              refine hK.out _ _ ⟨⟨HCx.out.c 0 _ rfl, gx⟩, fun _ => ⟨HOx.out.c 0 _ rfl, HOx.out.c 1 _ rfl⟩⟩ ?_
              clear hK K2
              try simp only [Act.put, List.setIfInBounds_toArray, List.set_cons_zero, List.set_cons_succ]
              have hS0 : (fun w' : World => (w'.cell? ⟨bc, 0, none⟩ = some (.slice (some ⟨bk, ok, none⟩) ks.length ck) ∧ w'.cell? ⟨bk, ok + j, none⟩ = some (.string y)) ∧ w'.cell? ⟨w.heap.size, 0, none⟩ = some (.slice Ak9 K.length ck9) ∧ w'.cell? ⟨w.heap.size, 1, none⟩ = some (.slice Al9 L.length cl9)) wd91410 := ⟨⟨HCx.out.c 0 _ rfl, gx⟩, HOx.out.c 0 _ rfl, HOx.out.c 1 _ rfl⟩
              refine stage_take (i := 16) (oi := { dst := some 57, op := Go.Op.fieldAddr 28 (Go.Operand.tmp 6) 0, type := 0, pos := "gc.go:117", after := #[{ on := 0, ground := Go.Ground.phase }, { on := 1, ground := Go.Ground.phase }, { on := 2, ground := Go.Ground.phase }, { on := 3, ground := Go.Ground.phase }, { on := 4, ground := Go.Ground.phase }, { on := 5, ground := Go.Ground.phase }, { on := 6, ground := Go.Ground.phase }, { on := 7, ground := Go.Ground.phase }, { on := 8, ground := Go.Ground.phase }, { on := 9, ground := Go.Ground.phase }, { on := 10, ground := Go.Ground.phase }, { on := 11, ground := Go.Ground.phase }, { on := 12, ground := Go.Ground.phase }, { on := 13, ground := Go.Ground.textOnly Go.Departure.lateStores }, { on := 14, ground := Go.Ground.textOnly Go.Departure.lateStores }, { on := 15, ground := Go.Ground.textOnly Go.Departure.lateStoresUnsure }], guard := none }) (v := ?_) (T := fun _ => True) rfl (by kernel_rfl) (by kernel_rfl) (by kernel_rfl) (by kernel_rfl) (fun _ _ _ h => h) (fun L' w' hW hS => trivial) (fun L' w' hS => ⟨hS.1, fun h => hS.2 (by rw [getD_set_ne false (by decide)]; exact h)⟩) (Or.inl ⟨by rfl, ?_⟩) trivial ⟨hS0.1, fun _ => hS0.2⟩ ?_
              rotate_left 1
              · intro w9 _; go_simp; (try with_reducible rfl)
              try simp only [Act.put, List.setIfInBounds_toArray, List.set_cons_zero, List.set_cons_succ]
              clear hS0
              refine stage_all (rs := [15]) (by kernel_rfl) (by simp) (fun i hi => ?_)
              obtain rfl : i = 15 := by simpa using hi
              refine stage_step (S := fun (L' : Array Bool) (w' : World) => (w'.cell? ⟨bc, 0, none⟩ = some (.slice (some ⟨bk, ok, none⟩) ks.length ck) ∧ w'.cell? ⟨bk, ok + j, none⟩ = some (.string y)) ∧ (L'.getD 17 false = false → w'.cell? ⟨w.heap.size, 0, none⟩ = some (.slice Ak9 K.length ck9) ∧ w'.cell? ⟨w.heap.size, 1, none⟩ = some (.slice Al9 L.length cl9))) (o := { dst := some 56, op := Go.Op.call { callee := Go.Callee.builtin Go.Builtin.append, args := #[Go.Operand.tmp 53, Go.Operand.tmp 55], argTypes := #[26, 26] }, type := 26, pos := "gc.go:117", after := #[{ on := 12, ground := Go.Ground.data }, { on := 14, ground := Go.Ground.data }, { on := 10, ground := Go.Ground.chain }], guard := none }) (by rfl) (fun K2 hK => ?_)
              refine step_append_at rfl _ _ 26 rfl (w.heap.size + 1) 44 iR (.slice none 0 0) 1 24 rfl hiR1 hiR2 hiR3 hiR4 rfl (by decide) _ L.length vs rfl HWx.out.ol ⟨g14, 0, none⟩ 1 1 [.slice Am m.length cm] rfl rfl (fun i u hi => by rw [Addr.add_lit, Nat.zero_add]; exact N14.out.c i u hi) (by simp [Value.oneCell']) (by simp only [maxLen]; omega) (by omega) hz3 (fun vl2 wd9141015 hown hgrow hat => ?_)
              have qb : (Value.slice Al9 L.length cl9).ownBlock ≠ some bc := fun q => by have := (HWx.out.ol.lt bc q).1; omega
              have qk : (Value.slice Al9 L.length cl9).ownBlock ≠ some bk := fun q => by have := (HWx.out.ol.lt bk q).1; omega
              have qo : (Value.slice Al9 L.length cl9).ownBlock ≠ some w.heap.size := fun q => by have := (HWx.out.ol.lt w.heap.size q).1; omega
              replace HFx := Lib.hid (HFx.out.grown hgrow (by omega) (fun k hk => by have := (HWx.out.ol.lt k hk).1; omega))
              replace HOx := Lib.hid (HOx.out.grown hgrow (Ne.symm qo))
              replace HCx := Lib.hid (HCx.out.grown hgrow (Ne.symm qb))
              replace gx := (World.cell?_of_block (a := ⟨bk, ok + j, none⟩) (hgrow.block bk (by omega) (Ne.symm qk))).trans gx
              obtain ⟨Al2, cl2, rfl, _, _⟩ := own_slice hown
              replace HWx := Lib.hid (HWx.out.list hown hgrow hat HM0.out HNx.out)
              clear HNx
              replace hz3 : w.heap.size + 1 ≤ wd9141015.heap.size := HOx.out.lt
              clear hown hgrow hat qb qk qo
              (try clear wd91410)
              refine hK.out _ _ ⟨⟨HCx.out.c 0 _ rfl, gx⟩, fun _ => ⟨HOx.out.c 0 _ rfl, HOx.out.c 1 _ rfl⟩⟩ ?_
              clear hK K2
              try simp only [Act.put, List.setIfInBounds_toArray, List.set_cons_zero, List.set_cons_succ]
              refine stage_all (rs := [17]) (by kernel_rfl) (by simp) (fun i hi => ?_)
              obtain rfl : i = 17 := by simpa using hi
              refine stage_step (S := fun (L' : Array Bool) (w' : World) => (w'.cell? ⟨bc, 0, none⟩ = some (.slice (some ⟨bk, ok, none⟩) ks.length ck) ∧ w'.cell? ⟨bk, ok + j, none⟩ = some (.string y)) ∧ (L'.getD 17 false = false → w'.cell? ⟨w.heap.size, 0, none⟩ = some (.slice Ak9 K.length ck9) ∧ w'.cell? ⟨w.heap.size, 1, none⟩ = some (.slice Al9 L.length cl9))) (o := { dst := none, op := Go.Op.store 22 (Go.Operand.tmp 57) (Go.Operand.tmp 51), type := 0, pos := "gc.go:117", after := #[{ on := 16, ground := Go.Ground.data }, { on := 10, ground := Go.Ground.data }, { on := 15, ground := Go.Ground.chain }, { on := 0, ground := Go.Ground.phase }, { on := 1, ground := Go.Ground.phase }, { on := 2, ground := Go.Ground.phase }, { on := 3, ground := Go.Ground.phase }, { on := 4, ground := Go.Ground.phase }, { on := 5, ground := Go.Ground.phase }, { on := 6, ground := Go.Ground.phase }, { on := 7, ground := Go.Ground.phase }, { on := 8, ground := Go.Ground.phase }, { on := 9, ground := Go.Ground.phase }, { on := 10, ground := Go.Ground.phase }, { on := 11, ground := Go.Ground.phase }, { on := 12, ground := Go.Ground.phase }, { on := 13, ground := Go.Ground.textOnly Go.Departure.lateStores }, { on := 14, ground := Go.Ground.textOnly Go.Departure.lateStores }, { on := 15, ground := Go.Ground.textOnly Go.Departure.lateStoresUnsure }], guard := none }) (by rfl) (fun K2 hK => ?_)
              have cHOx0 := HOx.out.c 0 _ rfl; have fHOx0 := HOx.out.f 0 (by simp); have cHOx1 := HOx.out.c 1 _ rfl; have fHOx1 := HOx.out.f 1 (by simp); have lHOx := HOx.out.lt
              go_simp
              clear cHOx0 fHOx0 cHOx1 fHOx1 lHOx
              replace HFx := Lib.hid (below_set (g := w.heap.size) (j := 0) (v := (.slice Ak2 (K.length + 1) ck2)) HFx.out (Nat.le_refl _))
              replace HOx : Hid (Box (wd9141015.setCell ⟨w.heap.size, 0, none⟩ (.slice Ak2 (K.length + 1) ck2)) w.heap.size [.slice Ak2 (K.length + 1) ck2, .slice Al9 L.length cl9]) := Lib.hid (HOx.out.set 0 _ (by simp))
              replace HWx := Lib.hid (HWx.out.set ⟨w.heap.size, 0, none⟩ (.slice Ak2 (K.length + 1) ck2) (Nat.lt_succ_self _))
              replace gx := (World.cell?_of_block (a := ⟨bk, ok + j, none⟩) (heap_setCell_other wd9141015 ⟨w.heap.size, 0, none⟩ bk (.slice Ak2 (K.length + 1) ck2) (by show bk ≠ w.heap.size; omega))).trans gx
              replace HCx := Lib.hid (HCx.out.other ⟨w.heap.size, 0, none⟩ (.slice Ak2 (K.length + 1) ck2) (by show w.heap.size ≠ bc; omega))
              refine hK.out _ _ ⟨⟨HCx.out.c 0 _ rfl, gx⟩, fun h => by simp at h⟩ ?_
              clear hK K2
              try simp only [Act.put, List.setIfInBounds_toArray, List.set_cons_zero, List.set_cons_succ]
              generalize wd9141015.setCell ⟨w.heap.size, 0, none⟩ (.slice Ak2 (K.length + 1) ck2) = wd914101517 at *
              (try clear wd9141015)
              refine stage_take (i := 18) (oi := { dst := some 58, op := Go.Op.fieldAddr 28 (Go.Operand.tmp 6) 1, type := 0, pos := "gc.go:117", after := #[{ on := 0, ground := Go.Ground.phase }, { on := 1, ground := Go.Ground.phase }, { on := 2, ground := Go.Ground.phase }, { on := 3, ground := Go.Ground.phase }, { on := 4, ground := Go.Ground.phase }, { on := 5, ground := Go.Ground.phase }, { on := 6, ground := Go.Ground.phase }, { on := 7, ground := Go.Ground.phase }, { on := 8, ground := Go.Ground.phase }, { on := 9, ground := Go.Ground.phase }, { on := 10, ground := Go.Ground.phase }, { on := 11, ground := Go.Ground.phase }, { on := 12, ground := Go.Ground.phase }, { on := 13, ground := Go.Ground.phase }, { on := 14, ground := Go.Ground.phase }, { on := 15, ground := Go.Ground.phase }, { on := 16, ground := Go.Ground.phase }, { on := 17, ground := Go.Ground.phase }], guard := none }) (v := ?_) (T := fun _ => True) rfl (by kernel_rfl) (by kernel_rfl) (by kernel_rfl) (by kernel_rfl) (fun _ _ _ h => h) (fun L' w' hW hS => trivial) (fun L' w' hS => ⟨hS.1, fun h => hS.2 (by rw [getD_set_ne false (by decide)]; exact h)⟩) (Or.inl ⟨by rfl, ?_⟩) trivial ⟨⟨HCx.out.c 0 _ rfl, gx⟩, fun h => by simp at h⟩ ?_
              rotate_left 1
              · intro w9 _; go_simp; (try with_reducible rfl)
              try simp only [Act.put, List.setIfInBounds_toArray, List.set_cons_zero, List.set_cons_succ]
              refine stage_all (rs := [19]) (by kernel_rfl) (by simp) (fun i hi => ?_)
              obtain rfl : i = 19 := by simpa using hi
              refine stage_step (S := fun (L' : Array Bool) (w' : World) => (w'.cell? ⟨bc, 0, none⟩ = some (.slice (some ⟨bk, ok, none⟩) ks.length ck) ∧ w'.cell? ⟨bk, ok + j, none⟩ = some (.string y)) ∧ (L'.getD 17 false = false → w'.cell? ⟨w.heap.size, 0, none⟩ = some (.slice Ak9 K.length ck9) ∧ w'.cell? ⟨w.heap.size, 1, none⟩ = some (.slice Al9 L.length cl9))) (o := { dst := none, op := Go.Op.store 26 (Go.Operand.tmp 58) (Go.Operand.tmp 56), type := 0, pos := "gc.go:117", after := #[{ on := 18, ground := Go.Ground.data }, { on := 15, ground := Go.Ground.data }, { on := 17, ground := Go.Ground.chain }, { on := 0, ground := Go.Ground.phase }, { on := 1, ground := Go.Ground.phase }, { on := 2, ground := Go.Ground.phase }, { on := 3, ground := Go.Ground.phase }, { on := 4, ground := Go.Ground.phase }, { on := 5, ground := Go.Ground.phase }, { on := 6, ground := Go.Ground.phase }, { on := 7, ground := Go.Ground.phase }, { on := 8, ground := Go.Ground.phase }, { on := 9, ground := Go.Ground.phase }, { on := 10, ground := Go.Ground.phase }, { on := 11, ground := Go.Ground.phase }, { on := 12, ground := Go.Ground.phase }, { on := 13, ground := Go.Ground.phase }, { on := 14, ground := Go.Ground.phase }, { on := 15, ground := Go.Ground.phase }, { on := 16, ground := Go.Ground.phase }, { on := 17, ground := Go.Ground.phase }], guard := none }) (by rfl) (fun K2 hK => ?_)
              have cHOx0 := HOx.out.c 0 _ rfl; have fHOx0 := HOx.out.f 0 (by simp); have cHOx1 := HOx.out.c 1 _ rfl; have fHOx1 := HOx.out.f 1 (by simp); have lHOx := HOx.out.lt
              go_simp
              clear cHOx0 fHOx0 cHOx1 fHOx1 lHOx
              replace HFx := Lib.hid (below_set (g := w.heap.size) (j := 1) (v := (.slice Al2 (L.length + 1) cl2)) HFx.out (Nat.le_refl _))
              replace HOx : Hid (Box (wd914101517.setCell ⟨w.heap.size, 1, none⟩ (.slice Al2 (L.length + 1) cl2)) w.heap.size [.slice Ak2 (K.length + 1) ck2, .slice Al2 (L.length + 1) cl2]) := Lib.hid (HOx.out.set 1 _ (by simp))
              replace HWx := Lib.hid (HWx.out.set ⟨w.heap.size, 1, none⟩ (.slice Al2 (L.length + 1) cl2) (Nat.lt_succ_self _))
              replace gx := (World.cell?_of_block (a := ⟨bk, ok + j, none⟩) (heap_setCell_other wd914101517 ⟨w.heap.size, 1, none⟩ bk (.slice Al2 (L.length + 1) cl2) (by show bk ≠ w.heap.size; omega))).trans gx
              replace HCx := Lib.hid (HCx.out.other ⟨w.heap.size, 1, none⟩ (.slice Al2 (L.length + 1) cl2) (by show w.heap.size ≠ bc; omega))
              refine hK.out _ _ ⟨⟨HCx.out.c 0 _ rfl, gx⟩, fun h => by simp at h⟩ ?_
              clear hK K2
              try simp only [Act.put, List.setIfInBounds_toArray, List.set_cons_zero, List.set_cons_succ]
              generalize wd914101517.setCell ⟨w.heap.size, 1, none⟩ (.slice Al2 (L.length + 1) cl2) = wd91410151719 at *
              (try clear wd914101517)
              refine stage_done (by kernel_rfl) ?_ _
              trace "TAIL"
              go_wp2_with fail
              go_roundw
              case rel => exact ⟨j + 1, by omega, by go_num, by rw [GS.out], ES, HFx, _, _, _, HOx, by rw [KS2.out, LS2.out]; exact HWx⟩
              case measure => simp [Lib.intOf]; omega
          · refine stage_step (S := fun (L' : Array Bool) (w' : World) => (w'.cell? ⟨bc, 0, none⟩ = some (.slice (some ⟨bk, ok, none⟩) ks.length ck) ∧ w'.cell? ⟨bk, ok + j, none⟩ = some (.string y)) ∧ (L'.getD 17 false = false → w'.cell? ⟨w.heap.size, 0, none⟩ = some (.slice Ak9 K.length ck9) ∧ w'.cell? ⟨w.heap.size, 1, none⟩ = some (.slice Al9 L.length cl9))) (o := { dst := some 55, op := Go.Op.buildSlice 26 1 #[(0, Go.Operand.tmp 54)], type := 26, pos := "gc.go:117", after := #[{ on := 13, ground := Go.Ground.data }], guard := none }) (by rfl) (fun K2 hK => ?_)
            go_simp
            skip
            have q14k : (Value.slice Ak9 K.length ck9).ownBlock ≠ some wd.heap.size := fun q => by have := (HWx.out.ok.lt _ q).2; omega
            have N14 : Hid (Box (wd.alloc (.cells #[.slice Am m.length cm] 44)) wd.heap.size [.slice Am m.length cm]) := Lib.hid (Box.new wd #[.slice Am m.length cm] _)
            replace HFx := Lib.hid (HFx.out.alloc HFx.out.size (.cells #[.slice Am m.length cm] 44))
            replace HOx := Lib.hid (HOx.out.alloc (.cells #[.slice Am m.length cm] 44))
            replace HWx := Lib.hid (HWx.out.alloc (.cells #[.slice Am m.length cm] 44))
            replace HCx := Lib.hid (HCx.out.alloc (.cells #[.slice Am m.length cm] 44))
            replace gx := (((Below.refl _ wd).alloc (Nat.le_refl _) (.cells #[.slice Am m.length cm] 44)).cell (p := ⟨bk, ok + j, none⟩) (by show bk < wd.heap.size; omega)).trans gx
            replace HNx := Lib.hid (HNx.out.below ((Below.refl _ wd).alloc (Nat.le_refl _) (.cells #[.slice Am m.length cm] 44)))
            refine hK.out _ _ ⟨⟨HCx.out.c 0 _ rfl, gx⟩, fun _ => ⟨HOx.out.c 0 _ rfl, HOx.out.c 1 _ rfl⟩⟩ ?_
            clear hK K2
            try simp only [Act.put, List.setIfInBounds_toArray, List.set_cons_zero, List.set_cons_succ]
            have hs14 : w.heap.size + 1 ≤ wd.heap.size := by omega
            replace hz3 : w.heap.size + 1 ≤ (wd.alloc (.cells #[.slice Am m.length cm] 44)).heap.size := HOx.out.lt
            generalize wd.alloc (.cells #[.slice Am m.length cm] 44) = wd14 at *
            generalize wd.heap.size = g14 at *
            (try clear wd)
            refine stage_all (rs := [9]) (by kernel_rfl) (by simp) (fun i hi => ?_)
            obtain rfl : i = 9 := by simpa using hi
            refine stage_step (S := fun (L' : Array Bool) (w' : World) => (w'.cell? ⟨bc, 0, none⟩ = some (.slice (some ⟨bk, ok, none⟩) ks.length ck) ∧ w'.cell? ⟨bk, ok + j, none⟩ = some (.string y)) ∧ (L'.getD 17 false = false → w'.cell? ⟨w.heap.size, 0, none⟩ = some (.slice Ak9 K.length ck9) ∧ w'.cell? ⟨w.heap.size, 1, none⟩ = some (.slice Al9 L.length cl9))) (o := { dst := some 50, op := Go.Op.buildSlice 22 1 #[(0, Go.Operand.tmp 49)], type := 22, pos := "gc.go:117", after := #[{ on := 8, ground := Go.Ground.data }], guard := none }) (by rfl) (fun K2 hK => ?_)
            go_simp
            skip
            skip
            have N9 : Hid (Box (wd14.alloc (.cells #[.string y] 9)) wd14.heap.size [.string y]) := Lib.hid (Box.new wd14 #[.string y] _)
            replace HFx := Lib.hid (HFx.out.alloc HFx.out.size (.cells #[.string y] 9))
            replace HOx := Lib.hid (HOx.out.alloc (.cells #[.string y] 9))
            replace HWx := Lib.hid (HWx.out.alloc (.cells #[.string y] 9))
            replace HCx := Lib.hid (HCx.out.alloc (.cells #[.string y] 9))
            replace gx := (((Below.refl _ wd14).alloc (Nat.le_refl _) (.cells #[.string y] 9)).cell (p := ⟨bk, ok + j, none⟩) (by show bk < wd14.heap.size; omega)).trans gx
            replace HNx := Lib.hid (HNx.out.below ((Below.refl _ wd14).alloc (Nat.le_refl _) (.cells #[.string y] 9)))
            replace N14 := Lib.hid (N14.out.alloc (.cells #[.string y] 9))
            refine hK.out _ _ ⟨⟨HCx.out.c 0 _ rfl, gx⟩, fun _ => ⟨HOx.out.c 0 _ rfl, HOx.out.c 1 _ rfl⟩⟩ ?_
            clear hK K2
            try simp only [Act.put, List.setIfInBounds_toArray, List.set_cons_zero, List.set_cons_succ]
            have hs9 : w.heap.size + 1 ≤ wd14.heap.size := by omega
            replace hz3 : w.heap.size + 1 ≤ (wd14.alloc (.cells #[.string y] 9)).heap.size := HOx.out.lt
            generalize wd14.alloc (.cells #[.string y] 9) = wd149 at *
            generalize wd14.heap.size = g9 at *
            (try clear wd14)
            refine stage_all (rs := [10]) (by kernel_rfl) (by simp) (fun i hi => ?_)
            obtain rfl : i = 10 := by simpa using hi
            refine stage_step (S := fun (L' : Array Bool) (w' : World) => (w'.cell? ⟨bc, 0, none⟩ = some (.slice (some ⟨bk, ok, none⟩) ks.length ck) ∧ w'.cell? ⟨bk, ok + j, none⟩ = some (.string y)) ∧ (L'.getD 17 false = false → w'.cell? ⟨w.heap.size, 0, none⟩ = some (.slice Ak9 K.length ck9) ∧ w'.cell? ⟨w.heap.size, 1, none⟩ = some (.slice Al9 L.length cl9))) (o := { dst := some 51, op := Go.Op.call { callee := Go.Callee.builtin Go.Builtin.append, args := #[Go.Operand.tmp 42, Go.Operand.tmp 50], argTypes := #[22, 22] }, type := 22, pos := "gc.go:117", after := #[{ on := 1, ground := Go.Ground.data }, { on := 9, ground := Go.Ground.data }], guard := none }) (by rfl) (fun K2 hK => ?_)
            refine step_append_at rfl _ _ 22 rfl (w.heap.size + 1) 9 iS (.string ⟨#[]⟩) 1 16 rfl hiS1 hiS2 hiS3 hiS4 rfl (by decide) _ K.length (K.flatMap encS) rfl HWx.out.ok ⟨g9, 0, none⟩ 1 1 [.string y] rfl rfl (fun i u hi => by rw [Addr.add_lit, Nat.zero_add]; exact N9.out.c i u hi) (by simp [Value.oneCell']) (by simp only [maxLen]; omega) (by omega) hz3 (fun vk2 wd14910 hown hgrow hat => ?_)
            have qb : (Value.slice Ak9 K.length ck9).ownBlock ≠ some bc := fun q => by have := (HWx.out.ok.lt bc q).1; omega
            have qk : (Value.slice Ak9 K.length ck9).ownBlock ≠ some bk := fun q => by have := (HWx.out.ok.lt bk q).1; omega
            have qo : (Value.slice Ak9 K.length ck9).ownBlock ≠ some w.heap.size := fun q => by have := (HWx.out.ok.lt w.heap.size q).1; omega
            replace HFx := Lib.hid (HFx.out.grown hgrow (by omega) (fun k hk => by have := (HWx.out.ok.lt k hk).1; omega))
            replace HOx := Lib.hid (HOx.out.grown hgrow (Ne.symm qo))
            replace HCx := Lib.hid (HCx.out.grown hgrow (Ne.symm qb))
            replace gx := (World.cell?_of_block (a := ⟨bk, ok + j, none⟩) (hgrow.block bk (by omega) (Ne.symm qk))).trans gx
            replace N14 := Lib.hid (N14.out.grown hgrow (Ne.symm q14k))
            obtain ⟨Ak2, ck2, rfl, _, _⟩ := own_slice hown
            replace HNx := Lib.hid (HWx.out.keyx hgrow hat HM0.out HNx.out)
            replace HWx := Lib.hid (HWx.out.key hown hgrow hat)
            replace hz3 : w.heap.size + 1 ≤ wd14910.heap.size := HOx.out.lt
            clear hown hgrow hat qb qk qo
            skip
            refine hK.out _ _ ⟨⟨HCx.out.c 0 _ rfl, gx⟩, fun _ => ⟨HOx.out.c 0 _ rfl, HOx.out.c 1 _ rfl⟩⟩ ?_
            clear hK K2
            try simp only [Act.put, List.setIfInBounds_toArray, List.set_cons_zero, List.set_cons_succ]
            have hS0 : (fun w' : World => (w'.cell? ⟨bc, 0, none⟩ = some (.slice (some ⟨bk, ok, none⟩) ks.length ck) ∧ w'.cell? ⟨bk, ok + j, none⟩ = some (.string y)) ∧ w'.cell? ⟨w.heap.size, 0, none⟩ = some (.slice Ak9 K.length ck9) ∧ w'.cell? ⟨w.heap.size, 1, none⟩ = some (.slice Al9 L.length cl9)) wd14910 := ⟨⟨HCx.out.c 0 _ rfl, gx⟩, HOx.out.c 0 _ rfl, HOx.out.c 1 _ rfl⟩
            refine stage_take (i := 16) (oi := { dst := some 57, op := Go.Op.fieldAddr 28 (Go.Operand.tmp 6) 0, type := 0, pos := "gc.go:117", after := #[{ on := 0, ground := Go.Ground.phase }, { on := 1, ground := Go.Ground.phase }, { on := 2, ground := Go.Ground.phase }, { on := 3, ground := Go.Ground.phase }, { on := 4, ground := Go.Ground.phase }, { on := 5, ground := Go.Ground.phase }, { on := 6, ground := Go.Ground.phase }, { on := 7, ground := Go.Ground.phase }, { on := 8, ground := Go.Ground.phase }, { on := 9, ground := Go.Ground.phase }, { on := 10, ground := Go.Ground.phase }, { on := 11, ground := Go.Ground.phase }, { on := 12, ground := Go.Ground.phase }, { on := 13, ground := Go.Ground.textOnly Go.Departure.lateStores }, { on := 14, ground := Go.Ground.textOnly Go.Departure.lateStores }, { on := 15, ground := Go.Ground.textOnly Go.Departure.lateStoresUnsure }], guard := none }) (v := ?_) (T := fun _ => True) rfl (by kernel_rfl) (by kernel_rfl) (by kernel_rfl) (by kernel_rfl) (fun _ _ _ h => h) (fun L' w' hW hS => trivial) (fun L' w' hS => ⟨hS.1, fun h => hS.2 (by rw [getD_set_ne false (by decide)]; exact h)⟩) (Or.inl ⟨by rfl, ?_⟩) trivial ⟨hS0.1, fun _ => hS0.2⟩ ?_
            rotate_left 1
            · intro w9 _; go_simp; (try with_reducible rfl)
            try simp only [Act.put, List.setIfInBounds_toArray, List.set_cons_zero, List.set_cons_succ]
            clear hS0
            refine stage_all (rs := [15]) (by kernel_rfl) (by simp) (fun i hi => ?_)
            obtain rfl : i = 15 := by simpa using hi
            refine stage_step (S := fun (L' : Array Bool) (w' : World) => (w'.cell? ⟨bc, 0, none⟩ = some (.slice (some ⟨bk, ok, none⟩) ks.length ck) ∧ w'.cell? ⟨bk, ok + j, none⟩ = some (.string y)) ∧ (L'.getD 17 false = false → w'.cell? ⟨w.heap.size, 0, none⟩ = some (.slice Ak9 K.length ck9) ∧ w'.cell? ⟨w.heap.size, 1, none⟩ = some (.slice Al9 L.length cl9))) (o := { dst := some 56, op := Go.Op.call { callee := Go.Callee.builtin Go.Builtin.append, args := #[Go.Operand.tmp 53, Go.Operand.tmp 55], argTypes := #[26, 26] }, type := 26, pos := "gc.go:117", after := #[{ on := 12, ground := Go.Ground.data }, { on := 14, ground := Go.Ground.data }, { on := 10, ground := Go.Ground.chain }], guard := none }) (by rfl) (fun K2 hK => ?_)
            refine step_append_at rfl _ _ 26 rfl (w.heap.size + 1) 44 iR (.slice none 0 0) 1 24 rfl hiR1 hiR2 hiR3 hiR4 rfl (by decide) _ L.length vs rfl HWx.out.ol ⟨g14, 0, none⟩ 1 1 [.slice Am m.length cm] rfl rfl (fun i u hi => by rw [Addr.add_lit, Nat.zero_add]; exact N14.out.c i u hi) (by simp [Value.oneCell']) (by simp only [maxLen]; omega) (by omega) hz3 (fun vl2 wd1491015 hown hgrow hat => ?_)
            have qb : (Value.slice Al9 L.length cl9).ownBlock ≠ some bc := fun q => by have := (HWx.out.ol.lt bc q).1; omega
            have qk : (Value.slice Al9 L.length cl9).ownBlock ≠ some bk := fun q => by have := (HWx.out.ol.lt bk q).1; omega
            have qo : (Value.slice Al9 L.length cl9).ownBlock ≠ some w.heap.size := fun q => by have := (HWx.out.ol.lt w.heap.size q).1; omega
            replace HFx := Lib.hid (HFx.out.grown hgrow (by omega) (fun k hk => by have := (HWx.out.ol.lt k hk).1; omega))
            replace HOx := Lib.hid (HOx.out.grown hgrow (Ne.symm qo))
            replace HCx := Lib.hid (HCx.out.grown hgrow (Ne.symm qb))
            replace gx := (World.cell?_of_block (a := ⟨bk, ok + j, none⟩) (hgrow.block bk (by omega) (Ne.symm qk))).trans gx
            obtain ⟨Al2, cl2, rfl, _, _⟩ := own_slice hown
            replace HWx := Lib.hid (HWx.out.list hown hgrow hat HM0.out HNx.out)
            clear HNx
            replace hz3 : w.heap.size + 1 ≤ wd1491015.heap.size := HOx.out.lt
            clear hown hgrow hat qb qk qo
            (try clear wd14910)
            refine hK.out _ _ ⟨⟨HCx.out.c 0 _ rfl, gx⟩, fun _ => ⟨HOx.out.c 0 _ rfl, HOx.out.c 1 _ rfl⟩⟩ ?_
            clear hK K2
            try simp only [Act.put, List.setIfInBounds_toArray, List.set_cons_zero, List.set_cons_succ]
            refine stage_all (rs := [17]) (by kernel_rfl) (by simp) (fun i hi => ?_)
            obtain rfl : i = 17 := by simpa using hi
            refine stage_step (S := fun (L' : Array Bool) (w' : World) => (w'.cell? ⟨bc, 0, none⟩ = some (.slice (some ⟨bk, ok, none⟩) ks.length ck) ∧ w'.cell? ⟨bk, ok + j, none⟩ = some (.string y)) ∧ (L'.getD 17 false = false → w'.cell? ⟨w.heap.size, 0, none⟩ = some (.slice Ak9 K.length ck9) ∧ w'.cell? ⟨w.heap.size, 1, none⟩ = some (.slice Al9 L.length cl9))) (o := { dst := none, op := Go.Op.store 22 (Go.Operand.tmp 57) (Go.Operand.tmp 51), type := 0, pos := "gc.go:117", after := #[{ on := 16, ground := Go.Ground.data }, { on := 10, ground := Go.Ground.data }, { on := 15, ground := Go.Ground.chain }, { on := 0, ground := Go.Ground.phase }, { on := 1, ground := Go.Ground.phase }, { on := 2, ground := Go.Ground.phase }, { on := 3, ground := Go.Ground.phase }, { on := 4, ground := Go.Ground.phase }, { on := 5, ground := Go.Ground.phase }, { on := 6, ground := Go.Ground.phase }, { on := 7, ground := Go.Ground.phase }, { on := 8, ground := Go.Ground.phase }, { on := 9, ground := Go.Ground.phase }, { on := 10, ground := Go.Ground.phase }, { on := 11, ground := Go.Ground.phase }, { on := 12, ground := Go.Ground.phase }, { on := 13, ground := Go.Ground.textOnly Go.Departure.lateStores }, { on := 14, ground := Go.Ground.textOnly Go.Departure.lateStores }, { on := 15, ground := Go.Ground.textOnly Go.Departure.lateStoresUnsure }], guard := none }) (by rfl) (fun K2 hK => ?_)
            have cHOx0 := HOx.out.c 0 _ rfl; have fHOx0 := HOx.out.f 0 (by simp); have cHOx1 := HOx.out.c 1 _ rfl; have fHOx1 := HOx.out.f 1 (by simp); have lHOx := HOx.out.lt
            go_simp
            clear cHOx0 fHOx0 cHOx1 fHOx1 lHOx
            replace HFx := Lib.hid (below_set (g := w.heap.size) (j := 0) (v := (.slice Ak2 (K.length + 1) ck2)) HFx.out (Nat.le_refl _))
            replace HOx : Hid (Box (wd1491015.setCell ⟨w.heap.size, 0, none⟩ (.slice Ak2 (K.length + 1) ck2)) w.heap.size [.slice Ak2 (K.length + 1) ck2, .slice Al9 L.length cl9]) := Lib.hid (HOx.out.set 0 _ (by simp))
            replace HWx := Lib.hid (HWx.out.set ⟨w.heap.size, 0, none⟩ (.slice Ak2 (K.length + 1) ck2) (Nat.lt_succ_self _))
            replace gx := (World.cell?_of_block (a := ⟨bk, ok + j, none⟩) (heap_setCell_other wd1491015 ⟨w.heap.size, 0, none⟩ bk (.slice Ak2 (K.length + 1) ck2) (by show bk ≠ w.heap.size; omega))).trans gx
            replace HCx := Lib.hid (HCx.out.other ⟨w.heap.size, 0, none⟩ (.slice Ak2 (K.length + 1) ck2) (by show w.heap.size ≠ bc; omega))
            refine hK.out _ _ ⟨⟨HCx.out.c 0 _ rfl, gx⟩, fun h => by simp at h⟩ ?_
            clear hK K2
            try simp only [Act.put, List.setIfInBounds_toArray, List.set_cons_zero, List.set_cons_succ]
            generalize wd1491015.setCell ⟨w.heap.size, 0, none⟩ (.slice Ak2 (K.length + 1) ck2) = wd149101517 at *
            (try clear wd1491015)
            refine stage_take (i := 18) (oi := { dst := some 58, op := Go.Op.fieldAddr 28 (Go.Operand.tmp 6) 1, type := 0, pos := "gc.go:117", after := #[{ on := 0, ground := Go.Ground.phase }, { on := 1, ground := Go.Ground.phase }, { on := 2, ground := Go.Ground.phase }, { on := 3, ground := Go.Ground.phase }, { on := 4, ground := Go.Ground.phase }, { on := 5, ground := Go.Ground.phase }, { on := 6, ground := Go.Ground.phase }, { on := 7, ground := Go.Ground.phase }, { on := 8, ground := Go.Ground.phase }, { on := 9, ground := Go.Ground.phase }, { on := 10, ground := Go.Ground.phase }, { on := 11, ground := Go.Ground.phase }, { on := 12, ground := Go.Ground.phase }, { on := 13, ground := Go.Ground.phase }, { on := 14, ground := Go.Ground.phase }, { on := 15, ground := Go.Ground.phase }, { on := 16, ground := Go.Ground.phase }, { on := 17, ground := Go.Ground.phase }], guard := none }) (v := ?_) (T := fun _ => True) rfl (by kernel_rfl) (by kernel_rfl) (by kernel_rfl) (by kernel_rfl) (fun _ _ _ h => h) (fun L' w' hW hS => trivial) (fun L' w' hS => ⟨hS.1, fun h => hS.2 (by rw [getD_set_ne false (by decide)]; exact h)⟩) (Or.inl ⟨by rfl, ?_⟩) trivial ⟨⟨HCx.out.c 0 _ rfl, gx⟩, fun h => by simp at h⟩ ?_
            rotate_left 1
            · intro w9 _; go_simp; (try with_reducible rfl)
            try simp only [Act.put, List.setIfInBounds_toArray, List.set_cons_zero, List.set_cons_succ]
            refine stage_all (rs := [19]) (by kernel_rfl) (by simp) (fun i hi => ?_)
            obtain rfl : i = 19 := by simpa using hi
            refine stage_step (S := fun (L' : Array Bool) (w' : World) => (w'.cell? ⟨bc, 0, none⟩ = some (.slice (some ⟨bk, ok, none⟩) ks.length ck) ∧ w'.cell? ⟨bk, ok + j, none⟩ = some (.string y)) ∧ (L'.getD 17 false = false → w'.cell? ⟨w.heap.size, 0, none⟩ = some (.slice Ak9 K.length ck9) ∧ w'.cell? ⟨w.heap.size, 1, none⟩ = some (.slice Al9 L.length cl9))) (o := { dst := none, op := Go.Op.store 26 (Go.Operand.tmp 58) (Go.Operand.tmp 56), type := 0, pos := "gc.go:117", after := #[{ on := 18, ground := Go.Ground.data }, { on := 15, ground := Go.Ground.data }, { on := 17, ground := Go.Ground.chain }, { on := 0, ground := Go.Ground.phase }, { on := 1, ground := Go.Ground.phase }, { on := 2, ground := Go.Ground.phase }, { on := 3, ground := Go.Ground.phase }, { on := 4, ground := Go.Ground.phase }, { on := 5, ground := Go.Ground.phase }, { on := 6, ground := Go.Ground.phase }, { on := 7, ground := Go.Ground.phase }, { on := 8, ground := Go.Ground.phase }, { on := 9, ground := Go.Ground.phase }, { on := 10, ground := Go.Ground.phase }, { on := 11, ground := Go.Ground.phase }, { on := 12, ground := Go.Ground.phase }, { on := 13, ground := Go.Ground.phase }, { on := 14, ground := Go.Ground.phase }, { on := 15, ground := Go.Ground.phase }, { on := 16, ground := Go.Ground.phase }, { on := 17, ground := Go.Ground.phase }], guard := none }) (by rfl) (fun K2 hK => ?_)
            have cHOx0 := HOx.out.c 0 _ rfl; have fHOx0 := HOx.out.f 0 (by simp); have cHOx1 := HOx.out.c 1 _ rfl; have fHOx1 := HOx.out.f 1 (by simp); have lHOx := HOx.out.lt
            go_simp
            clear cHOx0 fHOx0 cHOx1 fHOx1 lHOx
            replace HFx := Lib.hid (below_set (g := w.heap.size) (j := 1) (v := (.slice Al2 (L.length + 1) cl2)) HFx.out (Nat.le_refl _))
            replace HOx : Hid (Box (wd149101517.setCell ⟨w.heap.size, 1, none⟩ (.slice Al2 (L.length + 1) cl2)) w.heap.size [.slice Ak2 (K.length + 1) ck2, .slice Al2 (L.length + 1) cl2]) := Lib.hid (HOx.out.set 1 _ (by simp))
            replace HWx := Lib.hid (HWx.out.set ⟨w.heap.size, 1, none⟩ (.slice Al2 (L.length + 1) cl2) (Nat.lt_succ_self _))
            replace gx := (World.cell?_of_block (a := ⟨bk, ok + j, none⟩) (heap_setCell_other wd149101517 ⟨w.heap.size, 1, none⟩ bk (.slice Al2 (L.length + 1) cl2) (by show bk ≠ w.heap.size; omega))).trans gx
            replace HCx := Lib.hid (HCx.out.other ⟨w.heap.size, 1, none⟩ (.slice Al2 (L.length + 1) cl2) (by show w.heap.size ≠ bc; omega))
            refine hK.out _ _ ⟨⟨HCx.out.c 0 _ rfl, gx⟩, fun h => by simp at h⟩ ?_
            clear hK K2
            try simp only [Act.put, List.setIfInBounds_toArray, List.set_cons_zero, List.set_cons_succ]
            generalize wd149101517.setCell ⟨w.heap.size, 1, none⟩ (.slice Al2 (L.length + 1) cl2) = wd14910151719 at *
            (try clear wd149101517)
            refine stage_done (by kernel_rfl) ?_ _
            trace "TAIL"
            go_wp2_with fail
            go_roundw
            case rel => exact ⟨j + 1, by omega, by go_num, by rw [GS.out], ES, HFx, _, _, _, HOx, by rw [KS2.out, LS2.out]; exact HWx⟩
            case measure => simp [Lib.intOf]; omega
      · have EE := Lib.hid (EA.out he0)
        have he1 : (er == 0) = false := by simpa using he0
        go_wp2_with fail
        go_ret2
        exact .inl ⟨by rw [EE.out]; exact he0, by rw [EE.out]; rfl, HF3.out⟩
    · obtain rfl : j = ls.length := by omega
      have hzt : (ks.zip ls).take ls.length = ks.zip ls := List.take_of_length_le (by rw [List.length_zip]; omega)
      rw [List.take_length] at HE
      rw [hzt] at HW
      rw [List.take_length]
      have BCr := Lib.hid (BC.out.step HF.out)
      have hne : bc ≠ w.heap.size := by omega
      have hne2 : w.heap.size ≠ bc := by omega
      clear hzt
      generalize hK : (ks.zip ls).flatMap (keyT T) = K at *
      generalize hL : (ks.zip ls).flatMap (lstT T) = L at *
      have HKK := Lib.hid hK
      have HLL := Lib.hid hL
      clear hK hL
      obtain ⟨Ak9, ck9, rfl, _, _⟩ := own_slice HW.out.ok
      obtain ⟨Al9, cl9, rfl, _, _⟩ := own_slice HW.out.ol
      have cHO0 := HO.out.c 0 _ rfl; have fHO0 := HO.out.f 0 (by simp); have cHO1 := HO.out.c 1 _ rfl; have fHO1 := HO.out.f 1 (by simp); have lHO := HO.out.lt; have cBCr0 := BCr.out.c 0 _ rfl; have fBCr0 := BCr.out.f 0 (by simp); have cBCr1 := BCr.out.c 1 _ rfl; have fBCr1 := BCr.out.f 1 (by simp); have lBCr := BCr.out.lt
      go_wp2_with fail
      go_ret2
      refine .inr ⟨HE.out, rfl, _, _, vs, (BCr.out.set 0 _ (by simp)).set 1 _ (by simp), by rw [HKK.out, HLL.out]; exact ((HW.out.rebase (Nat.le_succ _)).set ⟨bc, 0, none⟩ _ hbc).set ⟨bc, 1, none⟩ _ hbc, ?_⟩
      exact ((Kept.of_below (B := fun b => b = bc) HF.out (Nat.le_refl _)).set ⟨bc, 0, none⟩ _ (.inr rfl)).set ⟨bc, 1, none⟩ _ (.inr rfl)
end Go.Proofs.Ytpkacnoimdjckaa
