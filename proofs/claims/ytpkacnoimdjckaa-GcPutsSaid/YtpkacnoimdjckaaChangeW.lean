/- Package gc: change. -/
import Derived.Test.YtpkacnoimdjckaaEachW
import Derived.Test.YtpkacnoimdjckaaCb
import Derived.Test.YtpkacnoimdjckaaRangeW
namespace Go.Proofs.Ytpkacnoimdjckaa
open Go.RowKit
open Go.Shelf
set_option linter.unusedVariables false
set_option linter.unusedSimpArgs false
def chgR (T : List Ver → List Ver × Int) (ks : List ByteArray) (ls : List (List Ver)) : List ByteArray × List (List Ver) × Int × Int :=
  if chkC ks ls ≠ 0 then ([], [], 0, chkC ks ls) else if errZ T ls ≠ 0 then ([], [], 0, errZ T ls) else ((ks.zip ls).flatMap (keyT T), (ks.zip ls).flatMap (lstT T), goneT T ls, 0)
set_option maxHeartbeats 4000000 in
set_option maxRecDepth 100000 in
theorem change_any (AK AL : Option Addr) (ck cl : Nat) (ks : List ByteArray) (ls : List (List Ver)) (fn : FuncId) (first cap : Array Value) (T : List Ver → List Ver × Int) (w : World)
    (HK : RowE encS 1 w AK ks) (HL : RowL w AL ls) (hk : ks.length ≤ 140737488355328) (hl : ls.length ≤ 140737488355328) (hT : ∀ l, chk l = 0 → (T l).1.length ≤ 1000)
    (eg : ∀ args w, (callFunc fn args).run Try.prog w = .ok (.enter fn args) w)
    (hC : ∀ (W : World) (A : Option Addr) (c : Nat) (l : List Ver), l ≠ [] → chk l = 0 → Below w.heap.size w W → RowE encVer 4 W A l → (A = none → c = 0) → l.length ≤ c → Calls Try.prog fn (first.push (.slice A l.length c) ++ cap) W fun e w' => ∃ v, e = .returned (.tuple #[v, .int .i64 (T l).2]) ∧ SlB encVer 4 W.heap.size w' v (T l).1 ∧ Below W.heap.size W w') :
    Calls Try.prog 36 #[.agg #[.slice AK ks.length ck, .slice AL ls.length cl], .func (.func fn) first cap] w fun e w' =>
      ∃ v, e = .returned (.tuple #[v, .int .i64 (chgR T ks ls).2.2.1, .int .i64 (chgR T ks ls).2.2.2]) ∧ ChB w.heap.size w' v (chgR T ks ls).1 (chgR T ks ls).2.1 ∧ Below w.heap.size w w' := by
  have h0 : Below w.heap.size w ((w.alloc (.cells #[.slice AK ks.length ck, .slice AL ls.length cl] 28)).alloc (.cells #[.slice none 0 0, .slice none 0 0] 28)) := (by (repeat (first | (with_reducible exact Below.refl _ _) | apply below_alloc _ (Nat.le_refl _) | refine below_set ?_ (by first | exact Nat.le_refl _ | omega) | apply below_drewN | refine below_step ?_ HB)))
  have BC := Lib.hid ((Box.new w #[.slice AK ks.length ck, .slice AL ls.length cl] 28).alloc (.cells #[.slice none 0 0, .slice none 0 0] 28))
  have BR := Lib.hid (Box.new (w.alloc (.cells #[.slice AK ks.length ck, .slice AL ls.length cl] 28)) #[.slice none 0 0, .slice none 0 0] 28)
  have RK := Lib.hid (HK.below h0)
  have RL := Lib.hid (HL.below h0)
  have HF := Lib.hid h0
  have hck := gcheck_any AK AL ck cl ks ls _ RK.out RL.out hk hl
  have E1 : Hid (chkC ks ls ≠ 0 → chgR T ks ls = ([], [], 0, chkC ks ls)) := Lib.hid (fun h => by unfold chgR; rw [if_pos h])
  have E2 : Hid (chkC ks ls = 0 → errZ T ls ≠ 0 → chgR T ks ls = ([], [], 0, errZ T ls)) := Lib.hid (fun h g => by unfold chgR; rw [if_neg (by simp [h]), if_pos g])
  have E3 : Hid (chkC ks ls = 0 → errZ T ls = 0 → chgR T ks ls = ((ks.zip ls).flatMap (keyT T), (ks.zip ls).flatMap (lstT T), goneT T ls, 0)) := Lib.hid (fun h g => by unfold chgR; rw [if_neg (by simp [h]), if_neg (by simp [g])])
  have CK := Lib.hid (fun h => chkC_ok (ks := ks) (ls := ls) h)
  have HC := Lib.hid hC
  have HT := Lib.hid hT
  have hz : (w.alloc (.cells #[.slice AK ks.length ck, .slice AL ls.length cl] 28)).heap.size = w.heap.size + 1 := by simp
  rw [hz] at BR
  clear HK HL h0 hC hT hz
  generalize chkC ks ls = kc at *
  generalize chgR T ks ls = g at *
  go_enter Try.func36, Try.ntmps36
  go_wp2_with fail
  generalize (w.alloc (.cells #[.slice AK ks.length ck, .slice AL ls.length cl] 28)).alloc (.cells #[.slice none 0 0, .slice none 0 0] 28) = w0 at *
  refine hck.mono ?_; rintro e w1 ⟨rfl, h1⟩
  replace BC := Lib.hid (BC.out.below h1 BC.out.lt); replace BR := Lib.hid (BR.out.below h1 BR.out.lt); replace RK := Lib.hid (RK.out.below h1); replace RL := Lib.hid (RL.out.below h1); replace HF := Lib.hid (below_step' HF.out h1)
  clear hck h1
  by_cases k0 : kc = 0
  · subst k0
    obtain ⟨hlen, hle, hri, hls⟩ := CK.out (by trivial)
    have hea := each_any w.heap.size AK AL ck cl ks ls fn first cap T w1 BC.out RK.out RL.out hlen (by omega) (fun l hl => ⟨HT.out l (hls l hl).2, (chk_len (hls l hl).2)⟩) eg (fun W A c l hl hb => HC.out W A c l (hls l hl).1 (hls l hl).2 (below_step' HF.out hb))
    clear CK hlen hle hri hls HC HT RK RL
    have cBC0 := BC.out.c 0 _ rfl; have fBC0 := BC.out.f 0 (by simp); have cBC1 := BC.out.c 1 _ rfl; have fBC1 := BC.out.f 1 (by simp); have lBC := BC.out.lt; have cBR0 := BR.out.c 0 _ rfl; have fBR0 := BR.out.f 0 (by simp); have cBR1 := BR.out.c 1 _ rfl; have fBR1 := BR.out.f 1 (by simp); have lBR := BR.out.lt
    go_wp2_with fail
    clear cBC0 fBC0 cBC1 fBC1 lBC; clear cBR0 fBR0 cBR1 fBR1 lBR
    refine hea.mono ?_
    rintro e w2 (⟨he, rfl, h2⟩ | ⟨he, rfl, vk, vl, vs, hbx, hown, hkp⟩)
    · have EE := Lib.hid (E2.out (by trivial) he)
      have he1 : (errZ T ls == 0) = false := by simpa using he
      replace BC := Lib.hid (BC.out.below h2 BC.out.lt); replace BR := Lib.hid (BR.out.below h2 BR.out.lt); replace HF := Lib.hid (below_step' HF.out h2)
      clear hea h2 E1 E2 E3 he
      generalize errZ T ls = er at *
      have cBC0 := BC.out.c 0 _ rfl; have fBC0 := BC.out.f 0 (by simp); have cBC1 := BC.out.c 1 _ rfl; have fBC1 := BC.out.f 1 (by simp); have lBC := BC.out.lt; have cBR0 := BR.out.c 0 _ rfl; have fBR0 := BR.out.f 0 (by simp); have cBR1 := BR.out.c 1 _ rfl; have fBR1 := BR.out.f 1 (by simp); have lBR := BR.out.lt
      go_wp2_with fail
      clear cBC0 fBC0 cBC1 fBC1 lBC; clear cBR0 fBR0 cBR1 fBR1 lBR
      have HX := Lib.hid (below_set (g := w.heap.size + 1) (j := 1) (v := .slice none 0 0) (below_set (g := w.heap.size + 1) (j := 0) (v := .slice none 0 0) HF.out (Nat.le_succ _)) (Nat.le_succ _))
      have BX : Hid (Box ((w2.setCell ⟨w.heap.size + 1, 0, none⟩ (.slice none 0 0)).setCell ⟨w.heap.size + 1, 1, none⟩ (.slice none 0 0)) (w.heap.size + 1) [.slice none 0 0, .slice none 0 0]) := Lib.hid ((BR.out.set 0 (.slice none 0 0) (by simp)).set 1 (.slice none 0 0) (by simp))
      have HV : Hid (ChB w.heap.size ((w2.setCell ⟨w.heap.size + 1, 0, none⟩ (.slice none 0 0)).setCell ⟨w.heap.size + 1, 1, none⟩ (.slice none 0 0)) (.agg #[.slice none 0 0, .slice none 0 0]) g.1 g.2.1) := Lib.hid (by rw [EE.out]; exact ChB.nil _ _)
      generalize (w2.setCell ⟨w.heap.size + 1, 0, none⟩ (.slice none 0 0)).setCell ⟨w.heap.size + 1, 1, none⟩ (.slice none 0 0) = wz at *
      have cBX0 := BX.out.c 0 _ rfl; have fBX0 := BX.out.f 0 (by simp); have cBX1 := BX.out.c 1 _ rfl; have fBX1 := BX.out.f 1 (by simp); have lBX := BX.out.lt
      refine bodyPost_ret (v := .tuple #[.agg #[.slice none 0 0, .slice none 0 0], .int .i64 0, .int .i64 er]) (by simp [results, Try.results36, go_sem, cBX0, cBX1]) rfl ?_
      refine ⟨_, ?_, HV.out, HX.out⟩
      rw [EE.out]
    · have EE := Lib.hid (E3.out (by trivial) he)
      have BR2 := Lib.hid (BR.out.kept hkp BR.out.lt (by omega))
      have BC2 := Lib.hid hbx
      have HF2 : Hid (Below w.heap.size w w2) := Lib.hid (HF.out.trans (hkp.to_below HF.out.size (fun b hb => by omega)))
      have OW := Lib.hid (hown.rebase (b' := w.heap.size + 2) (by have := BR.out.lt; omega))
      clear hea E1 E2 E3 he hbx hown hkp BC BR HF
      generalize goneT T ls = gn at *
      generalize (ks.zip ls).flatMap (keyT T) = K at *
      generalize (ks.zip ls).flatMap (lstT T) = L at *
      obtain ⟨Ak9, ck9, rfl, _, _⟩ := own_slice OW.out.ok
      obtain ⟨Al9, cl9, rfl, _, _⟩ := own_slice OW.out.ol
      have cBC20 := BC2.out.c 0 _ rfl; have fBC20 := BC2.out.f 0 (by simp); have cBC21 := BC2.out.c 1 _ rfl; have fBC21 := BC2.out.f 1 (by simp); have lBC2 := BC2.out.lt; have cBR20 := BR2.out.c 0 _ rfl; have fBR20 := BR2.out.f 0 (by simp); have cBR21 := BR2.out.c 1 _ rfl; have fBR21 := BR2.out.f 1 (by simp); have lBR2 := BR2.out.lt
      go_wp2_with fail
      clear cBC20 fBC20 cBC21 fBC21 lBC2; clear cBR20 fBR20 cBR21 fBR21 lBR2
      have HX := Lib.hid (below_set (g := w.heap.size + 1) (j := 1) (v := .slice Al9 L.length cl9) (below_set (g := w.heap.size + 1) (j := 0) (v := .slice Ak9 K.length ck9) HF2.out (Nat.le_succ _)) (Nat.le_succ _))
      have BX : Hid (Box ((w2.setCell ⟨w.heap.size + 1, 0, none⟩ (.slice Ak9 K.length ck9)).setCell ⟨w.heap.size + 1, 1, none⟩ (.slice Al9 L.length cl9)) (w.heap.size + 1) [.slice Ak9 K.length ck9, .slice Al9 L.length cl9]) := Lib.hid ((BR2.out.set 0 (.slice Ak9 K.length ck9) (by simp)).set 1 (.slice Al9 L.length cl9) (by simp))
      have HV : Hid (ChB w.heap.size ((w2.setCell ⟨w.heap.size + 1, 0, none⟩ (.slice Ak9 K.length ck9)).setCell ⟨w.heap.size + 1, 1, none⟩ (.slice Al9 L.length cl9)) (.agg #[.slice Ak9 K.length ck9, .slice Al9 L.length cl9]) g.1 g.2.1) := Lib.hid (by rw [EE.out]; exact (((OW.out.set ⟨w.heap.size + 1, 0, none⟩ _ (by simp)).set ⟨w.heap.size + 1, 1, none⟩ _ (by simp)).chb).mono (by omega))
      generalize (w2.setCell ⟨w.heap.size + 1, 0, none⟩ (.slice Ak9 K.length ck9)).setCell ⟨w.heap.size + 1, 1, none⟩ (.slice Al9 L.length cl9) = wz at *
      have cBX0 := BX.out.c 0 _ rfl; have fBX0 := BX.out.f 0 (by simp); have cBX1 := BX.out.c 1 _ rfl; have fBX1 := BX.out.f 1 (by simp); have lBX := BX.out.lt
      refine bodyPost_ret (v := .tuple #[.agg #[.slice Ak9 K.length ck9, .slice Al9 L.length cl9], .int .i64 gn, .int .i64 0]) (by simp [results, Try.results36, go_sem, cBX0, cBX1]) rfl ?_
      refine ⟨_, ?_, HV.out, HX.out⟩
      rw [EE.out]
  · have EE := Lib.hid (E1.out k0)
    have he1 : (kc == 0) = false := by simpa using k0
    clear E1 E2 E3 CK HC HT
    have cBC0 := BC.out.c 0 _ rfl; have fBC0 := BC.out.f 0 (by simp); have cBC1 := BC.out.c 1 _ rfl; have fBC1 := BC.out.f 1 (by simp); have lBC := BC.out.lt; have cBR0 := BR.out.c 0 _ rfl; have fBR0 := BR.out.f 0 (by simp); have cBR1 := BR.out.c 1 _ rfl; have fBR1 := BR.out.f 1 (by simp); have lBR := BR.out.lt
    go_wp2_with fail
    clear cBC0 fBC0 cBC1 fBC1 lBC; clear cBR0 fBR0 cBR1 fBR1 lBR
    have HX := Lib.hid (below_set (g := w.heap.size + 1) (j := 1) (v := .slice none 0 0) (below_set (g := w.heap.size + 1) (j := 0) (v := .slice none 0 0) HF.out (Nat.le_succ _)) (Nat.le_succ _))
    have BX : Hid (Box ((w1.setCell ⟨w.heap.size + 1, 0, none⟩ (.slice none 0 0)).setCell ⟨w.heap.size + 1, 1, none⟩ (.slice none 0 0)) (w.heap.size + 1) [.slice none 0 0, .slice none 0 0]) := Lib.hid ((BR.out.set 0 (.slice none 0 0) (by simp)).set 1 (.slice none 0 0) (by simp))
    have HV : Hid (ChB w.heap.size ((w1.setCell ⟨w.heap.size + 1, 0, none⟩ (.slice none 0 0)).setCell ⟨w.heap.size + 1, 1, none⟩ (.slice none 0 0)) (.agg #[.slice none 0 0, .slice none 0 0]) g.1 g.2.1) := Lib.hid (by rw [EE.out]; exact ChB.nil _ _)
    generalize (w1.setCell ⟨w.heap.size + 1, 0, none⟩ (.slice none 0 0)).setCell ⟨w.heap.size + 1, 1, none⟩ (.slice none 0 0) = wz at *
    have cBX0 := BX.out.c 0 _ rfl; have fBX0 := BX.out.f 0 (by simp); have cBX1 := BX.out.c 1 _ rfl; have fBX1 := BX.out.f 1 (by simp); have lBX := BX.out.lt
    refine bodyPost_ret (v := .tuple #[.agg #[.slice none 0 0, .slice none 0 0], .int .i64 0, .int .i64 kc]) (by simp [results, Try.results36, go_sem, cBX0, cBX1]) rfl ?_
    refine ⟨_, ?_, HV.out, HX.out⟩
    rw [EE.out]
end Go.Proofs.Ytpkacnoimdjckaa
