/- Package lock: Drop. -/
import Derived.Test.YtdiclnkkddnncaaAddW
namespace Go.Proofs.Ytdiclnkkddnncaa
open Go.RowKit
open Go.Shelf
set_option linter.unusedVariables false
set_option linter.unusedSimpArgs false
def dropL (l : List Lk) (t : Int) : List Lk × Int := if chkL l ≠ 0 then ([], chkL l) else (l.filter (fun y => !(y.tx == t)), 0)
set_option maxHeartbeats 4000000 in
set_option maxRecDepth 100000 in
theorem drop_any (A : Option Addr) (c : Nat) (l : List Lk) (t : Int) (w : World) (HR : RowE encL 3 w A l) (hn : A = none → c = 0) (hl : l.length ≤ 140737488355328) :
    Calls Try.prog 17 #[.agg #[.slice A l.length c], .int .i64 t] w fun e w' => ∃ v, e = .returned (.tuple #[.agg #[v], .int .i64 (dropL l t).2]) ∧ SlB encL 3 w.heap.size w' v (dropL l t).1 ∧ Below w.heap.size w w' := by
  have e2 : ∀ args w, (callFunc 36 args).run Try.prog w = .ok (.enter 36 args) w := enters_of Try.func36 (by kernel_rfl) rfl
  have B2 := ((Box1.new w (.slice A l.length c) 30).alloc (.cells #[.int .i64 t] 3)).alloc (.cells #[.slice none 0 0] 30)
  have B3 := (Box1.new (w.alloc (.cells #[.slice A l.length c] 30)) (.int .i64 t) 3).alloc (.cells #[.slice none 0 0] 30)
  have B4 := Box1.new ((w.alloc (.cells #[.slice A l.length c] 30)).alloc (.cells #[.int .i64 t] 3)) (.slice none 0 0) 30
  have ba : Below w.heap.size w (((w.alloc (.cells #[.slice A l.length c] 30)).alloc (.cells #[.int .i64 t] 3)).alloc (.cells #[.slice none 0 0] 30)) := (by (repeat (first | (with_reducible exact Below.refl _ _) | apply below_alloc _ (Nat.le_refl _) | refine below_set ?_ (by first | exact Nat.le_refl _ | omega) | apply below_drewN | refine below_step ?_ HB)))
  have hck := lcheck_any A c l _ (HR.below ba) hl
  have HR0 := Lib.hid (HR.below ba)
  have E1 : Hid (chkL l ≠ 0 → dropL l t = ([], chkL l)) := Lib.hid (fun h => by unfold dropL; rw [if_pos h])
  have E2 : Hid (chkL l = 0 → dropL l t = (l.filter (fun y => !(y.tx == t)), 0)) := Lib.hid (fun h => by unfold dropL; rw [if_neg (by simp [h])])
  have CK := Lib.hid (fun h => ((chkL_iff l).1 h).1)
  have hsz : w.heap.size + 3 ≤ (((w.alloc (.cells #[.slice A l.length c] 30)).alloc (.cells #[.int .i64 t] 3)).alloc (.cells #[.slice none 0 0] 30)).heap.size := by simp
  simp only [World.size_alloc] at B3 B4
  clear HR
  generalize hkk : chkL l = k at *
  clear hkk
  go_enter Try.func17, Try.ntmps17
  go_wp2_with fail
  generalize ((w.alloc (.cells #[.slice A l.length c] 30)).alloc (.cells #[.int .i64 t] 3)).alloc (.cells #[.slice none 0 0] 30) = w0 at *
  refine hck.mono ?_; rintro e w1 ⟨rfl, h1⟩
  have HB2 := B2.step h1
  have HB3 := Lib.hid (B3.step h1)
  have HB4 := B4.step h1
  have HF := ba.trans (h1.mono (by omega))
  have HR1 := Lib.hid (HR0.out.below h1)
  have z1 := h1.size
  clear h1 hck B2 B3 B4 ba HR0
  by_cases k0 : k = 0
  · subst k0
    have hlen := CK.out (by trivial)
    have EE := Lib.hid (E2.out (by trivial))
    clear E1 E2 CK
    have hcl := lclone_own A c l w1 HR1.out hn (by omega)
    have HB4' := Lib.hid HB4
    obtain ⟨c20, f20, l2⟩ := HB2
    go_wp2_with fail
    refine hcl.mono ?_; rintro e w3 ⟨v3, rfl, hown, h3⟩
    obtain ⟨Av, cv, rfl, hcv, hnv⟩ := own_slice hown
    have D3 := HB3.out.step h3
    have D4 := Lib.hid (HB4'.out.step h3)
    have hF3 := HF.trans (h3.mono (by omega))
    have z3 := h3.size
    have hgb : ∀ b, Av = some ⟨b, 0, none⟩ → w1.heap.size ≤ b ∧ b < w3.heap.size := fun b h => by subst h; exact hown.lt b rfl
    have hdel := delete_own Av cv w1.heap.size l 36 #[] #[.pointer (some ⟨w.heap.size + 1, 0, none⟩)] (fun _ => False) w3.heap.size (fun y => y.tx == t) (fun _ => [(w.heap.size + 1, 0, .int .i64 t)]) (fun a _ => a) ⟨0, ⟨#[]⟩, ⟨#[]⟩⟩ w3 e2 (clo_drop t _ _) hown (by omega) (fun b hb => by
      have hb2 := hgb b hb
      refine ⟨by omega, fun h => h, fun acc q hq => ?_⟩
      simp only [List.mem_cons, List.not_mem_nil, or_false] at hq
      subst hq
      dsimp only
      omega) ⟨Nat.le_refl _, fun q hq => by
        simp only [List.mem_cons, List.not_mem_nil, or_false] at hq
        subst hq
        exact ⟨by dsimp only; omega, D3.c0, D3.f0⟩⟩ (by omega)
    clear c20 f20 l2 hcl hown h3 HB3 HB4' HF
    go_wp2_with fail
    refine hdel.mono ?_; rintro e w4 ⟨A4, rfl, h4, hown4, _⟩
    have G4 := D4.out.kept h4 (by omega) (fun h => h)
    have hF4 := hF3.trans (h4.to_below (by omega) (fun k h => h.elim))
    have HO := Lib.hid hown4
    clear hdel h4 hown4 D4 D3 hF3
    obtain ⟨c40, f40, l4⟩ := G4
    go_wp2
    refine bodyPost_ret (v := .tuple #[.agg #[.slice A4 (l.filter (fun y => !(y.tx == t))).length cv], .int .i64 0]) (by simp [results, Try.results17, go_sem, c40, l4]) rfl ?_
    rw [EE.out]
    exact ⟨_, rfl, SlB.ownL (base := w1.heap.size) (n := (l.filter (fun y => !(y.tx == t))).length) (by omega) (own_set HO.out _ _ (by simp; omega)), Below.setCell hF4 (by simp; omega) _⟩
  · have EE := Lib.hid (E1.out k0)
    clear E1 E2 CK
    obtain ⟨c40, f40, l4⟩ := HB4
    go_wp2
    refine bodyPost_ret (v := .tuple #[.agg #[.slice none 0 0], .int .i64 k]) (by simp [results, Try.results17, go_sem, c40, l4]) rfl ?_
    rw [EE.out]
    exact ⟨_, rfl, SlB.nil _, Below.setCell HF (by simp; omega) _⟩
end Go.Proofs.Ytdiclnkkddnncaa
