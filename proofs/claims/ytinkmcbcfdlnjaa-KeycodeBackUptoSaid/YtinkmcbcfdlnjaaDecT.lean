/- Package keycode: a text is read. -/
import Derived.Test.YtinkmcbcfdlnjaaDecN
namespace Go.Proofs.Ytinkmcbcfdlnjaa
open Go.RowKit
set_option linter.unusedVariables false
set_option linter.unusedSimpArgs false
theorem BldV.other {b : Nat} {v : Value} {bs : List Value} {w : World} (h : BldV b v bs w) (a : Addr) (u : Value) (ha : a.block < b) : BldV b v bs (w.setCell a u) := by
  have hl := h.own_lt
  obtain ⟨p, hp, hb, ho, hn⟩ := h
  refine ⟨p, hp, (Below.heap_setCell _ _ _ _ (by omega)).trans hb, ?_, hn⟩
  exact ho.kept (row := some a.block) ⟨rfl, rfl, rfl, by simp [World.setCell], fun k _ hk => Below.heap_setCell _ _ _ _ (fun e => hk (by simp [e]))⟩ (Or.inr (fun e => by have := (hl _ e).1; omega))
set_option maxRecDepth 100000 in
theorem len_any (b : Nat) (v : Value) (l : List UInt8) (w : World) (h : BldV b v (Lib.byteCells l) w) :
    Calls Try.prog 37 #[.pointer (some ⟨b, 0, none⟩)] w fun e w' => e = .returned (.int .i64 l.length) ∧ w = w' := by
  obtain ⟨p, hp, hb, ho, hn⟩ := h
  have c1 : w.cell? ⟨b, 1, none⟩ = some v := by rw [Lib.cell_of_heap hb]; rfl
  have hlen : (Lib.byteCells l).length = l.length := Lib.byteCells_length l
  obtain ⟨A, cap, rfl⟩ : ∃ A cap, v = .slice A l.length cap := by
    rcases ho.2 with ⟨h1, h0⟩ | ⟨g, cap, cur, hv, _⟩
    · rw [hlen] at h0
      exact ⟨none, 0, by rw [h1, h0]⟩
    · exact ⟨some ⟨g, 0, none⟩, cap, by rw [hv, hlen]⟩
  go_enter Try.func37, Try.ntmps37
  go_wp2
  go_ret
  exact ⟨rfl, rfl⟩
def textE : Except Int (List UInt8 × List UInt8) → Except Int (Value × List UInt8)
  | .error e => .error e
  | .ok (t, r) => .ok (.string (tx t), r)
def textV (s : List UInt8) : Except Int (Value × List UInt8) :=
  textE (textD s [])
def restOf (b : Nat) (w : World) : Nat := match w.cell? ⟨b, 0, none⟩ with | some (.string t) => t.size | _ => 0
theorem restOf_box {b : Nat} {w : World} {s : List UInt8} (h : Box w b [.string (tx s)]) : restOf b w = s.length := by
  unfold restOf
  rw [h.c 0 _ rfl]; rfl
set_option maxHeartbeats 2000000 in
set_option maxRecDepth 100000 in
theorem readText_any (b : Nat) (s : List UInt8) (w : World) (HB : Box w b [.string (tx s)]) (hlen : s.length ≤ 70368744177664) :
    Calls Try.prog 31 #[.pointer (some ⟨b, 0, none⟩)] w fun r w' => After b w w' r (textV s) := by
  have hbl := HB.lt
  generalize hD : textD s [] = D
  have HV : Hid (textV s = textE D) := Lib.hid (by unfold textV; rw [hD])
  go_enter Try.func31, Try.ntmps31
  go_wp2_with fail
  go_loopw [4, 5] (fun c d wr => ∃ (r acc : List UInt8) (vr : Value), BldV w.heap.size vr (Lib.byteCells acc) wr ∧ Box wr b [.string (tx r)] ∧ Kept w.heap.size (fun k => k = b) w wr ∧ Hid (textD r acc = D) ∧ acc.length + r.length ≤ s.length) (fun c d wr => restOf b wr)
  case atStart => exact ⟨s, [], .slice none 0 0, BldV.fresh w, HB.alloc _, (Kept.refl _ _ _).alloc (Nat.le_refl _) _, Lib.hid hD, by simp⟩
  case round =>
    obtain ⟨r, acc, vr, HL, HR, HK, HT, hle⟩ := hrel
    have hNR : b < wr.heap.size := HR.lt
    have hm := restOf_box HR
    cases r with
    | nil =>
      have c0 := HR.c 0 _ rfl
      have e : D = .error 8 := HT.out.symm
      go_wp2_with (go_at_call 29; (with_reducible refine (octet_nil _ _ c0).mono ?_); rintro e w' ⟨rfl, rfl⟩)
      exact ⟨rfl, HK, by rw [HV.out, e]; rfl⟩
    | cons c r =>
      have c0 := HR.c 0 _ rfl
      have f0 := HR.f 0 (by simp)
      have hne := HL.own_lt
      have HL1 := HL.other ⟨b, 0, none⟩ (.string (tx r)) hbl
      have HR1 := HR.set 0 (.string (tx r)) (by simp)
      have HK1 := HK.set ⟨b, 0, none⟩ (.string (tx r)) (.inr rfl)
      simp only [List.set_cons_zero] at HR1
      have hT := HT.out
      unfold textD at hT
      have hacc : (Lib.byteCells acc).length + 1 ≤ 140737488355328 := by rw [Lib.byteCells_length]; simp at hle; omega
      clear HL HR HK hne HT
      by_cases q0 : c = 0
      · subst q0
        rw [if_pos rfl] at hT
        have HT := Lib.hid hT
        clear hT
        by_cases q64 : acc.length ≤ 64
        · have q64' : (acc.length : Int) ≤ 64 := by omega
          go_wp2_with (first | (go_at_call 29; (with_reducible refine (octet_cons _ _ _ _ c0 f0).mono ?_); rintro e w' ⟨rfl, rfl⟩) | (go_at_call 37; (with_reducible refine (len_any _ _ _ _ HL1).mono ?_); rintro e w' ⟨rfl, rfl⟩) | (go_at_call 24; (with_reducible refine (need_true _ _).mono ?_); rintro e w' ⟨rfl, rfl⟩) | (go_at_call 19; (with_reducible refine (string_any _ _ _ _ HL1).mono ?_); rintro e w' ⟨rfl, hbb⟩))
          go_ret
          refine ⟨HK1.trans (Kept.of_below hbb (Nat.le_refl _)), ?_⟩
          rw [HV.out, ← HT.out, if_pos q64]
          exact ⟨rfl, HR1.below hbb hbl⟩
        · have q64' : decide ((acc.length : Int) ≤ 64) = false := decide_eq_false (by omega)
          go_wp2_with (first | (go_at_call 29; (with_reducible refine (octet_cons _ _ _ _ c0 f0).mono ?_); rintro e w' ⟨rfl, rfl⟩) | (go_at_call 37; (with_reducible refine (len_any _ _ _ _ HL1).mono ?_); rintro e w' ⟨rfl, rfl⟩) | (go_at_call 24; (with_reducible refine (need_false _ _).mono ?_); rintro e w' ⟨rfl, rfl⟩))
          refine ⟨rfl, HK1, ?_⟩
          rw [HV.out, ← HT.out, if_neg q64]
          exact rfl
      · rw [if_neg q0] at hT
        by_cases q1 : c = 1
        · subst q1
          rw [if_pos rfl] at hT
          cases r with
          | nil =>
            have HT := Lib.hid hT
            clear hT
            go_wp2_with (first | (go_at_call 29; (with_reducible refine (octet_cons _ _ _ _ c0 f0).mono ?_); rintro e w' ⟨rfl, rfl⟩) | (go_at_call 29; (with_reducible refine (octet_nil _ _ (HR1.c 0 _ rfl)).mono ?_); rintro e w' ⟨rfl, rfl⟩))
            refine ⟨rfl, HK1, ?_⟩
            rw [HV.out, ← HT.out]
            exact rfl
          | cons d r =>
            have c1 := HR1.c 0 _ rfl
            have f1 := HR1.f 0 (by simp)
            have HL2 := HL1.other ⟨b, 0, none⟩ (.string (tx r)) hbl
            have HR2 := HR1.set 0 (.string (tx r)) (by simp)
            have HK2 := HK1.set ⟨b, 0, none⟩ (.string (tx r)) (.inr rfl)
            simp only [List.set_cons_zero] at HR2
            clear HL1 HR1 HK1
            by_cases qd : d = 1 ∨ d = 2
            · dsimp only at hT
              rw [if_pos qd] at hT
              have HT := Lib.hid hT
              clear hT
              have hb2 : (wr.setCell ⟨b, 0, none⟩ (.string (tx (d :: r)))).setCell ⟨b, 0, none⟩ (.string (tx r)) = (wr.setCell ⟨b, 0, none⟩ (.string (tx (d :: r)))).setCell ⟨b, 0, none⟩ (.string (tx r)) := rfl
              clear hb2
              rcases qd with rfl | rfl
              · go_wp2_with (first | (go_at_call 29; (with_reducible refine (octet_cons _ _ _ _ c0 f0).mono ?_); rintro e w' ⟨rfl, rfl⟩) | (go_at_call 29; (with_reducible refine (octet_cons _ _ _ _ c1 f1).mono ?_); rintro e w' ⟨rfl, rfl⟩) | (go_at_call 24; (with_reducible refine (need_true _ _).mono ?_); rintro e w' ⟨rfl, rfl⟩) | (go_at_call 25; (with_reducible refine (writeByte_any _ _ _ _ _ HL2 hacc).mono ?_); rintro e w' ⟨rfl, v2, h2, f2⟩))
                go_roundw
                case rel =>
                  refine ⟨r, acc ++ [0], v2, ?_, HR2.below f2.bel hbl, HK2.trans (Kept.of_below f2.bel (Nat.le_refl _)), ?_, by simp at hle ⊢; omega⟩
                  · simpa [Lib.byteCells] using h2
                  · exact HT
                case measure => rw [hm, restOf_box (HR2.below f2.bel hbl)]; simp only [List.length_cons]; omega
              · go_wp2_with (first | (go_at_call 29; (with_reducible refine (octet_cons _ _ _ _ c0 f0).mono ?_); rintro e w' ⟨rfl, rfl⟩) | (go_at_call 29; (with_reducible refine (octet_cons _ _ _ _ c1 f1).mono ?_); rintro e w' ⟨rfl, rfl⟩) | (go_at_call 24; (with_reducible refine (need_true _ _).mono ?_); rintro e w' ⟨rfl, rfl⟩) | (go_at_call 25; (with_reducible refine (writeByte_any _ _ _ _ _ HL2 hacc).mono ?_); rintro e w' ⟨rfl, v2, h2, f2⟩))
                go_roundw
                case rel =>
                  refine ⟨r, acc ++ [1], v2, ?_, HR2.below f2.bel hbl, HK2.trans (Kept.of_below f2.bel (Nat.le_refl _)), ?_, by simp at hle ⊢; omega⟩
                  · simpa [Lib.byteCells] using h2
                  · exact HT
                case measure => rw [hm, restOf_box (HR2.below f2.bel hbl)]; simp only [List.length_cons]; omega
            · dsimp only at hT
              rw [if_neg qd] at hT
              have HT := Lib.hid hT
              clear hT
              have hd1 : ((d.toNat : Int) == 1) = false := by rw [beq_eq_false_iff_ne]; exact fun e => qd (.inl (UInt8.toNat_inj.1 (by simp; omega)))
              have hd2 : ((d.toNat : Int) == 2) = false := by rw [beq_eq_false_iff_ne]; exact fun e => qd (.inr (UInt8.toNat_inj.1 (by simp; omega)))
              go_wp2_with (first | (go_at_call 29; (with_reducible refine (octet_cons _ _ _ _ c0 f0).mono ?_); rintro e w' ⟨rfl, rfl⟩) | (go_at_call 29; (with_reducible refine (octet_cons _ _ _ _ c1 f1).mono ?_); rintro e w' ⟨rfl, rfl⟩) | (go_at_call 24; (with_reducible refine (need_false _ _).mono ?_); rintro e w' ⟨rfl, rfl⟩))
              refine ⟨rfl, HK2, ?_⟩
              rw [HV.out, ← HT.out]
              exact rfl
        · rw [if_neg q1] at hT
          have HT := Lib.hid hT
          clear hT
          have hd1 : ¬ (c.toNat : Int) = 0 := fun e => q0 (UInt8.toNat_inj.1 (by simpa using e))
          have hd2 : ¬ (c.toNat : Int) = 1 := fun e => q1 (UInt8.toNat_inj.1 (by simp; omega))
          go_wp2_with (first | (go_at_call 29; (with_reducible refine (octet_cons _ _ _ _ c0 f0).mono ?_); rintro e w' ⟨rfl, rfl⟩) | (go_at_call 25; (with_reducible refine (writeByte_any _ _ _ _ _ HL1 hacc).mono ?_); rintro e w' ⟨rfl, v2, h2, f2⟩))
          go_roundw
          case rel =>
            refine ⟨r, acc ++ [c], v2, ?_, HR1.below f2.bel hbl, HK1.trans (Kept.of_below f2.bel (Nat.le_refl _)), ?_, by simp at hle ⊢; omega⟩
            · simpa [Lib.byteCells] using h2
            · exact HT
          case measure => rw [hm, restOf_box (HR1.below f2.bel hbl)]; simp only [List.length_cons]; omega
end Go.Proofs.Ytinkmcbcfdlnjaa
