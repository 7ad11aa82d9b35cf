/- Package ssi: slices.IndexFunc and slices.DeleteFunc with Retire's closure. -/
import Derived.Test.YtdajginkipaghaaRetW
namespace Go.Proofs.Ytdajginkipaghaa
open Go.RowKit
open Go.Shelf
set_option linter.unusedVariables false
set_option linter.unusedSimpArgs false
theorem Log.lt {w : World} {base B : Nat} {zs : List Int} (h : Log w base B zs) : B < base ∧ base ≤ w.heap.size := by
  obtain ⟨v, _, _, h1, h2, _⟩ := h
  exact ⟨h1, h2⟩
theorem Log.alloc {w : World} {base B : Nat} {zs : List Int} (h : Log w base B zs) (o : Obj) : Log (w.alloc o) base B zs := by
  obtain ⟨v, h1, h2, h3, h4, h5⟩ := h
  have hb : Below w.heap.size w (w.alloc o) := (Below.refl _ w).alloc (Nat.le_refl _) o
  exact ⟨v, (hb.cell (p := ⟨B, 0, none⟩) (by simp; omega)).trans h1, (hb.frozen (p := ⟨B, 0, none⟩) (by simp; omega)).trans h2, h3, by simp; omega, h5.alloc o⟩
/-- Another block's cell is written. -/
theorem Log.set {w : World} {base B : Nat} {zs : List Int} (h : Log w base B zs) (a : Addr) (u : Value) (ha : a.block < base) (hb : a.block ≠ B) : Log (w.setCell a u) base B zs := by
  obtain ⟨v, h1, h2, h3, h4, h5⟩ := h
  refine ⟨v, (World.cell?_of_block (heap_setCell_other w a B u hb.symm)).trans h1, (World.frozen?_of_block (heap_setCell_other w a B u hb.symm)).trans h2, h3, by simpa using h4, own_set h5 a u ha⟩
theorem Log.grown {w w' : World} {base B g : Nat} {zs : List Int} (h : Log w base B zs) (hg : w.grownBy w' (some g)) (ha : g < base) (hb : g ≠ B) : Log w' base B zs := by
  obtain ⟨v, h1, h2, h3, h4, h5⟩ := h
  have e := hg.block B (by omega) (by simpa using hb.symm)
  refine ⟨v, (World.cell?_of_block e).trans h1, (World.frozen?_of_block e).trans h2, h3, Nat.le_trans h4 hg.size, h5.kept hg ?_⟩
  cases hv : v.ownBlock with
  | none => left; rfl
  | some k => right; intro e; have := (h5.lt k hv).1; have := Option.some.inj e; omega
theorem filter_none {p : Tx → Bool} {l : List Tx} (h : ∀ x ∈ l, p x = false) : l.filter p = [] := List.filter_eq_nil_iff.2 (fun x hx => by simp [h x hx])
set_option maxHeartbeats 4000000 in
set_option maxRecDepth 100000 in
theorem index_any (A : Option Addr) (c : Nat) (l : List Tx) (n : Int) (B1 B2 base : Nat) (w : World) (HR : RowE encT 5 w A l) (hA : ∀ b off, A = some ⟨b, off, none⟩ → b < base ∧ b ≠ B2) (h1 : B1 < base) (h12 : B1 ≠ B2) (hn : w.cell? ⟨B1, 0, none⟩ = some (.int .i64 n)) (hL : Log w base B2 []) (hl : l.length ≤ 1000) :
    Calls Try.prog 28 #[.slice A l.length c, .func (.func 23) #[] #[.pointer (some ⟨B1, 0, none⟩), .pointer (some ⟨B2, 0, none⟩)]] w fun e w' =>
      Kept base (· = B2) w w' ∧ ((e = .returned (.int .i64 (-1)) ∧ (∀ x ∈ l, gone n x = false) ∧ Log w' base B2 []) ∨ ∃ (i : Nat) (x : Tx), e = .returned (.int .i64 i) ∧ l[i]? = some x ∧ gone n x = true ∧ (∀ y ∈ l.take i, gone n y = false) ∧ Log w' base B2 [x.id]) := by
  have eg : ∀ args w, (callFunc 23 args).run Try.prog w = .ok (.enter 23 args) w := enters_of Try.func23 (by kernel_rfl) rfl
  have HR' := Lib.hid HR
  have HA' := Lib.hid hA
  have HN := Lib.hid hn
  have HL := Lib.hid hL
  clear HR hn hA hL
  go_enter Try.func28, Try.ntmps28
  go_wp2
  go_loopw [8] (fun i wr => ∃ j : Nat, j ≤ l.length ∧ i = .int .i64 j ∧ Hid (∀ y ∈ l.take j, gone n y = false) ∧ Hid (Kept base (· = B2) w wr) ∧ Hid (Log wr base B2 [])) (fun i _ => l.length - (Lib.intOf i).toNat)
  case atStart => exact ⟨0, Nat.zero_le _, rfl, Lib.hid (by simp), Lib.hid (Kept.refl _ _ _), HL⟩
  case round =>
    obtain ⟨j, hj, rfl, HE, HK, HLr⟩ := hrel
    by_cases hlt : j < l.length
    · obtain ⟨x, hx⟩ : ∃ x, l[j]? = some x := ⟨_, List.getElem?_eq_getElem hlt⟩
      obtain ⟨b0, off, rfl, hb0, hcells⟩ := HR'.out j x hx
      have hb1 := HA'.out b0 off rfl
      have kc : ∀ q u, (encT x)[q]? = some u → wr.cell? ⟨b0, off + j * 5 + q, none⟩ = some u := fun q u hu => (HK.out.cell (p := ⟨b0, _, none⟩) hb1.1 hb1.2).trans (hcells j x hx q u hu)
      have g0 := kc 0 _ rfl
      have g1 := kc 1 _ rfl
      have g2 := kc 2 _ rfl
      have g3 := kc 3 _ rfl
      have g4 := kc 4 _ rfl
      have hnr : wr.cell? ⟨B1, 0, none⟩ = some (.int .i64 n) := (HK.out.cell (p := ⟨B1, 0, none⟩) h1 h12).trans HN.out
      have hc := gone1_any n x B1 B2 base [] wr h1 h12 hnr HLr.out (by simp)
      have HX := Lib.hid hx
      clear hx kc hcells hb1 hnr
      simp only [Nat.add_zero] at g0
      have TK : Hid (l.take (j + 1) = l.take j ++ [x]) := Lib.hid (by rw [List.take_add_one, HX.out]; rfl)
      obtain ⟨id, st, en, inn, out⟩ := x
      dsimp only at g0 g1 g2 g3 g4 hc
      cases ho : gone n ⟨id, st, en, inn, out⟩ with
      | true =>
        rw [ho] at hc
        go_wp2_with (go_at_fn 23; refine hc.mono ?_; rintro e w2 ⟨rfl, h2, h3, _⟩)
        go_ret
        exact ⟨HK.out.trans h2, .inr ⟨j, ⟨id, st, en, inn, out⟩, rfl, HX.out, ho, HE.out, by simpa using h3⟩⟩
      | false =>
        rw [ho] at hc
        go_wp2_with (go_at_fn 23; refine hc.mono ?_; rintro e w2 ⟨rfl, h2, h3, _⟩)
        go_roundw
        case rel =>
          refine ⟨j + 1, by omega, by go_num, Lib.hid (fun y hy => ?_), Lib.hid (HK.out.trans h2), Lib.hid (by simpa using h3)⟩
          rw [TK.out] at hy
          rcases List.mem_append.1 hy with hy | hy
          · exact HE.out y hy
          · rw [List.mem_singleton.1 hy]; exact ho
        case measure => simp [Lib.intOf]; omega
    · obtain rfl : j = l.length := by omega
      go_wp2
      go_ret
      exact ⟨HK.out, .inl ⟨rfl, by have := HE.out; rwa [List.take_length] at this, HLr.out⟩⟩
end Go.Proofs.Ytdajginkipaghaa
