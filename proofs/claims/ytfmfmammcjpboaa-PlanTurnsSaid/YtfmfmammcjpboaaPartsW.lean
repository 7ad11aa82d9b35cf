/- Expressions in memory; plan.parts. -/
import Derived.Test.YtfmfmammcjpboaaBox
import Derived.Test.YtfmfmammcjpboaaChkOrd
import Derived.Lib.Walk
import Derived.Lib.Hide
namespace Go.Proofs.Ytfmfmammcjpboaa
open Go.RowKit
set_option linter.unusedVariables false
set_option linter.unusedSimpArgs false
inductive Ex where
  | mk : Int → V → ByteArray → ByteArray → List Ex → Ex
/-- An expression's own cells. -/
structure Eh where
  op : Int
  v : V
  tb : ByteArray
  nm : ByteArray
  A : Option Addr
  len : Nat
  c : Nat
def cellsE (h : Eh) : List Value := [.int .i64 h.op, .int .i64 h.v.k, .int .i64 h.v.n, .string h.v.s, .string h.tb, .string h.nm, .slice h.A h.len h.c]
def aggE (h : Eh) : Value := .agg #[.int .i64 h.op, .int .i64 h.v.k, .int .i64 h.v.n, .string h.v.s, .string h.tb, .string h.nm, .slice h.A h.len h.c]
theorem cellsE_len (h : Eh) : (cellsE h).length = 7 := rfl
/-- It lies there as e, so many deep. -/
def ExAt : Nat → World → Eh → Ex → Prop
  | 0, _, _, _ => True
  | n + 1, w, h, .mk op v tb nm args => h.op = op ∧ h.v = v ∧ h.tb = tb ∧ h.nm = nm ∧ h.len = args.length ∧ args.length ≤ 140737488355328 ∧ ∃ hs : List Eh, hs.length = args.length ∧ RowE cellsE 7 w h.A hs ∧ ∀ (i : Nat) (g : Eh) (a : Ex), hs[i]? = some g → args[i]? = some a → ExAt n w g a
theorem ExAt.below : ∀ {n : Nat} {w w' : World} {h : Eh} {e : Ex}, ExAt n w h e → Below w.heap.size w w' → ExAt n w' h e
  | 0, _, _, _, _, _, _ => trivial
  | n + 1, w, w', h, .mk op v tb nm args, hx, hb => by
    obtain ⟨h1, h2, h3, h4, h5, hl, hs, h6, h7, h8⟩ := hx
    exact ⟨h1, h2, h3, h4, h5, hl, hs, h6, h7.below hb, fun i g a hg ha => (h8 i g a hg ha).below hb⟩
def rk (op : Int) : Bool := decide (op = 2) || (decide (4 ≤ op) && decide (op ≤ 7))
def partsB : Nat → Ex → Bool × Bool
  | 0, _ => (false, true)
  | n + 1, .mk op _ _ _ args => args.foldl (fun p a => (p.1 || (partsB n a).1, p.2 || (partsB n a).2)) (rk op, false)
set_option maxRecDepth 100000 in
theorem rk_any (h : Eh) (w : World) : Calls Try.prog 25 #[aggE h] w fun e w' => e = .returned (.bool (rk h.op)) ∧ Below w.heap.size w w' := by
  obtain ⟨op, v, tb, nm, A, len, c⟩ := h
  unfold aggE rk
  dsimp only
  go_enter Try.func25, Try.ntmps25
  go_wp2
  all_goals (go_ret; refine ⟨ret_bool ?_, (by (repeat (first | (with_reducible exact Below.refl _ _) | apply below_alloc _ (Nat.le_refl _) | refine below_set ?_ (by first | exact Nat.le_refl _ | omega) | apply below_drewN | refine below_step ?_ HB)))⟩)
  all_goals (first | rfl | (simp only [decide_eq_true_eq, decide_eq_false_iff_not] at *; simp [*]; done) | grind)
set_option maxHeartbeats 4000000 in
set_option maxRecDepth 100000 in
theorem parts_any : ∀ (n : Nat) (h : Eh) (e : Ex) (w : World) (hx : ExAt n w h e) (hn : n ≤ 1000),
    Calls Try.prog 24 #[aggE h, .int .i64 n, .func (Fn.func 25) #[] #[]] w fun r w' => r = .returned (.tuple #[.bool (partsB n e).1, .bool (partsB n e).2]) ∧ Below w.heap.size w w'
  | 0, h, e, w, hx, hn => by
    obtain ⟨op, v, tb, nm, A, len, c⟩ := h
    unfold aggE
    dsimp only
    go_enter Try.func24, Try.ntmps24
    go_wp2
    go_ret2
    exact ⟨rfl, (by (repeat (first | (with_reducible exact Below.refl _ _) | apply below_alloc _ (Nat.le_refl _) | refine below_set ?_ (by first | exact Nat.le_refl _ | omega) | apply below_drewN | refine below_step ?_ HB)))⟩
  | n + 1, h, .mk op0 v0 tb0 nm0 args, w, hx, hn => by
    have IH := fun h e w hx => parts_any n h e w hx (by omega)
    obtain ⟨op, v, tb, nm, A, len, c⟩ := h
    obtain ⟨rfl, rfl, rfl, rfl, h5, hl, hs, h6, h7, h8⟩ := hx
    dsimp only at h5 h7
    subst h5
    have hrk := fun W => rk_any ⟨op, v, tb, nm, A, args.length, c⟩ W
    unfold aggE at *
    dsimp only at *
    have hP : partsB (n + 1) (.mk op v tb nm args) = args.foldl (fun p a => (p.1 || (partsB n a).1, p.2 || (partsB n a).2)) (rk op, false) := rfl
    rw [hP]
    clear hP
    have hn1 : ((n + 1 : Nat) : Int) = (n : Int) + 1 := by omega
    rw [hn1]
    have hn0 : ¬ (n : Int) + 1 = 0 := by omega
    have HB := Lib.hid (Box.new w #[.int .i64 op, .int .i64 v.k, .int .i64 v.n, .string v.s, .string tb, .string nm, .slice A args.length c] 51)
    have HF : Hid (Below w.heap.size w (w.alloc (.cells #[.int .i64 op, .int .i64 v.k, .int .i64 v.n, .string v.s, .string tb, .string nm, .slice A args.length c] 51))) := Lib.hid (by (repeat (first | (with_reducible exact Below.refl _ _) | apply below_alloc _ (Nat.le_refl _) | refine below_set ?_ (by first | exact Nat.le_refl _ | omega) | apply below_drewN | refine below_step ?_ HB)))
    have H7 := Lib.hid h7
    have H8 := Lib.hid h8
    have HIH := Lib.hid IH
    clear h7 h8 IH
    go_enter Try.func24, Try.ntmps24
    go_wp2_with fail
    generalize w.alloc (.cells #[.int .i64 op, .int .i64 v.k, .int .i64 v.n, .string v.s, .string tb, .string nm, .slice A args.length c] 51) = w1 at *
    refine (hrk w1).mono ?_; rintro e w2 ⟨rfl, h⟩
    replace HB := Lib.hid (HB.out.below h HB.out.lt); replace HF := Lib.hid (below_step' HF.out h)
    clear h hrk
    have cHB0 := HB.out.c 0 _ rfl; have fHB0 := HB.out.f 0 (by simp); have cHB1 := HB.out.c 1 _ rfl; have fHB1 := HB.out.f 1 (by simp); have cHB2 := HB.out.c 2 _ rfl; have fHB2 := HB.out.f 2 (by simp); have cHB3 := HB.out.c 3 _ rfl; have fHB3 := HB.out.f 3 (by simp); have cHB4 := HB.out.c 4 _ rfl; have fHB4 := HB.out.f 4 (by simp); have cHB5 := HB.out.c 5 _ rfl; have fHB5 := HB.out.f 5 (by simp); have cHB6 := HB.out.c 6 _ rfl; have fHB6 := HB.out.f 6 (by simp); have lHB := HB.out.lt
    go_wp2_with fail
    clear cHB0 fHB0 cHB1 fHB1 cHB2 fHB2 cHB3 fHB3 cHB4 fHB4 cHB5 fHB5 cHB6 fHB6 lHB
    have hw2 := HB.out.lt
    go_loopw [6, 7, 20, 9, 10, 11] (fun s d i _p _q _r wr => ∃ j : Nat, j ≤ args.length ∧ i = .int .i64 j ∧ s = .bool ((args.take j).foldl (fun p a => (p.1 || (partsB n a).1, p.2 || (partsB n a).2)) (rk op, false)).1 ∧ d = .bool ((args.take j).foldl (fun p a => (p.1 || (partsB n a).1, p.2 || (partsB n a).2)) (rk op, false)).2 ∧ Hid (Below w.heap.size w wr)) (fun s d i _ _ _ _ => args.length - (Lib.intOf i).toNat)
    case atStart => exact ⟨0, Nat.zero_le _, rfl, rfl, rfl, HF⟩
    case round =>
      obtain ⟨j, hj, rfl, rfl, rfl, HFr⟩ := hrel
      by_cases hlt : j < args.length
      · obtain ⟨a, ha⟩ : ∃ a, args[j]? = some a := ⟨_, List.getElem?_eq_getElem hlt⟩
        obtain ⟨g, hg⟩ : ∃ g, hs[j]? = some g := ⟨_, List.getElem?_eq_getElem (by omega)⟩
        have hgx := (H8.out j g a hg ha).below HFr.out
        obtain ⟨b0, off, rfl, hb0, hcl⟩ := H7.out j g hg
        have ht : args.take (j + 1) = args.take j ++ [a] := by rw [List.take_add_one, ha]; rfl
        have HT := Lib.hid ht
        obtain ⟨gop, gv, gtb, gnm, gA, glen, gc⟩ := g
        have e0 : wr.cell? ⟨b0, off + j * 7, none⟩ = some (.int .i64 gop) := (HFr.out.cell (p := ⟨b0, _, none⟩) hb0).trans (hcl j _ hg 0 _ rfl)
        have e1 : wr.cell? ⟨b0, off + j * 7 + 1, none⟩ = some (.int .i64 gv.k) := (HFr.out.cell (p := ⟨b0, _, none⟩) hb0).trans (hcl j _ hg 1 _ rfl)
        have e2 : wr.cell? ⟨b0, off + j * 7 + 2, none⟩ = some (.int .i64 gv.n) := (HFr.out.cell (p := ⟨b0, _, none⟩) hb0).trans (hcl j _ hg 2 _ rfl)
        have e3 : wr.cell? ⟨b0, off + j * 7 + 3, none⟩ = some (.string gv.s) := (HFr.out.cell (p := ⟨b0, _, none⟩) hb0).trans (hcl j _ hg 3 _ rfl)
        have e4 : wr.cell? ⟨b0, off + j * 7 + 4, none⟩ = some (.string gtb) := (HFr.out.cell (p := ⟨b0, _, none⟩) hb0).trans (hcl j _ hg 4 _ rfl)
        have e5 : wr.cell? ⟨b0, off + j * 7 + 5, none⟩ = some (.string gnm) := (HFr.out.cell (p := ⟨b0, _, none⟩) hb0).trans (hcl j _ hg 5 _ rfl)
        have e6 : wr.cell? ⟨b0, off + j * 7 + 6, none⟩ = some (.slice gA glen gc) := (HFr.out.cell (p := ⟨b0, _, none⟩) hb0).trans (hcl j _ hg 6 _ rfl)
        have hc := HIH.out ⟨gop, gv, gtb, gnm, gA, glen, gc⟩ a (wr.alloc (.cells #[.int .i64 gop, .int .i64 gv.k, .int .i64 gv.n, .string gv.s, .string gtb, .string gnm, .slice gA glen gc] 51)) (hgx.below ((Below.refl _ _).alloc (Nat.le_refl _) _))
        have HF5 : Hid (Below w.heap.size w (wr.alloc (.cells #[.int .i64 gop, .int .i64 gv.k, .int .i64 gv.n, .string gv.s, .string gtb, .string gnm, .slice gA glen gc] 51))) := Lib.hid (HFr.out.alloc HFr.out.size _)
        dsimp only at hc
        have hlt' : (j : Int) < (args.length : Int) := by omega
        have hn2 : (n : Int) + 1 - 1 = n := by omega
        have hw64 : wrap64 ((n : Int) + 1 - 1) = n := by unfold wrap64; omega
        generalize hfo : (args.take j).foldl (fun p a => (p.1 || (partsB n a).1, p.2 || (partsB n a).2)) (rk op, false) = P at *
        have HP2 : Hid ((args.take (j + 1)).foldl (fun p a => (p.1 || (partsB n a).1, p.2 || (partsB n a).2)) (rk op, false) = (P.1 || (partsB n a).1, P.2 || (partsB n a).2)) := Lib.hid (by rw [HT.out, List.foldl_append, hfo]; rfl)
        generalize partsB n a = q at *
        obtain ⟨p1, p2⟩ := P
        obtain ⟨q1, q2⟩ := q
        dsimp only at *
        clear hcl hg ha ht hgx hfo
        go_wp2_with fail
        generalize (wr.alloc (.cells #[.int .i64 gop, .int .i64 gv.k, .int .i64 gv.n, .string gv.s, .string gtb, .string gnm, .slice gA glen gc] 51)) = w5 at *
        refine hc.mono ?_; rintro e w6 ⟨rfl, h⟩
        have HF6 := Lib.hid (below_step' HF5.out h)
        clear hc h HF5
        cases p1 <;> cases p2
        all_goals
          go_wp2
          go_roundw
          case rel => exact ⟨j + 1, by omega, by go_num, by rw [HP2.out]; simp, by rw [HP2.out]; simp, HF6⟩
          case measure => simp [Lib.intOf]; omega
      · obtain rfl : j = args.length := by omega
        rw [List.take_length]
        go_wp2
        go_ret2
        exact ⟨rfl, HFr.out⟩
end Go.Proofs.Ytfmfmammcjpboaa
