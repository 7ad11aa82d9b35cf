/- Package btree: Put. -/
import Derived.Test.YtkecbghnapjecaaLayV
import Derived.Test.YtkecbghnapjecaaPutW
import Derived.Test.YtkecbghnapjecaaBtS
namespace Go.Proofs.Ytkecbghnapjecaa
open Go.RowKit
set_option linter.unusedVariables false
set_option linter.unusedSimpArgs false
theorem readS_ok {s : List Nd} {root d p : Int} {t : Tr} (h : readS s root = some (some t, d, p)) : OkT t ∧ p = (pairsT t).length ∧ p ≤ 2048 ∧ szT t = s.length := by
  unfold readS at h
  split at h
  · split at h <;> simp at h
  · split at h
    · cases h
    · rename_i t' r hn
      split at h
      · rename_i hm
        simp only [Option.some.injEq, Prod.mk.injEq] at h
        obtain ⟨rfl, _, rfl⟩ := h
        have h1 := nodeS_pairs s _ _ _ _ _ _ _ _ hn
        have h2 := nodeS_ok s _ _ _ _ _ _ _ _ (⟨List.nodup_nil, by simp, by simp, by simp⟩ : RdOk s ⟨[], 0, 0⟩) hn
        simp at h1
        exact ⟨nodeS_OkT s _ _ _ _ _ _ _ _ hn, h1.1, h2.1.2.2.2, by omega⟩
      · cases h
/-- A new root over a node that is too wide. -/
def topT (t : Tr) : Tr := if 4 < t.keys.length then .mk [(splitT t).1] [] [(splitT t).2.1, (splitT t).2.2] else t
/-- Put. -/
def putS (s : List Nd) (root : Int) (key value : ByteArray) : (List Nd × Int) × Int :=
  match readS s root with
  | none => (([], 0), 9)
  | some (none, _, _) => ((layT 0 (.mk [key] [value] []), 0), 0)
  | some (some t, _, p) => if (!(bsF (leafT key t).keys key) && p == 2048) = true then (([], 0), 51) else ((layT 0 (topT (putK key value t)), 0), 0)
/-- A state that a call gives back: it stays as long as what was laid since block N does. -/
def StAt (w' : World) (N : Nat) (v : Value) (x : List Nd × Int) : Prop := ∃ A c, v = .agg #[.slice A x.1.length c, .int .i64 x.2] ∧ (∀ (B : Nat → Prop) (w'' : World), (∀ k, B k → k < N) → Kept w'.heap.size B w' w'' → NodesAt w'' A x.1) ∧ x.1.length ≤ c ∧ (A = none → c = 0) ∧ ∀ a, A = some a → N ≤ a.block
theorem StAt.kept {B : Nat → Prop} {w w' : World} {N : Nat} {v : Value} {x : List Nd × Int} (h : StAt w N v x) (hk : Kept w.heap.size B w w') (hB : ∀ k, B k → k < N) : StAt w' N v x := by
  obtain ⟨A, c, rfl, h1, h2⟩ := h
  exact ⟨A, c, rfl, fun B' w'' hB' hk' => h1 (fun k => B k ∨ B' k) w'' (fun k h => h.elim (hB k) (hB' k)) ((hk.mono (fun k h => .inl h)).trans (kept_less hk' hk.size (fun k _ h => .inr h))), h2⟩
theorem StAt.below {w w' : World} {N : Nat} {v : Value} {x : List Nd × Int} (h : StAt w N v x) (hb : Below w.heap.size w w') : StAt w' N v x := h.kept (B := fun _ => False) (Kept.of_below hb (Nat.le_refl _)) (fun _ h => h.elim)
theorem StAt.mono {w : World} {N M : Nat} {v : Value} {x : List Nd × Int} (h : StAt w N v x) (hM : M ≤ N) : StAt w M v x := by
  obtain ⟨A, c, rfl, h1, h2, h3, h4⟩ := h
  exact ⟨A, c, rfl, fun B w'' hB hk => h1 B w'' (fun k hk => by have := hB k hk; omega) hk, h2, h3, fun a ha => Nat.le_trans hM (h4 a ha)⟩
theorem NodesAt.nil {w : World} {A : Option Addr} : NodesAt w A [] := fun i n h => by simp at h
/-- The end of a call that gives a state and an error back, out of the results' cells. -/
theorem st_end {w wx : World} {r0 r1 : Value} {A : Option Addr} {c m : Nat} {x : List Nd × Int} (hm : m = x.1.length) (hX : Box wx (w.heap.size + 1) [r0, r1]) (hF : Below w.heap.size w wx) (hN : ∀ (B : Nat → Prop) (w'' : World), (∀ k, B k → k < w.heap.size + 2) → Kept wx.heap.size B wx w'' → NodesAt w'' A x.1) (hA : ∀ a, A = some a → w.heap.size + 2 ≤ a.block) (hc : x.1.length ≤ c) (hn : A = none → c = 0) :
    ∀ wz, wz = (wx.setCell ⟨w.heap.size + 1, 0, none⟩ (.slice A m c)).setCell ⟨w.heap.size + 1, 1, none⟩ (.int .i64 x.2) → wz.cell? ⟨w.heap.size + 1, 0, none⟩ = some (.slice A m c) ∧ wz.cell? ⟨w.heap.size + 1, 1, none⟩ = some (.int .i64 x.2) ∧ StAt wz w.heap.size (.agg #[.slice A m c, .int .i64 x.2]) x ∧ Below w.heap.size w wz := by
  rintro wz rfl
  subst hm
  have hX1 := (hX.set 0 (.slice A x.1.length c) (by simp)).set 1 (.int .i64 x.2) (by simp)
  have hF9 := (hF.setCell (p := ⟨w.heap.size + 1, 0, none⟩) (by simp) (.slice A x.1.length c)).setCell (p := ⟨w.heap.size + 1, 1, none⟩) (by simp) (.int .i64 x.2)
  have hk9 : Kept wx.heap.size (fun k => k = w.heap.size + 1) wx ((wx.setCell ⟨w.heap.size + 1, 0, none⟩ (.slice A x.1.length c)).setCell ⟨w.heap.size + 1, 1, none⟩ (.int .i64 x.2)) := ((Kept.refl _ (fun k => k = w.heap.size + 1) wx).set ⟨w.heap.size + 1, 0, none⟩ (.slice A x.1.length c) (.inr rfl)).set ⟨w.heap.size + 1, 1, none⟩ (.int .i64 x.2) (.inr rfl)
  exact ⟨hX1.c 0 _ rfl, hX1.c 1 _ rfl, ⟨A, c, rfl, fun B w'' hB hk => hN (fun k => k = w.heap.size + 1 ∨ B k) w'' (fun k h => by rcases h with h | h; omega; have := hB k h; omega) ((hk9.mono (fun k h => .inl h)).trans (kept_less hk hk9.size (fun k _ h => .inr h))), hc, hn, fun a ha => by have := hA a ha; omega⟩, hF9⟩
theorem rowP_one {P : Nat → Prop} {w : World} {q : Nat} {T : TypeId} {key : ByteArray} (h : w.heap[q]? = some (.cells #[.string key] T (0, 0))) (hP : P q) : RowP encS P w (.slice (some ⟨q, 0, none⟩) 1 1) [key] :=
  ⟨some ⟨q, 0, none⟩, 1, rfl, Nat.le_refl _, RowE.lit encS_len h rfl, (fun h => by cases h), fun a ha => by obtain rfl := Option.some.inj ha; exact ⟨rfl, hP, (Array.getElem?_eq_some_iff.1 h).1⟩⟩
theorem rowP_two {P : Nat → Prop} {w : World} {q : Nat} {T : TypeId} {a b : Nat} (h : w.heap[q]? = some (.cells #[.pointer (some ⟨a, 0, none⟩), .pointer (some ⟨b, 0, none⟩)] T (0, 0))) (hP : P q) : RowP encN P w (.slice (some ⟨q, 0, none⟩) 2 2) [a, b] :=
  ⟨some ⟨q, 0, none⟩, 2, rfl, Nat.le_refl _, RowE.lit encN_len h rfl, (fun h => by cases h), fun a ha => by obtain rfl := Option.some.inj ha; exact ⟨rfl, hP, (Array.getElem?_eq_some_iff.1 h).1⟩⟩
theorem alloc3 (w : World) (a b c : Obj) : (((w.alloc a).alloc b).alloc c).heap[w.heap.size]? = some a ∧ (((w.alloc a).alloc b).alloc c).heap[w.heap.size + 1]? = some b ∧ (((w.alloc a).alloc b).alloc c).heap.size = w.heap.size + 3 ∧ Below w.heap.size w (((w.alloc a).alloc b).alloc c) := by
  have hb1 : Below (w.alloc a).heap.size (w.alloc a) (((w.alloc a).alloc b).alloc c) := ((Below.refl _ _).alloc (Nat.le_refl _) b).alloc (by simp) c
  have hb2 : Below ((w.alloc a).alloc b).heap.size ((w.alloc a).alloc b) (((w.alloc a).alloc b).alloc c) := (Below.refl _ _).alloc (Nat.le_refl _) c
  refine ⟨(hb1.block _ (by simp)).trans (heap_alloc_new w a), ?_, by simp, (((Below.refl _ w).alloc (Nat.le_refl _) a).alloc (by simp) b).alloc (by simp; omega) c⟩
  have := heap_alloc_new (w.alloc a) b
  simp only [World.size_alloc] at this
  exact (hb2.block _ (by simp)).trans this
theorem leaf_new (w : World) (key value : ByteArray) : RdT (((w.alloc (.cells #[.string key] 9)).alloc (.cells #[.string value] 9)).alloc (.cells #[.slice (some ⟨w.heap.size, 0, none⟩) 1 1, .slice (some ⟨w.heap.size + 1, 0, none⟩) 1 1, .slice none 0 0] 73)) (fun b => w.heap.size ≤ b) (w.heap.size + 1 + 1) (.mk [key] [value] []) := by
  obtain ⟨h1, h2, h3, _⟩ := alloc3 w (.cells #[.string key] 9) (.cells #[.string value] 9) (.cells #[.slice (some ⟨w.heap.size, 0, none⟩) 1 1, .slice (some ⟨w.heap.size + 1, 0, none⟩) 1 1, .slice none 0 0] 73)
  have hB := Box.new ((w.alloc (.cells #[.string key] 9)).alloc (.cells #[.string value] 9)) #[.slice (some ⟨w.heap.size, 0, none⟩) 1 1, .slice (some ⟨w.heap.size + 1, 0, none⟩) 1 1, .slice none 0 0] 73
  simp only [World.size_alloc] at hB
  unfold RdT
  exact ⟨_, _, _, [], hB, rowP_one h1 (Nat.le_refl _), rowP_one h2 (by simp), RowP.nil, by show w.heap.size ≤ w.heap.size + 1 + 1; omega, by unfold RdsT; rfl⟩
theorem root_new (w : World) (P : Nat → Prop) (up : ByteArray) (g1 g2 : Nat) (l r : Tr) (hl : RdT w P g1 l) (hr : RdT w P g2 r) : RdT (((w.alloc (.cells #[.string up] 9)).alloc (.cells #[.pointer (some ⟨g1, 0, none⟩), .pointer (some ⟨g2, 0, none⟩)] 67)).alloc (.cells #[.slice (some ⟨w.heap.size, 0, none⟩) 1 1, .slice none 0 0, .slice (some ⟨w.heap.size + 1, 0, none⟩) 2 2] 73)) (AndNew P w) (w.heap.size + 1 + 1) (.mk [up] [] [l, r]) := by
  obtain ⟨h1, h2, h3, hb⟩ := alloc3 w (.cells #[.string up] 9) (.cells #[.pointer (some ⟨g1, 0, none⟩), .pointer (some ⟨g2, 0, none⟩)] 67) (.cells #[.slice (some ⟨w.heap.size, 0, none⟩) 1 1, .slice none 0 0, .slice (some ⟨w.heap.size + 1, 0, none⟩) 2 2] 73)
  have hB := Box.new ((w.alloc (.cells #[.string up] 9)).alloc (.cells #[.pointer (some ⟨g1, 0, none⟩), .pointer (some ⟨g2, 0, none⟩)] 67)) #[.slice (some ⟨w.heap.size, 0, none⟩) 1 1, .slice none 0 0, .slice (some ⟨w.heap.size + 1, 0, none⟩) 2 2] 73
  simp only [World.size_alloc] at hB
  unfold RdT
  refine ⟨_, _, _, [g1, g2], hB, rowP_one h1 (.inr (Nat.le_refl _)), RowP.nil, rowP_two h2 (.inr (by simp)), .inr (by omega), ?_⟩
  unfold RdsT
  refine ⟨g1, [g2], rfl, (hl.below hb).mono (fun b _ h => .inl h), ?_⟩
  unfold RdsT
  exact ⟨g2, [], rfl, (hr.below hb).mono (fun b _ h => .inl h), by unfold RdsT; rfl⟩
/-- The leaf with a key, and whether the key is in it. -/
theorem leaf_has (key : ByteArray) (t : Tr) (P : Nat → Prop) (g : Nat) (w : World) (hT : TrAt w P g t) (hO : OkT t) :
    Calls Try.prog 29 #[.pointer (some ⟨g, 0, none⟩), .string key] w fun e w' => ∃ g' kv, e = .returned (.pointer (some ⟨g', 0, none⟩)) ∧ (w'.cell? ⟨g', 0, none⟩ = some kv ∧ g' < w'.heap.size) ∧ (Calls Try.prog 28 #[kv, .string key] w' fun e w'' => e = .returned (.bool (bsF (leafT key t).keys key)) ∧ w' = w'') ∧ Below w.heap.size w w' := by
  refine (leafOf_any key t P g w hT hO).mono ?_
  rintro e w4 ⟨g', P', rfl, hT4, hO4, hk4, hb⟩
  generalize leafT key t = LT at *
  obtain ⟨ksL, vsL, tsL⟩ := LT
  obtain ⟨kvL, vvL, ivL, psL, hNL, _⟩ := hT4.node
  obtain ⟨_, _, h4L, _⟩ := hO4.parts
  obtain ⟨KL, kcL, rfl, _, hkrL, _, _⟩ := hNL.rk
  exact ⟨g', _, rfl, ⟨hNL.box.c 0 _ rfl, hNL.box.lt⟩, contains_any KL kcL ksL key w4 hkrL (by omega), hb⟩
theorem NodesAt.keep0 {A : Option Addr} : ∀ (B : Nat → Prop) (w'' : World), True → NodesAt w'' A [] := fun _ _ _ => NodesAt.nil
set_option maxHeartbeats 4000000 in
set_option maxRecDepth 100000 in
theorem put_top (NA : Option Addr) (nc : Nat) (root : Int) (s : List Nd) (key value : ByteArray) (w : World) (hN : NodesOk w NA nc s) (hroot : InR root) :
    Calls Try.prog 9 #[.agg #[.slice NA s.length nc, .int .i64 root], .string key, .string value] w fun e w' => ∃ v, e = .returned (.tuple #[v, .int .i64 (putS s root key value).2]) ∧ StAt w' w.heap.size v (putS s root key value).1 ∧ Below w.heap.size w w' := by
  have hF0 : Below w.heap.size w ((w.alloc (.cells #[.slice NA s.length nc, .int .i64 root] 27)).alloc (.cells #[.slice none 0 0, .int .i64 0] 27)) := (by (repeat (first | (with_reducible exact Below.refl _ _) | apply below_alloc _ (Nat.le_refl _) | refine below_set ?_ (by first | exact Nat.le_refl _ | omega) | apply below_drewN | refine below_step ?_ HB)))
  have hr := read_gen NA nc root s _ (hN.below hF0) hroot
  have HRD := Lib.hid hr
  have HX := Lib.hid (Box.new (w.alloc (.cells #[.slice NA s.length nc, .int .i64 root] 27)) #[.slice none 0 0, .int .i64 0] 27)
  have HF := Lib.hid hF0
  simp only [World.size_alloc] at HX
  have hsz2 : ((w.alloc (.cells #[.slice NA s.length nc, .int .i64 root] 27)).alloc (.cells #[.slice none 0 0, .int .i64 0] 27)).heap.size = w.heap.size + 2 := by simp
  obtain ⟨RR, hRR⟩ : ∃ RR, putS s root key value = RR := ⟨_, rfl⟩
  rw [hRR]
  unfold putS at hRR
  have HOK : Hid (∀ t d p, readS s root = some (some t, d, p) → OkT t ∧ p = (pairsT t).length ∧ p ≤ 2048 ∧ szT t = s.length) := Lib.hid (fun t d p h => readS_ok h)
  generalize readS s root = R at *
  have HRR := Lib.hid hRR
  clear hr hF0 hN hRR
  go_enter Try.func9, Try.ntmps9
  go_wp2_with fail
  refine HRD.out.mono ?_
  rintro e w3 ⟨p0, rfl, hT, hb⟩
  have hlt3 := hb.size
  replace HX := Lib.hid (HX.out.step hb)
  replace HF := Lib.hid (below_step' HF.out hb)
  clear hb HRD
  rcases R with _ | ⟨o, d, p⟩
  · have hRR : RR = (([], 0), 9) := HRR.out.symm
    subst hRR
    obtain rfl : p0 = .pointer none := hT
    simp only [rdD, rdP, rdE]
    clear HRR HOK
    have cHX0 := HX.out.c 0 _ rfl; have fHX0 := HX.out.f 0 (by simp); have cHX1 := HX.out.c 1 _ rfl; have fHX1 := HX.out.f 1 (by simp); have lHX := HX.out.lt
    go_wp2
    clear cHX0 fHX0 cHX1 fHX1 lHX
    have hX := HX.out
    have hF := HF.out
    obtain ⟨z0, z1, hst, hF9⟩ := st_end (x := ([], 0)) (A := none) (c := 0) (m := 0) rfl hX hF (fun _ _ _ _ => NodesAt.nil) (fun a h => by cases h) (Nat.le_refl _) (fun _ => rfl) _ rfl
    generalize ((w3.setCell ⟨w.heap.size + 1, 0, none⟩ (.slice none 0 0)).setCell ⟨w.heap.size + 1, 1, none⟩ (.int .i64 0)) = wz at *
    refine bodyPost_ret (by simp [results, Try.results9, go_sem, z0, z1]; rfl) rfl ?_
    exact ⟨_, rfl, hst, hF9⟩
  · simp only [rdD, rdP, rdE]
    cases o with
    | none =>
      have hRR : RR = ((layT 0 (.mk [key] [value] []), 0), 0) := HRR.out.symm
      subst hRR
      obtain rfl : p0 = .pointer none := hT
      clear HRR HOK
      have hlf := leaf_new w3 key value
      obtain ⟨_, _, hs9, hb9⟩ := alloc3 w3 (.cells #[.string key] 9) (.cells #[.string value] 9) (.cells #[.slice (some ⟨w3.heap.size, 0, none⟩) 1 1, .slice (some ⟨w3.heap.size + 1, 0, none⟩) 1 1, .slice none 0 0] 73)
      have HLF := Lib.hid hlf
      have HB9 := Lib.hid hb9
      clear hlf hb9
      go_wp2_with fail
      replace HX := Lib.hid (HX.out.step HB9.out)
      replace HF := Lib.hid (below_step' HF.out HB9.out)
      clear HB9
      generalize hW9 : (((w3.alloc (.cells #[.string key] 9)).alloc (.cells #[.string value] 9)).alloc (.cells #[.slice (some ⟨w3.heap.size, 0, none⟩) 1 1, .slice (some ⟨w3.heap.size + 1, 0, none⟩) 1 1, .slice none 0 0] 73)) = w7 at *
      clear hW9
      have HLY := Lib.hid (lay_any (fun b => (fun b => w3.heap.size ≤ b) b ∧ b < w7.heap.size) (w3.heap.size + 1 + 1) (.mk [key] [value] []) w7 (HLF.out.mono (fun b hb h => ⟨h, hb⟩)) (fun b h => h.2) (by simp [szT_mk, szTs]))
      clear HLF
      refine HLY.out.mono ?_
      rintro e w8 ⟨A9, c9, rfl, hL9, hc9, hn9, hA9, hb9⟩
      clear HLY
      have hltz := hb9.size
      replace HX := Lib.hid (HX.out.step hb9)
      replace HF := Lib.hid (HF.out.trans (hb9.mono (by omega)))
      clear hb9
      have cHX0 := HX.out.c 0 _ rfl; have fHX0 := HX.out.f 0 (by simp); have cHX1 := HX.out.c 1 _ rfl; have fHX1 := HX.out.f 1 (by simp); have lHX := HX.out.lt
      go_wp2
      clear cHX0 fHX0 cHX1 fHX1 lHX
      have hX := HX.out
      have hF := HF.out
      obtain ⟨z0, z1, hst, hF9⟩ := st_end (x := (layT 0 (.mk [key] [value] []), 0)) (A := A9) (c := c9) (m := (szT (.mk [key] [value] []))) (layT_len 0 _).symm hX hF (fun B w'' hB hk => hL9 B w'' (fun k hk h => by have := hB k hk; rcases h with ⟨h, _⟩ | h <;> omega) hk) (fun a ha => by have := hA9 a ha; omega) (by rw [layT_len]; exact hc9) hn9 _ rfl
      generalize ((w8.setCell ⟨w.heap.size + 1, 0, none⟩ (.slice A9 (szT (.mk [key] [value] [])) c9)).setCell ⟨w.heap.size + 1, 1, none⟩ (.int .i64 0)) = wz at *
      refine bodyPost_ret (by simp [results, Try.results9, go_sem, z0, z1]; rfl) rfl ?_
      exact ⟨_, rfl, hst, hF9⟩
    | some t =>
      obtain ⟨g, rfl, hT⟩ := hT
      have hgN : w.heap.size + 2 ≤ g := by
        obtain ⟨_, _, _⟩ := t
        obtain ⟨_, _, _, _, _, _, h, _⟩ := hT.node
        simp only [World.size_alloc] at h
        omega
      obtain ⟨hO, hp, hp48, hszt⟩ := HOK.out t d p rfl
      have hRR : RR = if (!(bsF (leafT key t).keys key) && p == 2048) = true then (([], 0), 51) else ((layT 0 (topT (putK key value t)), 0), 0) := HRR.out.symm
      have HRT := Lib.hid hRR
      have hlf := leaf_has key t _ g w3 hT hO
      have HLF := Lib.hid hlf
      have HT := Lib.hid hT
      have HO := Lib.hid hO
      have hsp := szT_pairs t hO
      have hput2 := szT_put key value (szT t) t (Nat.le_refl _) hO
      have hszp : szT (putK key value t) ≤ 8192 := by omega
      have HP48 := Lib.hid hp48
      clear HRR HOK hRR hlf hT hO hp hszt hsp hput2 hp48
      generalize bsF (leafT key t).keys key = fk at *
      go_upto_region 6 with (fail)
      go_cut [46] (fun q wx => q = .bool (!fk && p == 2048) ∧ Hid (Below w3.heap.size w3 wx))
      case first =>
        clear HRT HX HF HT HO hszp
        go_wp2_with fail
        refine HLF.out.mono ?_
        rintro e w4 ⟨g', kv', rfl, ⟨hc', hl'⟩, hcon, hb⟩
        have HB4 := Lib.hid hb
        have HCT := Lib.hid hcon
        clear HLF hb hcon
        cases fk with
        | true =>
          go_wp2_with (go_at_call 28; (with_reducible refine HCT.out.mono ?_); rintro e w' ⟨rfl, rfl⟩)
          all_goals (go_meet; exact ⟨by simp, HB4⟩)
        | false =>
          go_wp2_with (go_at_call 28; (with_reducible refine HCT.out.mono ?_); rintro e w' ⟨rfl, rfl⟩)
          all_goals (go_meet; exact ⟨by simp, HB4⟩)
      obtain ⟨rfl, HB4⟩ := hcut
      have hb := HB4.out
      generalize wc = w4 at *
      have hlt4 := hb.size
      replace HX := Lib.hid (HX.out.step hb)
      replace HF := Lib.hid (HF.out.trans (hb.mono (by omega)))
      replace HT := Lib.hid (HT.out.below hb)
      clear hb HB4
      rename_i Kz az
      refine az _ _ ?_
      clear az
      cases hq : (!fk && p == 2048) with
      | true =>
        have hRR : RR = (([], 0), 51) := by rw [HRT.out, if_pos hq]
        subst hRR
        clear HRT hq HT HO
        have cHX0 := HX.out.c 0 _ rfl; have fHX0 := HX.out.f 0 (by simp); have cHX1 := HX.out.c 1 _ rfl; have fHX1 := HX.out.f 1 (by simp); have lHX := HX.out.lt
        go_wp2
        clear cHX0 fHX0 cHX1 fHX1 lHX
        have hX := HX.out
        have hF := HF.out
        obtain ⟨z0, z1, hst, hF9⟩ := st_end (x := ([], 0)) (A := none) (c := 0) (m := 0) rfl hX hF (fun _ _ _ _ => NodesAt.nil) (fun a h => by cases h) (Nat.le_refl _) (fun _ => rfl) _ rfl
        generalize ((w4.setCell ⟨w.heap.size + 1, 0, none⟩ (.slice none 0 0)).setCell ⟨w.heap.size + 1, 1, none⟩ (.int .i64 0)) = wz at *
        refine bodyPost_ret (by simp [results, Try.results9, go_sem, z0, z1]; rfl) rfl ?_
        exact ⟨_, rfl, hst, hF9⟩
      | false =>
        have hRR : RR = ((layT 0 (topT (putK key value t)), 0), 0) := by rw [HRT.out, if_neg (by rw [hq]; simp)]
        have HPT := Lib.hid (put_any key value (szT t) t (Nat.le_refl _) _ g w4 HT.out HO.out)
        obtain ⟨hs5, hs1, hsh⟩ := putK_shape (key := key) (value := value) HO.out
        have HRR := Lib.hid hRR
        have HSH := Lib.hid hsh
        clear HRT hq HT HO hRR hsh
        generalize putK key value t = t' at *
        go_wp2_with fail
        refine HPT.out.mono ?_
        rintro e w5 ⟨rfl, hTop, hk5⟩
        clear HPT
        have hlt5 := hk5.size
        have hb5 : Below (w.heap.size + 2) w4 w5 := hk5.to_below (by omega) (fun k hk => by omega)
        replace HX := Lib.hid (HX.out.below hb5 (by omega))
        replace HF := Lib.hid (HF.out.trans (hb5.mono (by omega)))
        have HTOP := Lib.hid hTop
        clear hTop hk5 hb5
        obtain ⟨KA1, kc1, u2, u3, hbx⟩ := HTOP.out.box
        have cp0 := hbx.c 0 _ rfl
        have lp1 := hbx.lt
        clear hbx
        by_cases h5 : 4 < t'.keys.length
        · have h5' : (4 : Int) < (t'.keys.length : Int) := by omega
          have htop : topT t' = .mk [(splitT t').1] [] [(splitT t').2.1, (splitT t').2.2] := by unfold topT; rw [if_pos h5]
          have hsp := split_any _ g t' w5 HTOP.out (by omega) HSH.out
          have hss := szT_split t'
          generalize hst : splitT t' = st at htop hsp hss
          obtain ⟨up, l, r⟩ := st
          dsimp only at htop hsp hss
          have hRR : RR = ((layT 0 (.mk [up] [] [l, r]), 0), 0) := by rw [HRR.out, htop]
          subst hRR
          have HSP := Lib.hid hsp
          clear hsp htop hst HRR HTOP HSH
          go_wp2_with fail
          refine HSP.out.mono ?_
          rintro e w6 ⟨g2, rfl, hL, hR, hg2, hK6⟩
          clear HSP cp0 h5' lp1
          have hlt6 := hK6.size
          have hgT : w.heap.size + 2 ≤ g := hgN
          have hb6 : Below (w.heap.size + 2) w5 w6 := hK6.to_below (by omega) (fun k hk => by omega)
          replace HX := Lib.hid (HX.out.below hb6 (by omega))
          replace HF := Lib.hid (HF.out.trans (hb6.mono (by omega)))
          have hrn := root_new w6 _ up g g2 l r hL hR
          obtain ⟨_, _, hs9, hb9⟩ := alloc3 w6 (.cells #[.string up] 9) (.cells #[.pointer (some ⟨g, 0, none⟩), .pointer (some ⟨g2, 0, none⟩)] 67) (.cells #[.slice (some ⟨w6.heap.size, 0, none⟩) 1 1, .slice none 0 0, .slice (some ⟨w6.heap.size + 1, 0, none⟩) 2 2] 73)
          have HRN := Lib.hid hrn
          have HB9 := Lib.hid hb9
          clear hrn hb9 hb6 hL hR hK6
          go_upto_region 12 with (fail)
          replace HX := Lib.hid (HX.out.step HB9.out)
          replace HF := Lib.hid (HF.out.trans (HB9.out.mono (by omega)))
          clear HB9
          generalize hW9 : (((w6.alloc (.cells #[.string up] 9)).alloc (.cells #[.pointer (some ⟨g, 0, none⟩), .pointer (some ⟨g2, 0, none⟩)] 67)).alloc (.cells #[.slice (some ⟨w6.heap.size, 0, none⟩) 1 1, .slice none 0 0, .slice (some ⟨w6.heap.size + 1, 0, none⟩) 2 2] 73)) = w7 at *
          clear hW9
          have HLY := Lib.hid (lay_any (fun b => _ ∧ b < w7.heap.size) (w6.heap.size + 1 + 1) (.mk [up] [] [l, r]) w7 (HRN.out.mono (fun b hb h => ⟨h, hb⟩)) (fun b h => h.2) (by simp only [szT_mk, szTs]; omega))
          clear HRN
          go_wp2_with fail
          refine HLY.out.mono ?_
          rintro e w8 ⟨A9, c9, rfl, hL9, hc9, hn9, hA9, hb9⟩
          clear HLY
          have hltz := hb9.size
          replace HX := Lib.hid (HX.out.step hb9)
          replace HF := Lib.hid (HF.out.trans (hb9.mono (by omega)))
          clear hb9
          have cHX0 := HX.out.c 0 _ rfl; have fHX0 := HX.out.f 0 (by simp); have cHX1 := HX.out.c 1 _ rfl; have fHX1 := HX.out.f 1 (by simp); have lHX := HX.out.lt
          go_wp2
          clear cHX0 fHX0 cHX1 fHX1 lHX
          have hX := HX.out
          have hF := HF.out
          obtain ⟨z0, z1, hst, hF9⟩ := st_end (x := (layT 0 (.mk [up] [] [l, r]), 0)) (A := A9) (c := c9) (m := (szT (.mk [up] [] [l, r]))) (layT_len 0 _).symm hX hF (fun B w'' hB hk => hL9 B w'' (fun k hk h => by have := hB k hk; rcases h with ⟨((h | h) | h) | h, _⟩ | h <;> omega) hk) (fun a ha => by have := hA9 a ha; omega) (by rw [layT_len]; exact hc9) hn9 _ rfl
          generalize ((w8.setCell ⟨w.heap.size + 1, 0, none⟩ (.slice A9 (szT (.mk [up] [] [l, r])) c9)).setCell ⟨w.heap.size + 1, 1, none⟩ (.int .i64 0)) = wz at *
          refine bodyPost_ret (by simp [results, Try.results9, go_sem, z0, z1]; rfl) rfl ?_
          exact ⟨_, rfl, hst, hF9⟩
        · have h5' : ¬ (4 : Int) < (t'.keys.length : Int) := by omega
          have htop : topT t' = t' := by unfold topT; rw [if_neg h5]
          have hRR : RR = ((layT 0 t', 0), 0) := by rw [HRR.out, htop]
          subst hRR
          have hrd := HTOP.out.rd
          have HLY := Lib.hid (lay_any (fun b => _ ∧ b < w5.heap.size) g t' w5 (hrd.mono (fun b hb h => ⟨h, hb⟩)) (fun b h => h.2) (by omega))
          clear HRR HTOP HSH htop hrd
          go_wp2_with fail
          refine HLY.out.mono ?_
          rintro e w8 ⟨A9, c9, rfl, hL9, hc9, hn9, hA9, hb9⟩
          clear HLY
          have hltz := hb9.size
          replace HX := Lib.hid (HX.out.step hb9)
          replace HF := Lib.hid (HF.out.trans (hb9.mono (by omega)))
          clear hb9
          have cHX0 := HX.out.c 0 _ rfl; have fHX0 := HX.out.f 0 (by simp); have cHX1 := HX.out.c 1 _ rfl; have fHX1 := HX.out.f 1 (by simp); have lHX := HX.out.lt
          go_wp2
          clear cHX0 fHX0 cHX1 fHX1 lHX
          have hX := HX.out
          have hF := HF.out
          obtain ⟨z0, z1, hst, hF9⟩ := st_end (x := (layT 0 t', 0)) (A := A9) (c := c9) (m := (szT t')) (layT_len 0 _).symm hX hF (fun B w'' hB hk => hL9 B w'' (fun k hk h => by have := hB k hk; rcases h with ⟨h | h, _⟩ | h <;> omega) hk) (fun a ha => by have := hA9 a ha; omega) (by rw [layT_len]; exact hc9) hn9 _ rfl
          generalize ((w8.setCell ⟨w.heap.size + 1, 0, none⟩ (.slice A9 (szT t') c9)).setCell ⟨w.heap.size + 1, 1, none⟩ (.int .i64 0)) = wz at *
          refine bodyPost_ret (by simp [results, Try.results9, go_sem, z0, z1]; rfl) rfl ?_
          exact ⟨_, rfl, hst, hF9⟩
end Go.Proofs.Ytkecbghnapjecaa
