/- Package btree: what makes nodes of a state. -/
import Derived.Test.YtkecbghnapjecaaCloneS
import Derived.Test.YtkecbghnapjecaaStage
import Derived.Test.YtkecbghnapjecaaInv
import Derived.Test.YtkecbghnapjecaaBtL
namespace Go.Proofs.Ytkecbghnapjecaa
open Go.RowKit
set_option linter.unusedVariables false
set_option linter.unusedSimpArgs false
theorem kept_less {N M : Nat} {B B' : Nat → Prop} {w w' : World} (h : Kept M B w w') (hN : N ≤ M) (hB : ∀ k, k < N → B k → B' k) : Kept N B' w w' := ⟨h.os, h.tape, h.output, h.size, fun k hk hb => h.block k (Nat.lt_of_lt_of_le hk hN) (fun b => hb (hB k hk b))⟩
theorem OwnP.below {P : Nat → Prop} {w w' : World} {e : TypeId} {v : Value} {n : Nat} {xs : List Value} (h : OwnP P w e v n xs) (hb : Below w.heap.size w w') : OwnP P w' e v n xs := h.kept (B := fun _ => False) (Kept.of_below hb (Nat.le_refl _)) (fun _ h => h.elim)
theorem kid_next {ks vs : List ByteArray} {ts : List Tr} {t : Tr} {X : Option (List Tr × Rd)} : (match X with | none => none | some (us, r2) => some (Tr.mk ks vs (ts ++ [t] ++ us), r2)) = (match (match X with | none => none | some (us, r2) => some (t :: us, r2)) with | none => none | some (us, r2) => some (Tr.mk ks vs (ts ++ us), r2)) := by
  cases X with
  | none => rfl
  | some u => simp
theorem pigeon : ∀ (n : Nat) (l : List Int), l.Nodup → (∀ x ∈ l, 0 ≤ x ∧ x < n) → l.length ≤ n
  | 0, l, _, h => by
    cases l with
    | nil => simp
    | cons x l => have := h x (by simp); omega
  | n + 1, l, hn, h => by
    by_cases hm : (n : Int) ∈ l
    · have h1 := pigeon n (l.erase n) (hn.erase _) (fun x hx => by
        have hx2 := (List.Nodup.mem_erase_iff hn).1 hx
        have := h x hx2.2
        have := hx2.1
        omega)
      rw [List.length_erase_of_mem hm] at h1
      omega
    · have h1 := pigeon n l hn (fun x hx => by
        have h2 := h x hx
        have : x ≠ (n : Int) := fun e => hm (e ▸ hx)
        omega)
      omega
structure NodesOk (w0 : World) (NA : Option Addr) (nc : Nat) (s : List Nd) : Prop where
  hs : NodesAt w0 NA s
  hk : ∀ n ∈ s, n.keys.length * 16 ≤ 140737488351232 ∧ n.vals.length * 16 ≤ 140737488351232 ∧ n.kids.length * 8 ≤ 140737488351232 ∧ ∀ x ∈ n.kids, InR x
  hn : s.length ≤ 140737488351232
structure NodeOk (w0 w : World) (rb mb : Nat) (NA : Option Addr) (nc : Nat) (root : Int) (s : List Nd) (f : Nat) (r : Rd) (level a : Int) (p q : Value) (lo hi : Option ByteArray) : Prop where
  hb : Below w0.heap.size w0 w
  hrb : w0.heap.size ≤ rb
  hmb : w0.heap.size ≤ mb
  hne : rb ≠ mb
  hR : Box w rb [.slice NA s.length nc, .int .i64 root, .map (some mb), .int .i64 r.leaf, .int .i64 r.pairs]
  hM : IntsAt w mb r.met
  hp : PS w0 p lo
  hq : PS w0 q hi
  nd : r.met.Nodup
  inr : ∀ x ∈ r.met, 0 ≤ x ∧ x < s.length
  fuel : s.length < f + r.met.length
  ha : InR a
  lv : 1 ≤ level ∧ level ≤ r.met.length + 1
  pr : 0 ≤ r.pairs ∧ r.pairs ≤ 2048
def nodePost (w : World) (rb mb : Nat) (NA : Option Addr) (nc : Nat) (root : Int) (s : List Nd) : Option (Tr × Rd) → Ending → World → Prop
  | none, e, w' => e = .panicked (pan 9) ∧ Kept w.heap.size (fun k => k = rb ∨ k = mb) w w'
  | some (t, r), e, w' => ∃ g, e = .returned (.pointer (some ⟨g, 0, none⟩)) ∧ TrAt w' (fun b => w.heap.size ≤ b) g t ∧ Box w' rb [.slice NA s.length nc, .int .i64 root, .map (some mb), .int .i64 r.leaf, .int .i64 r.pairs] ∧ IntsAt w' mb r.met ∧ Kept w.heap.size (fun k => k = rb ∨ k = mb) w w'
def NodeGo (w0 : World) (NA : Option Addr) (nc : Nat) (root : Int) (s : List Nd) (f : Nat) : Prop :=
  ∀ (w : World) (rb mb : Nat) (r : Rd) (level a : Int) (p q : Value) (lo hi : Option ByteArray), NodeOk w0 w rb mb NA nc root s f r level a p q lo hi →
    Calls Try.prog 43 #[.pointer (some ⟨rb, 0, none⟩), .int .i64 a, .int .i64 level, p, q] w fun e w' => nodePost w rb mb NA nc root s (nodeS s f r level a lo hi) e w'
theorem node_zero (w0 : World) (NA : Option Addr) (nc : Nat) (root : Int) (s : List Nd) : NodeGo w0 NA nc root s 0 := fun w rb mb r level a p q lo hi h => by
  have := pigeon s.length r.met h.nd h.inr
  have := h.fuel
  omega
set_option maxHeartbeats 1000000 in
set_option maxRecDepth 100000 in
theorem node_bad (w0 : World) (NA : Option Addr) (nc : Nat) (root : Int) (s : List Nd) (f : Nat) (hN : NodesOk w0 NA nc s) (w : World) (rb mb : Nat) (r : Rd) (level a : Int) (p q : Value) (lo hi : Option ByteArray) (h : NodeOk w0 w rb mb NA nc root s f r level a p q lo hi)
    (hv : ¬ (0 ≤ a ∧ a < s.length ∧ r.met.contains a = false)) :
    Calls Try.prog 43 #[.pointer (some ⟨rb, 0, none⟩), .int .i64 a, .int .i64 level, p, q] w fun e w' => e = .panicked (pan 9) ∧ Kept w.heap.size (fun k => k = rb ∨ k = mb) w w' := by
  have hlk := h.hM.look h.ha
  have HR := Lib.hid h.hR
  have hKR := Kept.refl w.heap.size (fun k => k = rb ∨ k = mb) w
  have HK := Lib.hid hKR
  clear hKR h hN
  go_enter Try.func43, Try.ntmps43
  have cHR0 := HR.out.c 0 _ rfl; have fHR0 := HR.out.f 0 (by simp); have cHR1 := HR.out.c 1 _ rfl; have fHR1 := HR.out.f 1 (by simp); have cHR2 := HR.out.c 2 _ rfl; have fHR2 := HR.out.f 2 (by simp); have cHR3 := HR.out.c 3 _ rfl; have fHR3 := HR.out.f 3 (by simp); have cHR4 := HR.out.c 4 _ rfl; have fHR4 := HR.out.f 4 (by simp); have lHR := HR.out.lt
  by_cases h0 : 0 ≤ a
  · by_cases h1 : a < s.length
    · have h2 : r.met.contains a = true := by
        cases q : r.met.contains a with
        | true => rfl
        | false => exact absurd ⟨h0, h1, q⟩ hv
      rw [h2] at hlk
      clear hv h2
      go_wp2_with (go_at_call 42; first | ((with_reducible refine (need_false _ _).mono ?_); rintro e w' ⟨rfl, rfl⟩) | ((with_reducible refine (need_true _ _).mono ?_); rintro e w' ⟨rfl, rfl⟩))
      exact ⟨rfl, rfl, HK.out⟩
    · clear hv
      go_wp2_with (go_at_call 42; first | ((with_reducible refine (need_false _ _).mono ?_); rintro e w' ⟨rfl, rfl⟩) | ((with_reducible refine (need_true _ _).mono ?_); rintro e w' ⟨rfl, rfl⟩))
      exact ⟨rfl, rfl, HK.out⟩
  · clear hv
    go_wp2_with (go_at_call 42; first | ((with_reducible refine (need_false _ _).mono ?_); rintro e w' ⟨rfl, rfl⟩) | ((with_reducible refine (need_true _ _).mono ?_); rintro e w' ⟨rfl, rfl⟩))
    exact ⟨rfl, rfl, HK.out⟩
/-- What follows where the node is one. -/
def restS (s : List Nd) (f : Nat) (r : Rd) (level a : Int) (lo hi : Option ByteArray) (n : Nd) : Option (Tr × Rd) :=
  if (decide (fewS level ≤ n.keys.length ∧ n.keys.length ≤ 4) && withinB lo hi none n.keys) = false then none
  else if n.kids = [] then
    if n.vals.length = n.keys.length ∧ (r.leaf = 0 ∨ r.leaf = level) ∧ r.pairs + n.keys.length ≤ 2048 then some (.mk n.keys n.vals [], ⟨a :: r.met, level, r.pairs + n.keys.length⟩) else none
  else if n.vals.length = 0 ∧ n.kids.length = n.keys.length + 1 then
    match kidsS (fun r k lo hi => nodeS s f r (level + 1) k lo hi) n.keys lo hi 0 n.kids ⟨a :: r.met, r.leaf, r.pairs⟩ with
    | none => none
    | some (ts, r2) => some (.mk n.keys n.vals ts, r2)
  else none
set_option maxHeartbeats 1000000 in
set_option maxRecDepth 100000 in
theorem node_step (w0 : World) (NA : Option Addr) (nc : Nat) (root : Int) (s : List Nd) (f : Nat) (hN : NodesOk w0 NA nc s) (IH : NodeGo w0 NA nc root s f) : NodeGo w0 NA nc root s (f + 1) := by
  intro w rb mb r level a p q lo hi h
  by_cases hv : 0 ≤ a ∧ a < s.length ∧ r.met.contains a = false
  · obtain ⟨h0, h1, h2⟩ := hv
    obtain ⟨n, hn⟩ : ∃ n, s[a.toNat]? = some n := ⟨_, List.getElem?_eq_getElem (by omega)⟩
    have hS : nodeS s (f + 1) r level a lo hi = restS s f r level a lo hi n := by
      show (match (if 0 ≤ a ∧ a < s.length ∧ r.met.contains a = false then s[a.toNat]? else none) with | none => none | some n => _) = _
      rw [if_pos ⟨h0, h1, h2⟩, hn]
      rfl
    rw [hS]
    clear hS
    obtain ⟨bN, oN, cs, rfl, hbN, ⟨KA, kc, VA, vc, IA, ic, rfl, hK, hV, hI, hk0, hv0, hi0, hkc, hvc, hic⟩, hcN⟩ := hN.hs a.toNat n hn
    obtain ⟨hzk, hzv, hzi, hzr⟩ := hN.hk n (List.mem_of_getElem? hn)
    have hml : r.met.length ≤ s.length := pigeon s.length r.met h.nd h.inr
    have hns := hN.hn
    have HX : Hid (∀ W, Below w0.heap.size w0 W → W.cell? ⟨bN, oN + a.toNat * 3, none⟩ = some (.slice KA n.keys.length kc) ∧ W.cell? ⟨bN, oN + a.toNat * 3 + 1, none⟩ = some (.slice VA n.vals.length vc) ∧ W.cell? ⟨bN, oN + a.toNat * 3 + 2, none⟩ = some (.slice IA n.kids.length ic)) :=
      Lib.hid (fun W hW => ⟨(hW.cell (p := ⟨bN, _, none⟩) hbN).trans (hcN 0 _ rfl), (hW.cell (p := ⟨bN, _, none⟩) hbN).trans (hcN 1 _ rfl), (hW.cell (p := ⟨bN, _, none⟩) hbN).trans (hcN 2 _ rfl)⟩)
    clear hcN hn
    have hlk := h.hM.look h.ha
    rw [h2] at hlk
    have HNM := Lib.hid h2
    have HR := Lib.hid h.hR
    have HB := Lib.hid h.hb
    have HM := Lib.hid h.hM
    have HH := Lib.hid h
    have hKR := Kept.refl w.heap.size (fun k => k = rb ∨ k = mb) w
    have HK := Lib.hid hKR
    clear hKR
    obtain ⟨RS, hRS⟩ : ∃ RS, restS s f r level a lo hi n = RS := ⟨_, rfl⟩
    rw [hRS]
    have HRS := Lib.hid hRS
    clear hRS
    obtain ⟨n5, D5, hn5, ho5, hT5, hA5, hH5, hS5⟩ := h.hM
    have ha := h.ha
    have hrmb := h.hne
    have HO5 := Lib.hid ho5
    have HP5 := Lib.hid (fun (W : World) => IntsAt.put (w' := W) (b := mb) hn5 hT5 hA5 hH5 hS5 h2)
    have hn5m : n5 < maxLen := by simp only [maxLen]; omega
    clear h ho5 hT5 hA5 hH5 hS5 h2
    go_enter Try.func43, Try.ntmps43
    have cHR0 := HR.out.c 0 _ rfl; have fHR0 := HR.out.f 0 (by simp); have cHR1 := HR.out.c 1 _ rfl; have fHR1 := HR.out.f 1 (by simp); have cHR2 := HR.out.c 2 _ rfl; have fHR2 := HR.out.f 2 (by simp); have cHR3 := HR.out.c 3 _ rfl; have fHR3 := HR.out.f 3 (by simp); have cHR4 := HR.out.c 4 _ rfl; have fHR4 := HR.out.f 4 (by simp); have lHR := HR.out.lt
    go_upto_region 2 with (go_at_call 42; first | ((with_reducible refine (need_false _ _).mono ?_); rintro e w' ⟨rfl, rfl⟩) | ((with_reducible refine (need_true _ _).mono ?_); rintro e w' ⟨rfl, rfl⟩))
    clear hlk
    have hN0 : w0.heap.size ≤ w.heap.size := HB.out.size
    have hrb0 := HH.out.hrb
    have hmb0 := HH.out.hmb
    go_upto_region 4 with (at_mapUpdate; refine wpList_mapUpdate_own (H := Unit) _ rfl _ _ _ 95 rfl 3 4 (Maps.int_keyed Try.underlying3) Try.underlying95 (plainElem Try.prog 4) mb n5 D5 rfl HO5.out hn5m _ _ (.int .i64 a) rfl rfl (key_int ha) (.lit (.bool true)) [] (plainElem_bool Try.underlying4 true) ?_; intro w1 hown1 hgrow1; clear cHR0 fHR0 cHR1 fHR1 cHR2 fHR2 cHR3 fHR3 cHR4 fHR4 lHR; replace HK := Lib.hid (HK.out.grown hgrow1 (Nat.le_refl _) (fun k hk => .inr (.inr (Option.some.inj hk).symm))); replace HB := Lib.hid (HB.out.trans (HK.out.to_below hN0 (fun k hk => by rcases hk with rfl | rfl <;> assumption))); replace HR := Lib.hid (HR.out.grown hgrow1 (fun e => hrmb (Option.some.inj e))); have HM1 := Lib.hid (HP5.out w1 hown1); obtain ⟨x0, x1, x2⟩ := HX.out w1 HB.out; have hs1 := HK.out.size; clear hown1 hgrow1 HP5 HO5 HM; have cHR0 := HR.out.c 0 _ rfl; have fHR0 := HR.out.f 0 (by simp); have cHR1 := HR.out.c 1 _ rfl; have fHR1 := HR.out.f 1 (by simp); have cHR2 := HR.out.c 2 _ rfl; have fHR2 := HR.out.f 2 (by simp); have cHR3 := HR.out.c 3 _ rfl; have fHR3 := HR.out.f 3 (by simp); have cHR4 := HR.out.c 4 _ rfl; have fHR4 := HR.out.f 4 (by simp); have lHR := HR.out.lt)
    clear cHR0 fHR0 cHR1 fHR1 cHR2 fHR2 cHR3 fHR3 cHR4 fHR4 lHR
    clear x0 x1 x2 ha
    have HNB := Lib.hid (Box.new w1 #[.slice KA n.keys.length kc, .slice VA n.vals.length vc, .slice IA n.kids.length ic] 66)
    replace HK := Lib.hid (HK.out.alloc hs1 (.cells #[.slice KA n.keys.length kc, .slice VA n.vals.length vc, .slice IA n.kids.length ic] 66))
    replace HB := Lib.hid (HB.out.alloc HB.out.size (.cells #[.slice KA n.keys.length kc, .slice VA n.vals.length vc, .slice IA n.kids.length ic] 66))
    replace HR := Lib.hid (HR.out.alloc (.cells #[.slice KA n.keys.length kc, .slice VA n.vals.length vc, .slice IA n.kids.length ic] 66))
    have hM2 := HM1.out.below ((Below.refl _ _).alloc (Nat.le_refl _) (.cells #[.slice KA n.keys.length kc, .slice VA n.vals.length vc, .slice IA n.kids.length ic] 66))
    have HM := Lib.hid hM2
    have hgn : w.heap.size ≤ w1.heap.size := hs1
    clear hM2 HM1
    generalize w1.alloc (.cells #[.slice KA n.keys.length kc, .slice VA n.vals.length vc, .slice IA n.kids.length ic] 66) = w2 at *
    generalize w1.heap.size = gn at *
    go_cut [12] (fun v wx => v = .int .i64 2 ∧ wx = w2)
    case first =>
      go_wp2_with fail
      go_meet
      exact ⟨rfl, rfl⟩
    obtain ⟨rfl, hw⟩ := hcut
    subst hw
    generalize wc = w3 at *
    rename_i Kz az
    refine az _ _ ?_
    clear az
    apply wp_seq_k
    intro _ _
    go_cut [12] (fun v wx => v = .int .i64 (fewS level) ∧ wx = w3)
    case first =>
      have hf1 : level = 1 → fewS level = 1 := fun e => by unfold fewS; rw [if_pos e]
      have hf2 : level ≠ 1 → fewS level = 2 := fun e => by unfold fewS; rw [if_neg e]
      have HF1 := Lib.hid hf1
      have HF2 := Lib.hid hf2
      clear hf1 hf2 HK HB HR HM HNB HRS
      by_cases hl1 : level = 1
      · go_wp2_with fail
        go_meet
        exact ⟨by rw [HF1.out hl1]; rfl, rfl⟩
      · go_wp2_with fail
        go_meet
        exact ⟨by rw [HF2.out hl1]; rfl, rfl⟩
    obtain ⟨rfl, hw⟩ := hcut
    subst hw
    generalize wc = w4 at *
    go_upto_region 7 with (fail)
    have HWI := Lib.hid (fun W (hW : Below w0.heap.size w0 W) => within_any KA kc n.keys p q lo hi W (hK.below hW) (HH.out.hp.below hW) (HH.out.hq.below hW) (by omega))
    have hRS := HRS.out
    unfold restS at hRS
    obtain ⟨WB, hWB⟩ : ∃ WB, withinB lo hi none n.keys = WB := ⟨_, rfl⟩
    rw [hWB] at hRS HWI
    clear hWB HRS
    have hwi := HWI.out w4 HB.out
    clear HWI
    by_cases g1 : fewS level ≤ n.keys.length
    · by_cases g2 : n.keys.length ≤ 4
      · have hd : decide (fewS level ≤ n.keys.length ∧ n.keys.length ≤ 4) = true := by simpa using And.intro g1 g2
        rw [hd, Bool.true_and] at hRS
        clear hd
        have g1' : (fewS level : Int) ≤ (n.keys.length : Int) := by omega
        have g2' : (n.keys.length : Int) ≤ 4 := by omega
        cases WB
        · rw [if_pos rfl] at hRS
          subst hRS
          have cHNB0 := HNB.out.c 0 _ rfl; have fHNB0 := HNB.out.f 0 (by simp); have cHNB1 := HNB.out.c 1 _ rfl; have fHNB1 := HNB.out.f 1 (by simp); have cHNB2 := HNB.out.c 2 _ rfl; have fHNB2 := HNB.out.f 2 (by simp); have lHNB := HNB.out.lt
          go_wp2_with (first | (go_at_call 42; first | ((with_reducible refine (need_false _ _).mono ?_); rintro e w' ⟨rfl, rfl⟩) | ((with_reducible refine (need_true _ _).mono ?_); rintro e w' ⟨rfl, rfl⟩)) | (go_at_call 57; (with_reducible refine hwi.mono ?_); rintro e w' ⟨rfl, rfl⟩))
          exact ⟨rfl, rfl, HK.out⟩
        · rw [if_neg (by simp)] at hRS
          have HRS := Lib.hid hRS
          have HG1 : Hid (1 ≤ n.keys.length) := Lib.hid (by have h1f : 1 ≤ fewS level := by (unfold fewS; split <;> decide)
                                                            omega)
          clear hRS g1
          have cHNB0 := HNB.out.c 0 _ rfl; have fHNB0 := HNB.out.f 0 (by simp); have cHNB1 := HNB.out.c 1 _ rfl; have fHNB1 := HNB.out.f 1 (by simp); have cHNB2 := HNB.out.c 2 _ rfl; have fHNB2 := HNB.out.f 2 (by simp); have lHNB := HNB.out.lt
          go_upto_region 8 with (first | (go_at_call 42; first | ((with_reducible refine (need_false _ _).mono ?_); rintro e w' ⟨rfl, rfl⟩) | ((with_reducible refine (need_true _ _).mono ?_); rintro e w' ⟨rfl, rfl⟩)) | (go_at_call 57; (with_reducible refine hwi.mono ?_); rintro e w' ⟨rfl, rfl⟩))
          clear cHNB0 fHNB0 cHNB1 fHNB1 cHNB2 fHNB2 lHNB
          clear g1' hwi
          have HC1 := Lib.hid (fun W (hW : Below w0.heap.size w0 W) => cloneS_own KA kc n.keys W (hK.below hW) hk0 (by omega))
          have HC2 := Lib.hid (fun W (hW : Below w0.heap.size w0 W) => cloneS_own VA vc n.vals W (hV.below hW) hv0 (by omega))
          have HKW := Lib.hid hK
          have HIW := Lib.hid hI
          clear hK hV hk0 hv0 hI
          go_cut [13] (fun v wx => ∃ g kv vv, v = .pointer (some ⟨g, 0, none⟩) ∧ Hid (Box wx g [kv, vv, .slice none 0 0]) ∧ Hid (wx.ownsRow w.heap.size 9 1 kv n.keys.length (n.keys.flatMap encS)) ∧ Hid (wx.ownsRow w.heap.size 9 1 vv n.vals.length (n.vals.flatMap encS)) ∧ w4.heap.size ≤ g ∧ Hid (kv.ownBlock ≠ some g ∧ vv.ownBlock ≠ some g ∧ ∀ b, kv.ownBlock = some b → vv.ownBlock ≠ some b) ∧ Hid (Below w4.heap.size w4 wx))
          case first =>
            have HB4 : Hid (Below w0.heap.size w0 w4.drew) := Lib.hid (below_drewN HB.out 1)
            have hsw : w.heap.size ≤ w4.heap.size := HK.out.size
            clear HK HR HM HB HRS HX HH
            have cHNB0 := HNB.out.c 0 _ rfl; have fHNB0 := HNB.out.f 0 (by simp); have cHNB1 := HNB.out.c 1 _ rfl; have fHNB1 := HNB.out.f 1 (by simp); have cHNB2 := HNB.out.c 2 _ rfl; have fHNB2 := HNB.out.f 2 (by simp); have lHNB := HNB.out.lt
            go_region_law (go_simp; go_wp2_with (first
              | (go_at_call 49; (with_reducible refine (HC1.out w4.drew HB4.out).mono ?_); rintro e w5 ⟨kv, rfl, hkv, h5⟩; obtain ⟨A1, c1, rfl, _, _⟩ := own_slice hkv; have HKV := Lib.hid hkv; have HB5 := Lib.hid (below_step' HB4.out h5); have H5 := Lib.hid h5; clear cHNB0 fHNB0 cHNB1 fHNB1 cHNB2 fHNB2 lHNB; replace HNB := Lib.hid (HNB.out.drew.step h5); clear hkv h5 HC1; have cHNB0 := HNB.out.c 0 _ rfl; have fHNB0 := HNB.out.f 0 (by simp); have cHNB1 := HNB.out.c 1 _ rfl; have fHNB1 := HNB.out.f 1 (by simp); have cHNB2 := HNB.out.c 2 _ rfl; have fHNB2 := HNB.out.f 2 (by simp); have lHNB := HNB.out.lt)
              | (go_at_call 49; (with_reducible refine (HC2.out w5 HB5.out).mono ?_); rintro e w6 ⟨vv, rfl, hvv, h6⟩; obtain ⟨A2, c2, rfl, _, _⟩ := own_slice hvv; have HVV := Lib.hid hvv; have H6 := Lib.hid h6; clear hvv h6 HC2)))
            all_goals
              go_wp2_with fail
              go_meet
              have hs5 : w4.heap.size ≤ w5.heap.size := H5.out.size
              have hs6 := H6.out.size
              refine ⟨w6.heap.size, _, _, rfl, Lib.hid (Box.new _ _ _), Lib.hid (own_base ((own_below HKV.out H6.out).alloc _) hsw), Lib.hid (own_base (HVV.out.alloc _) (Nat.le_trans hsw hs5)), by omega, Lib.hid ⟨fun e => ?_, fun e => ?_, fun b h1 h2 => ?_⟩, Lib.hid ((below_step' (below_step' (below_drewN (Below.refl _ w4) 1) H5.out) H6.out).alloc (by omega) _)⟩
              · have := (HKV.out.lt _ e).2; omega
              · have := (HVV.out.lt _ e).2; omega
              · have := (HKV.out.lt _ h1).2; have := (HVV.out.lt _ h2).1; omega
          obtain ⟨g, kv, vv, rfl, HG, HKV, HVV, hg4, HDJ, HB4⟩ := hcut
          clear HC1 HC2
          have hgng : gn < g := by have := HNB.out.lt; omega
          have hgw : w.heap.size ≤ g := Nat.le_trans HK.out.size hg4
          have hM5 := HM.out.below HB4.out
          replace HM := Lib.hid hM5
          clear hM5
          have hK5 := HK.out.trans (Kept.of_below HB4.out HK.out.size)
          replace HK := Lib.hid hK5
          clear hK5
          generalize wc = w5 at *
          have h4 := HB4.out
          replace HR := Lib.hid (HR.out.below h4 HR.out.lt); replace HNB := Lib.hid (HNB.out.below h4 HNB.out.lt); replace HB := Lib.hid (below_step' HB.out h4)
          clear h4 HB4
          by_cases hki : n.kids = []
          · rw [if_pos hki] at HRS
            have hkz : n.kids.length = 0 := by rw [hki]; rfl
            have hkz2 : (n.kids.length : Int) = 0 := by omega
            by_cases c1 : n.vals.length = n.keys.length
            · have c1' : ((n.vals.length : Int) == (n.keys.length : Int)) = true := by rw [c1]; simp
              cases l0 : (r.leaf == 0)
              · cases l1 : (r.leaf == level)
                · have hRS : RS = none := by
                    rw [← HRS.out, if_neg]
                    rintro ⟨_, h | h, _⟩
                    · rw [h] at l0; cases l0
                    · rw [h, beq_self_eq_true] at l1; cases l1
                  subst hRS
                  clear HRS
                  have cHR0 := HR.out.c 0 _ rfl; have fHR0 := HR.out.f 0 (by simp); have cHR1 := HR.out.c 1 _ rfl; have fHR1 := HR.out.f 1 (by simp); have cHR2 := HR.out.c 2 _ rfl; have fHR2 := HR.out.f 2 (by simp); have cHR3 := HR.out.c 3 _ rfl; have fHR3 := HR.out.f 3 (by simp); have cHR4 := HR.out.c 4 _ rfl; have fHR4 := HR.out.f 4 (by simp); have lHR := HR.out.lt; have cHNB0 := HNB.out.c 0 _ rfl; have fHNB0 := HNB.out.f 0 (by simp); have cHNB1 := HNB.out.c 1 _ rfl; have fHNB1 := HNB.out.f 1 (by simp); have cHNB2 := HNB.out.c 2 _ rfl; have fHNB2 := HNB.out.f 2 (by simp); have lHNB := HNB.out.lt
                  go_wp2_with (go_at_call 42; first | ((with_reducible refine (need_false _ _).mono ?_); rintro e w' ⟨rfl, rfl⟩) | ((with_reducible refine (need_true _ _).mono ?_); rintro e w' ⟨rfl, rfl⟩))
                  exact ⟨rfl, rfl, HK.out⟩
                · have hlf : r.leaf = 0 ∨ r.leaf = level := .inr (by simpa using l1)
                  have HLF := Lib.hid hlf
                  clear hlf
                  have cHR0 := HR.out.c 0 _ rfl; have fHR0 := HR.out.f 0 (by simp); have cHR1 := HR.out.c 1 _ rfl; have fHR1 := HR.out.f 1 (by simp); have cHR2 := HR.out.c 2 _ rfl; have fHR2 := HR.out.f 2 (by simp); have cHR3 := HR.out.c 3 _ rfl; have fHR3 := HR.out.f 3 (by simp); have cHR4 := HR.out.c 4 _ rfl; have fHR4 := HR.out.f 4 (by simp); have lHR := HR.out.lt; have cHNB0 := HNB.out.c 0 _ rfl; have fHNB0 := HNB.out.f 0 (by simp); have cHNB1 := HNB.out.c 1 _ rfl; have fHNB1 := HNB.out.f 1 (by simp); have cHNB2 := HNB.out.c 2 _ rfl; have fHNB2 := HNB.out.f 2 (by simp); have lHNB := HNB.out.lt
                  go_upto_region 12 with (go_at_call 42; first | ((with_reducible refine (need_false _ _).mono ?_); rintro e w' ⟨rfl, rfl⟩) | ((with_reducible refine (need_true _ _).mono ?_); rintro e w' ⟨rfl, rfl⟩))
                  clear cHR0 fHR0 cHR1 fHR1 cHR2 fHR2 cHR3 fHR3 cHR4 fHR4 lHR; clear cHNB0 fHNB0 cHNB1 fHNB1 cHNB2 fHNB2 lHNB
                  have hrl : rb < w.heap.size := HH.out.hR.lt
                  have hgn2 : ¬ rb = gn := by omega
                  have hg2 : ¬ rb = g := by omega
                  have hpr := HH.out.pr
                  have hpr1 := hpr.1
                  have hpr2 := hpr.2
                  have hR6 := HR.out.set 3 (.int .i64 level) (by simp)
                  have HR6 : Hid (Box _ rb [.slice (some ⟨bN, oN, none⟩) s.length nc, .int .i64 root, .map (some mb), .int .i64 level, .int .i64 r.pairs]) := Lib.hid hR6
                  have HN6 := Lib.hid (HNB.out.other ⟨rb, 3, none⟩ (.int .i64 level) hgn2)
                  have HG6 := Lib.hid (HG.out.other ⟨rb, 3, none⟩ (.int .i64 level) hg2)
                  have HKV6 := Lib.hid (own_set HKV.out ⟨rb, 3, none⟩ (.int .i64 level) hrl)
                  have HVV6 := Lib.hid (own_set HVV.out ⟨rb, 3, none⟩ (.int .i64 level) hrl)
                  have HM6 := Lib.hid (HM.out.grown (grown_set w5 ⟨rb, 3, none⟩ (.int .i64 level)) (fun e => hrmb (Option.some.inj e).symm))
                  have HK6 := Lib.hid (HK.out.set ⟨rb, 3, none⟩ (.int .i64 level) (.inr (.inl rfl)))
                  clear hR6 hpr HR HNB HG HKV HVV HM HK HB
                  generalize w5.setCell ⟨rb, 3, none⟩ (.int .i64 level) = w6 at *
                  have cHR60 := HR6.out.c 0 _ rfl; have fHR60 := HR6.out.f 0 (by simp); have cHR61 := HR6.out.c 1 _ rfl; have fHR61 := HR6.out.f 1 (by simp); have cHR62 := HR6.out.c 2 _ rfl; have fHR62 := HR6.out.f 2 (by simp); have cHR63 := HR6.out.c 3 _ rfl; have fHR63 := HR6.out.f 3 (by simp); have cHR64 := HR6.out.c 4 _ rfl; have fHR64 := HR6.out.f 4 (by simp); have lHR6 := HR6.out.lt; have cHN60 := HN6.out.c 0 _ rfl; have fHN60 := HN6.out.f 0 (by simp); have cHN61 := HN6.out.c 1 _ rfl; have fHN61 := HN6.out.f 1 (by simp); have cHN62 := HN6.out.c 2 _ rfl; have fHN62 := HN6.out.f 2 (by simp); have lHN6 := HN6.out.lt
                  go_region
                  all_goals
                    go_upto_region 13 with (fail)
                    clear cHR60 fHR60 cHR61 fHR61 cHR62 fHR62 cHR63 fHR63 cHR64 fHR64 lHR6; clear cHN60 fHN60 cHN61 fHN61 cHN62 fHN62 lHN6
                    have hR7 := (HR6.out.set 4 (.int .i64 (r.pairs + n.keys.length)) (by simp)).drew
                    have HR7 : Hid (Box _ rb [.slice (some ⟨bN, oN, none⟩) s.length nc, .int .i64 root, .map (some mb), .int .i64 level, .int .i64 (r.pairs + n.keys.length)]) := Lib.hid hR7
                    have HG7 := Lib.hid (HG6.out.other ⟨rb, 4, none⟩ (.int .i64 (r.pairs + n.keys.length)) hg2).drew
                    have HKV7 := Lib.hid (own_set HKV6.out ⟨rb, 4, none⟩ (.int .i64 (r.pairs + n.keys.length)) hrl).drew
                    have HVV7 := Lib.hid (own_set HVV6.out ⟨rb, 4, none⟩ (.int .i64 (r.pairs + n.keys.length)) hrl).drew
                    have HM7 : Hid (IntsAt (w6.setCell ⟨rb, 4, none⟩ (.int .i64 (r.pairs + n.keys.length))).drew mb (a :: r.met)) := Lib.hid ((HM6.out.grown (grown_set w6 ⟨rb, 4, none⟩ (.int .i64 (r.pairs + n.keys.length))) (fun e => hrmb (Option.some.inj e).symm)).below (below_drewN (Below.refl _ _) 1))
                    have hK7 := HK6.out.set ⟨rb, 4, none⟩ (.int .i64 (r.pairs + n.keys.length)) (.inr (.inl rfl))
                    have HK7 : Hid (Kept w.heap.size (fun k => k = rb ∨ k = mb) w (w6.setCell ⟨rb, 4, none⟩ (.int .i64 (r.pairs + n.keys.length))).drew) := Lib.hid (hK7.trans (Kept.of_below (below_drewN (Below.refl _ _) 1) hK7.size))
                    clear hR7 hK7 HR6 HN6 HG6 HKV6 HVV6 HM6 HK6
                    generalize (w6.setCell ⟨rb, 4, none⟩ (.int .i64 (r.pairs + n.keys.length))).drew = w7 at *
                    by_cases c5 : r.pairs + n.keys.length ≤ 2048
                    · have hRS : RS = some (.mk n.keys n.vals [], ⟨a :: r.met, level, r.pairs + n.keys.length⟩) := by rw [← HRS.out, if_pos ⟨c1, HLF.out, c5⟩]
                      subst hRS
                      clear HRS
                      have cHR70 := HR7.out.c 0 _ rfl; have fHR70 := HR7.out.f 0 (by simp); have cHR71 := HR7.out.c 1 _ rfl; have fHR71 := HR7.out.f 1 (by simp); have cHR72 := HR7.out.c 2 _ rfl; have fHR72 := HR7.out.f 2 (by simp); have cHR73 := HR7.out.c 3 _ rfl; have fHR73 := HR7.out.f 3 (by simp); have cHR74 := HR7.out.c 4 _ rfl; have fHR74 := HR7.out.f 4 (by simp); have lHR7 := HR7.out.lt
                      go_wp2_with (go_at_call 42; first | ((with_reducible refine (need_false _ _).mono ?_); rintro e w' ⟨rfl, rfl⟩) | ((with_reducible refine (need_true _ _).mono ?_); rintro e w' ⟨rfl, rfl⟩))
                      go_ret
                      exact ⟨g, rfl, by unfold TrAt; exact ⟨kv, vv, .slice none 0 0, [], HG7.out, OwnP.of HKV7.out (fun b hb _ => hb), OwnP.of HVV7.out (fun b hb _ => hb), ⟨World.ownsRow_nil _ _ _ _, fun b hb => by simp [Value.ownBlock] at hb⟩, hgw, ⟨HDJ.out.1, HDJ.out.2.1, HDJ.out.2.2, by simp [Value.ownBlock], fun b h => by simp [Value.ownBlock] at h⟩, by unfold TrsAt; rfl⟩, HR7.out, HM7.out, HK7.out⟩
                    · have hRS : RS = none := by rw [← HRS.out, if_neg (fun h => c5 h.2.2)]
                      subst hRS
                      clear HRS
                      have cHR70 := HR7.out.c 0 _ rfl; have fHR70 := HR7.out.f 0 (by simp); have cHR71 := HR7.out.c 1 _ rfl; have fHR71 := HR7.out.f 1 (by simp); have cHR72 := HR7.out.c 2 _ rfl; have fHR72 := HR7.out.f 2 (by simp); have cHR73 := HR7.out.c 3 _ rfl; have fHR73 := HR7.out.f 3 (by simp); have cHR74 := HR7.out.c 4 _ rfl; have fHR74 := HR7.out.f 4 (by simp); have lHR7 := HR7.out.lt
                      go_wp2_with (go_at_call 42; first | ((with_reducible refine (need_false _ _).mono ?_); rintro e w' ⟨rfl, rfl⟩) | ((with_reducible refine (need_true _ _).mono ?_); rintro e w' ⟨rfl, rfl⟩))
                      exact ⟨rfl, rfl, HK7.out⟩
              · have hlf : r.leaf = 0 ∨ r.leaf = level := .inl (by simpa using l0)
                have HLF := Lib.hid hlf
                clear hlf
                have cHR0 := HR.out.c 0 _ rfl; have fHR0 := HR.out.f 0 (by simp); have cHR1 := HR.out.c 1 _ rfl; have fHR1 := HR.out.f 1 (by simp); have cHR2 := HR.out.c 2 _ rfl; have fHR2 := HR.out.f 2 (by simp); have cHR3 := HR.out.c 3 _ rfl; have fHR3 := HR.out.f 3 (by simp); have cHR4 := HR.out.c 4 _ rfl; have fHR4 := HR.out.f 4 (by simp); have lHR := HR.out.lt; have cHNB0 := HNB.out.c 0 _ rfl; have fHNB0 := HNB.out.f 0 (by simp); have cHNB1 := HNB.out.c 1 _ rfl; have fHNB1 := HNB.out.f 1 (by simp); have cHNB2 := HNB.out.c 2 _ rfl; have fHNB2 := HNB.out.f 2 (by simp); have lHNB := HNB.out.lt
                go_upto_region 12 with (go_at_call 42; first | ((with_reducible refine (need_false _ _).mono ?_); rintro e w' ⟨rfl, rfl⟩) | ((with_reducible refine (need_true _ _).mono ?_); rintro e w' ⟨rfl, rfl⟩))
                clear cHR0 fHR0 cHR1 fHR1 cHR2 fHR2 cHR3 fHR3 cHR4 fHR4 lHR; clear cHNB0 fHNB0 cHNB1 fHNB1 cHNB2 fHNB2 lHNB
                have hrl : rb < w.heap.size := HH.out.hR.lt
                have hgn2 : ¬ rb = gn := by omega
                have hg2 : ¬ rb = g := by omega
                have hpr := HH.out.pr
                have hpr1 := hpr.1
                have hpr2 := hpr.2
                have hR6 := HR.out.set 3 (.int .i64 level) (by simp)
                have HR6 : Hid (Box _ rb [.slice (some ⟨bN, oN, none⟩) s.length nc, .int .i64 root, .map (some mb), .int .i64 level, .int .i64 r.pairs]) := Lib.hid hR6
                have HN6 := Lib.hid (HNB.out.other ⟨rb, 3, none⟩ (.int .i64 level) hgn2)
                have HG6 := Lib.hid (HG.out.other ⟨rb, 3, none⟩ (.int .i64 level) hg2)
                have HKV6 := Lib.hid (own_set HKV.out ⟨rb, 3, none⟩ (.int .i64 level) hrl)
                have HVV6 := Lib.hid (own_set HVV.out ⟨rb, 3, none⟩ (.int .i64 level) hrl)
                have HM6 := Lib.hid (HM.out.grown (grown_set w5 ⟨rb, 3, none⟩ (.int .i64 level)) (fun e => hrmb (Option.some.inj e).symm))
                have HK6 := Lib.hid (HK.out.set ⟨rb, 3, none⟩ (.int .i64 level) (.inr (.inl rfl)))
                clear hR6 hpr HR HNB HG HKV HVV HM HK HB
                generalize w5.setCell ⟨rb, 3, none⟩ (.int .i64 level) = w6 at *
                have cHR60 := HR6.out.c 0 _ rfl; have fHR60 := HR6.out.f 0 (by simp); have cHR61 := HR6.out.c 1 _ rfl; have fHR61 := HR6.out.f 1 (by simp); have cHR62 := HR6.out.c 2 _ rfl; have fHR62 := HR6.out.f 2 (by simp); have cHR63 := HR6.out.c 3 _ rfl; have fHR63 := HR6.out.f 3 (by simp); have cHR64 := HR6.out.c 4 _ rfl; have fHR64 := HR6.out.f 4 (by simp); have lHR6 := HR6.out.lt; have cHN60 := HN6.out.c 0 _ rfl; have fHN60 := HN6.out.f 0 (by simp); have cHN61 := HN6.out.c 1 _ rfl; have fHN61 := HN6.out.f 1 (by simp); have cHN62 := HN6.out.c 2 _ rfl; have fHN62 := HN6.out.f 2 (by simp); have lHN6 := HN6.out.lt
                go_region
                all_goals
                  go_upto_region 13 with (fail)
                  clear cHR60 fHR60 cHR61 fHR61 cHR62 fHR62 cHR63 fHR63 cHR64 fHR64 lHR6; clear cHN60 fHN60 cHN61 fHN61 cHN62 fHN62 lHN6
                  have hR7 := (HR6.out.set 4 (.int .i64 (r.pairs + n.keys.length)) (by simp)).drew
                  have HR7 : Hid (Box _ rb [.slice (some ⟨bN, oN, none⟩) s.length nc, .int .i64 root, .map (some mb), .int .i64 level, .int .i64 (r.pairs + n.keys.length)]) := Lib.hid hR7
                  have HG7 := Lib.hid (HG6.out.other ⟨rb, 4, none⟩ (.int .i64 (r.pairs + n.keys.length)) hg2).drew
                  have HKV7 := Lib.hid (own_set HKV6.out ⟨rb, 4, none⟩ (.int .i64 (r.pairs + n.keys.length)) hrl).drew
                  have HVV7 := Lib.hid (own_set HVV6.out ⟨rb, 4, none⟩ (.int .i64 (r.pairs + n.keys.length)) hrl).drew
                  have HM7 : Hid (IntsAt (w6.setCell ⟨rb, 4, none⟩ (.int .i64 (r.pairs + n.keys.length))).drew mb (a :: r.met)) := Lib.hid ((HM6.out.grown (grown_set w6 ⟨rb, 4, none⟩ (.int .i64 (r.pairs + n.keys.length))) (fun e => hrmb (Option.some.inj e).symm)).below (below_drewN (Below.refl _ _) 1))
                  have hK7 := HK6.out.set ⟨rb, 4, none⟩ (.int .i64 (r.pairs + n.keys.length)) (.inr (.inl rfl))
                  have HK7 : Hid (Kept w.heap.size (fun k => k = rb ∨ k = mb) w (w6.setCell ⟨rb, 4, none⟩ (.int .i64 (r.pairs + n.keys.length))).drew) := Lib.hid (hK7.trans (Kept.of_below (below_drewN (Below.refl _ _) 1) hK7.size))
                  clear hR7 hK7 HR6 HN6 HG6 HKV6 HVV6 HM6 HK6
                  generalize (w6.setCell ⟨rb, 4, none⟩ (.int .i64 (r.pairs + n.keys.length))).drew = w7 at *
                  by_cases c5 : r.pairs + n.keys.length ≤ 2048
                  · have hRS : RS = some (.mk n.keys n.vals [], ⟨a :: r.met, level, r.pairs + n.keys.length⟩) := by rw [← HRS.out, if_pos ⟨c1, HLF.out, c5⟩]
                    subst hRS
                    clear HRS
                    have cHR70 := HR7.out.c 0 _ rfl; have fHR70 := HR7.out.f 0 (by simp); have cHR71 := HR7.out.c 1 _ rfl; have fHR71 := HR7.out.f 1 (by simp); have cHR72 := HR7.out.c 2 _ rfl; have fHR72 := HR7.out.f 2 (by simp); have cHR73 := HR7.out.c 3 _ rfl; have fHR73 := HR7.out.f 3 (by simp); have cHR74 := HR7.out.c 4 _ rfl; have fHR74 := HR7.out.f 4 (by simp); have lHR7 := HR7.out.lt
                    go_wp2_with (go_at_call 42; first | ((with_reducible refine (need_false _ _).mono ?_); rintro e w' ⟨rfl, rfl⟩) | ((with_reducible refine (need_true _ _).mono ?_); rintro e w' ⟨rfl, rfl⟩))
                    go_ret
                    exact ⟨g, rfl, by unfold TrAt; exact ⟨kv, vv, .slice none 0 0, [], HG7.out, OwnP.of HKV7.out (fun b hb _ => hb), OwnP.of HVV7.out (fun b hb _ => hb), ⟨World.ownsRow_nil _ _ _ _, fun b hb => by simp [Value.ownBlock] at hb⟩, hgw, ⟨HDJ.out.1, HDJ.out.2.1, HDJ.out.2.2, by simp [Value.ownBlock], fun b h => by simp [Value.ownBlock] at h⟩, by unfold TrsAt; rfl⟩, HR7.out, HM7.out, HK7.out⟩
                  · have hRS : RS = none := by rw [← HRS.out, if_neg (fun h => c5 h.2.2)]
                    subst hRS
                    clear HRS
                    have cHR70 := HR7.out.c 0 _ rfl; have fHR70 := HR7.out.f 0 (by simp); have cHR71 := HR7.out.c 1 _ rfl; have fHR71 := HR7.out.f 1 (by simp); have cHR72 := HR7.out.c 2 _ rfl; have fHR72 := HR7.out.f 2 (by simp); have cHR73 := HR7.out.c 3 _ rfl; have fHR73 := HR7.out.f 3 (by simp); have cHR74 := HR7.out.c 4 _ rfl; have fHR74 := HR7.out.f 4 (by simp); have lHR7 := HR7.out.lt
                    go_wp2_with (go_at_call 42; first | ((with_reducible refine (need_false _ _).mono ?_); rintro e w' ⟨rfl, rfl⟩) | ((with_reducible refine (need_true _ _).mono ?_); rintro e w' ⟨rfl, rfl⟩))
                    exact ⟨rfl, rfl, HK7.out⟩
            · have hRS : RS = none := by rw [← HRS.out, if_neg (fun h => c1 h.1)]
              subst hRS
              have c1' : ((n.vals.length : Int) == (n.keys.length : Int)) = false := by rw [beq_eq_false_iff_ne]; omega
              clear HRS
              have cHR0 := HR.out.c 0 _ rfl; have fHR0 := HR.out.f 0 (by simp); have cHR1 := HR.out.c 1 _ rfl; have fHR1 := HR.out.f 1 (by simp); have cHR2 := HR.out.c 2 _ rfl; have fHR2 := HR.out.f 2 (by simp); have cHR3 := HR.out.c 3 _ rfl; have fHR3 := HR.out.f 3 (by simp); have cHR4 := HR.out.c 4 _ rfl; have fHR4 := HR.out.f 4 (by simp); have lHR := HR.out.lt; have cHNB0 := HNB.out.c 0 _ rfl; have fHNB0 := HNB.out.f 0 (by simp); have cHNB1 := HNB.out.c 1 _ rfl; have fHNB1 := HNB.out.f 1 (by simp); have cHNB2 := HNB.out.c 2 _ rfl; have fHNB2 := HNB.out.f 2 (by simp); have lHNB := HNB.out.lt
              go_wp2_with (go_at_call 42; first | ((with_reducible refine (need_false _ _).mono ?_); rintro e w' ⟨rfl, rfl⟩) | ((with_reducible refine (need_true _ _).mono ?_); rintro e w' ⟨rfl, rfl⟩))
              exact ⟨rfl, rfl, HK.out⟩
          · rw [if_neg hki] at HRS
            have hkz2 : ((n.kids.length : Int) == 0) = false := by rw [beq_eq_false_iff_ne]; have := List.length_pos_iff.2 hki; omega
            clear hki
            by_cases c1 : n.vals.length = 0
            · have c1' : ((n.vals.length : Int) == 0) = true := by rw [c1]; rfl
              by_cases c2 : n.kids.length = n.keys.length + 1
              · have c2' : ((n.kids.length : Int) == (n.keys.length : Int) + 1) = true := by rw [c2]; simp
                rw [if_pos ⟨c1, c2⟩] at HRS
                have HC2 := Lib.hid c2
                have HC1 := Lib.hid c1
                clear c1 c2
                have cHR0 := HR.out.c 0 _ rfl; have fHR0 := HR.out.f 0 (by simp); have cHR1 := HR.out.c 1 _ rfl; have fHR1 := HR.out.f 1 (by simp); have cHR2 := HR.out.c 2 _ rfl; have fHR2 := HR.out.f 2 (by simp); have cHR3 := HR.out.c 3 _ rfl; have fHR3 := HR.out.f 3 (by simp); have cHR4 := HR.out.c 4 _ rfl; have fHR4 := HR.out.f 4 (by simp); have lHR := HR.out.lt; have cHNB0 := HNB.out.c 0 _ rfl; have fHNB0 := HNB.out.f 0 (by simp); have cHNB1 := HNB.out.c 1 _ rfl; have fHNB1 := HNB.out.f 1 (by simp); have cHNB2 := HNB.out.c 2 _ rfl; have fHNB2 := HNB.out.f 2 (by simp); have lHNB := HNB.out.lt
                go_upto_region 16 with (go_at_call 42; first | ((with_reducible refine (need_false _ _).mono ?_); rintro e w' ⟨rfl, rfl⟩) | ((with_reducible refine (need_true _ _).mono ?_); rintro e w' ⟨rfl, rfl⟩))
                clear c1' c2' hkz2
                go_wp2_with fail
                clear cHR0 fHR0 cHR1 fHR1 cHR2 fHR2 cHR3 fHR3 cHR4 fHR4 lHR; clear cHNB0 fHNB0 cHNB1 fHNB1 cHNB2 fHNB2 lHNB
                obtain ⟨NB, hNB⟩ : ∃ NB, w5.heap.size = NB := ⟨_, rfl⟩
                have hNBw : w.heap.size ≤ NB := by rw [← hNB]; exact HK.out.size
                have hgNB : g < NB := by rw [← hNB]; exact HG.out.lt
                have hrl : rb < w.heap.size := HH.out.hR.lt
                have hml2 : mb < w.heap.size := HH.out.hM.lt
                have HKP := Lib.hid (OwnP.of (P := fun b => w.heap.size ≤ b ∧ b < NB) HKV.out (fun b hb hl => ⟨hb, by rw [← hNB]; exact hl⟩))
                have HVP := Lib.hid (OwnP.of (P := fun b => w.heap.size ≤ b ∧ b < NB) HVV.out (fun b hb hl => ⟨hb, by rw [← hNB]; exact hl⟩))
                clear HKV HVV
                have hpr := HH.out.pr
                have HR1 : Hid ((r.met.length + 1 ≤ (a :: r.met).length) ∧ (a :: r.met).Nodup ∧ (∀ x ∈ a :: r.met, 0 ≤ x ∧ x < s.length) ∧ (0 ≤ r.pairs ∧ r.pairs ≤ 2048)) := Lib.hid ⟨by simp, List.nodup_cons.2 ⟨by have := HNM.out; simpa using this, HH.out.nd⟩, fun x hx => by
                  rcases List.mem_cons.1 hx with rfl | hx
                  · exact ⟨h0, h1⟩
                  · exact HH.out.inr x hx, hpr⟩
                clear hpr
                go_loopw [148] (fun i wr => ∃ (j : Nat) (r1 : Rd) (ts : List Tr) (ps : List Nat) (iv : Value), j ≤ n.kids.length ∧ i = .int .i64 j ∧ ps.length = j ∧ ts.length = j ∧
                  Hid ((match kidsS (fun r k lo hi => nodeS s f r (level + 1) k lo hi) n.keys lo hi j (n.kids.drop j) r1 with | none => none | some (us, r2) => some (Tr.mk n.keys n.vals (ts ++ us), r2)) = RS) ∧
                  Hid (Box wr rb [.slice (some ⟨bN, oN, none⟩) s.length nc, .int .i64 root, .map (some mb), .int .i64 r1.leaf, .int .i64 r1.pairs]) ∧ Hid (IntsAt wr mb r1.met) ∧ Hid (Box wr g [kv, vv, iv]) ∧ Hid (Box wr gn [.slice KA n.keys.length kc, .slice VA n.vals.length vc, .slice IA n.kids.length ic]) ∧
                  Hid (OwnP (fun b => w.heap.size ≤ b ∧ b < NB) wr 9 kv n.keys.length (n.keys.flatMap encS)) ∧ Hid (OwnP (fun b => w.heap.size ≤ b ∧ b < NB) wr 9 vv n.vals.length (n.vals.flatMap encS)) ∧
                  Hid (wr.ownsRow NB 67 1 iv j (ps.flatMap encN)) ∧ Hid (TrsAt wr (fun b => NB ≤ b ∧ iv.ownBlock ≠ some b) ps ts) ∧ Hid (Kept w.heap.size (fun k => k = rb ∨ k = mb) w wr) ∧ NB ≤ wr.heap.size ∧
                  Hid ((r.met.length + 1 ≤ r1.met.length) ∧ r1.met.Nodup ∧ (∀ x ∈ r1.met, 0 ≤ x ∧ x < s.length) ∧ (0 ≤ r1.pairs ∧ r1.pairs ≤ 2048))) (fun i _ => n.kids.length - (Lib.intOf i).toNat)
                case atStart => exact ⟨0, ⟨a :: r.met, r.leaf, r.pairs⟩, [], [], .slice none 0 0, Nat.zero_le _, rfl, rfl, rfl, Lib.hid HRS.out, HR, HM, HG, HNB, HKP, HVP, Lib.hid (World.ownsRow_nil _ _ _ _), Lib.hid (by unfold TrsAt; rfl), HK, Nat.le_of_eq hNB.symm, HR1⟩
                case round =>
                clear HR HM HG HNB HKP HVP HK HR1 HRS hNB
                obtain ⟨j, r1, ts, ps, iv, hj, rfl, hpl, htl, HRS, HR, HM, HG, HNB, HKP, HVP, HO, HTS, HK, hsz, HR1⟩ := hrel
                by_cases hlt : j < n.kids.length
                · obtain ⟨k, hkk⟩ : ∃ k, n.kids[j]? = some k := ⟨_, List.getElem?_eq_getElem hlt⟩
                  obtain ⟨k0, hk0⟩ : ∃ k0, n.keys[0]? = some k0 := ⟨_, List.getElem?_eq_getElem (by have := HG1.out; omega)⟩
                  have hBr := HH.out.hb.trans (HK.out.to_below hN0 (fun k hk => by rcases hk with rfl | rfl <;> assumption))
                  have HBr := Lib.hid hBr
                  obtain ⟨bI, oI, rfl, hbI, hcI⟩ := HIW.out j k hkk
                  obtain ⟨bK, oK, rfl, hbK, hcK⟩ := HKW.out 0 k0 hk0
                  have xk : wr.cell? ⟨bI, oI + j, none⟩ = some (.int .i64 k) := (hBr.cell (p := ⟨bI, _, none⟩) hbI).trans (by have := hcI j k hkk 0 _ rfl; simpa using this)
                  have HCK : Hid (∀ i x, n.keys[i]? = some x → w0.cell? ⟨bK, oK + i, none⟩ = some (.string x)) := Lib.hid (fun i x hi => by have := hcK i x hi 0 _ rfl; simpa using this)
                  clear hBr hcI hcK hk0
                  go_upto_region 19 with (fail)
                  clear xk
                  go_cut [16, 17] (fun v u wx => v = p ∧ u = q ∧ wx = wr)
                  case first =>
                    go_wp2_with fail
                    go_meet
                    exact ⟨rfl, rfl, rfl⟩
                  obtain ⟨e1, e2, hw⟩ := hcut
                  replace e1 := e1.symm
                  replace e2 := e2.symm
                  subst e1 e2 hw
                  generalize wc = wq at *
                  rename_i Kz az
                  refine az _ _ ?_
                  clear az
                  apply wp_seq_k
                  intro _ _
                  go_cut [16] (fun v wx => Hid (PS w0 v (if j = 0 then lo else n.keys[j - 1]?)) ∧ wx = wq)
                  case first =>
                    have HPp := Lib.hid HH.out.hp
                    clear HR HM HG HKP HVP HK HR1 HRS HTS HO HH
                    by_cases hj0 : j = 0
                    · have hj1 : ¬ (0 : Int) < (j : Int) := by omega
                      have HJ0 := Lib.hid hj0
                      clear hj0
                      go_wp2_with fail
                      go_meet
                      exact ⟨Lib.hid (by rw [if_pos HJ0.out]; exact HPp.out), rfl⟩
                    · obtain ⟨i, rfl⟩ : ∃ i, j = i + 1 := ⟨j - 1, by omega⟩
                      obtain ⟨ki, hki2⟩ : ∃ ki, n.keys[i]? = some ki := ⟨_, List.getElem?_eq_getElem (by have := HC2.out; omega)⟩
                      have HPI : Hid (PS w0 (.pointer (some ⟨bK, oK + i, none⟩)) (if i + 1 = 0 then lo else n.keys[i + 1 - 1]?)) := Lib.hid (by
                        rw [if_neg (by omega), Nat.add_sub_cancel, hki2]
                        exact ⟨_, rfl, hbK, HCK.out i ki hki2⟩)
                      have hil : i < n.keys.length := (List.getElem?_eq_some_iff.1 hki2).1
                      clear hki2 HPp
                      have cHNB0 := HNB.out.c 0 _ rfl; have fHNB0 := HNB.out.f 0 (by simp); have cHNB1 := HNB.out.c 1 _ rfl; have fHNB1 := HNB.out.f 1 (by simp); have cHNB2 := HNB.out.c 2 _ rfl; have fHNB2 := HNB.out.f 2 (by simp); have lHNB := HNB.out.lt
                      go_wp2_with fail
                      go_meet
                      exact ⟨HPI, rfl⟩
                  obtain ⟨HPa, hw⟩ := hcut
                  subst hw
                  generalize wc = wq at *
                  rename_i Kz az
                  refine az _ _ ?_
                  clear az
                  apply wp_seq_k
                  intro _ _
                  go_cut [17] (fun v wx => Hid (PS w0 v (if j < n.keys.length then n.keys[j]? else hi)) ∧ wx = wq)
                  case first =>
                    have HPp := Lib.hid HH.out.hq
                    clear HR HM HG HKP HVP HK HR1 HRS HTS HO HH
                    by_cases hj0 : j < n.keys.length
                    · obtain ⟨ki, hki2⟩ : ∃ ki, n.keys[j]? = some ki := ⟨_, List.getElem?_eq_getElem hj0⟩
                      have HPI : Hid (PS w0 (.pointer (some ⟨bK, oK + j, none⟩)) (if j < n.keys.length then n.keys[j]? else hi)) := Lib.hid (by
                        rw [if_pos hj0, hki2]
                        exact ⟨_, rfl, hbK, HCK.out j ki hki2⟩)
                      have hj1 : (j : Int) < (n.keys.length : Int) := by omega
                      clear hki2 HPp
                      have cHNB0 := HNB.out.c 0 _ rfl; have fHNB0 := HNB.out.f 0 (by simp); have cHNB1 := HNB.out.c 1 _ rfl; have fHNB1 := HNB.out.f 1 (by simp); have cHNB2 := HNB.out.c 2 _ rfl; have fHNB2 := HNB.out.f 2 (by simp); have lHNB := HNB.out.lt
                      go_wp2_with fail
                      go_meet
                      exact ⟨HPI, rfl⟩
                    · have hj1 : ¬ (j : Int) < (n.keys.length : Int) := by omega
                      have HJ0 := Lib.hid hj0
                      clear hj0
                      have cHNB0 := HNB.out.c 0 _ rfl; have fHNB0 := HNB.out.f 0 (by simp); have cHNB1 := HNB.out.c 1 _ rfl; have fHNB1 := HNB.out.f 1 (by simp); have cHNB2 := HNB.out.c 2 _ rfl; have fHNB2 := HNB.out.f 2 (by simp); have lHNB := HNB.out.lt
                      go_wp2_with fail
                      go_meet
                      exact ⟨Lib.hid (by rw [if_neg HJ0.out]; exact HPp.out), rfl⟩
                  obtain ⟨HPb, hw⟩ := hcut
                  subst hw
                  generalize wc = wq at *
                  have hrd : ∀ t r2, nodeS s f r1 (level + 1) k (if j = 0 then lo else n.keys[j - 1]?) (if j < n.keys.length then n.keys[j]? else hi) = some (t, r2) → RdOk s r2 ∧ r1.met.length + 1 ≤ r2.met.length := fun t r2 e => nodeS_ok s f r1 (level + 1) k _ _ t r2 ⟨HR1.out.2.1, HR1.out.2.2.1, HR1.out.2.2.2⟩ e
                  have hrs := HRS.out
                  rw [kidsS_at hkk] at hrs
                  have hlv := HH.out.lv
                  have hfu := HH.out.fuel
                  have hr11 := HR1.out.1
                  have hgo := fun W hB hR hM => IH W rb mb r1 (level + 1) k u16 u17 _ _ ⟨hB, hrb0, hmb0, hrmb, hR, hM, HPa.out, HPb.out, HR1.out.2.1, HR1.out.2.2.1, by omega, hzr k (List.mem_of_getElem? hkk), by omega, HR1.out.2.2.2⟩
                  have hwr : IntKind.i64.wrap (level + 1) = level + 1 := by rw [IntKind.wrap_i64]; omega
                  clear HPa HPb
                  obtain ⟨i0, hti, hz0, hz1, hz2⟩ := info_parts (show (Try.prog.info? 67).map (fun i => (i.zero, i.size, i.bytes)) = some (some (.pointer none), 1, 8) by kernel_rfl)
                  generalize nodeS s f r1 (level + 1) k (if j = 0 then lo else n.keys[j - 1]?) (if j < n.keys.length then n.keys[j]? else hi) = RN at *
                  have HRD := Lib.hid hrd
                  clear HRS
                  have HRS := Lib.hid hrs
                  have HGO := Lib.hid hgo
                  clear hrd hrs hgo hlv hfu hr11
                  rename_i Kz az
                  refine az _ _ ?_
                  clear az
                  refine stage_begin (S := fun (L' : Array Bool) (w' : World) => (L'.getD 16 false = false → Box w' g [kv, vv, iv])) (by kernel_rfl) ?_
                  have hdr : Below wq.heap.size wq wq.drew := below_drewN (Below.refl _ _) 1
                  replace HR := Lib.hid HR.out.drew
                  replace HG := Lib.hid HG.out.drew
                  replace HNB := Lib.hid HNB.out.drew
                  replace HM := Lib.hid (HM.out.below hdr)
                  replace HKP := Lib.hid (HKP.out.below hdr)
                  replace HVP := Lib.hid (HVP.out.below hdr)
                  replace HO := Lib.hid HO.out.drew
                  replace HTS := Lib.hid (HTS.out.below hdr)
                  replace HK : Hid (Kept w.heap.size (fun k => k = rb ∨ k = mb) w wq.drew) := Lib.hid (HK.out.trans (Kept.of_below hdr HK.out.size))
                  replace HBr : Hid (Below w0.heap.size w0 wq.drew) := Lib.hid (HBr.out.trans (hdr.mono HBr.out.size))
                  have hszd : NB ≤ wq.drew.heap.size := hsz
                  clear hdr hsz
                  generalize wq.drew = wd at *
                  refine stage_take (i := 0) (oi := { dst := some 171, op := Go.Op.move (Go.Operand.tmp 13), type := 67, pos := "btree.go:89", after := #[], guard := none }) (v := ?_) (T := fun _ => True) rfl (by kernel_rfl) (by kernel_rfl) (by kernel_rfl) (by kernel_rfl) (fun _ _ _ h => h) (fun L' w' hW hS => trivial) (fun L' w' hS => fun h => hS (by rw [getD_set_ne false (by decide)]; exact h)) (Or.inl ⟨by rfl, ?_⟩) trivial (fun _ => HG.out) ?_
                  rotate_left 1
                  · intro w9 _; go_simp; (try with_reducible rfl)
                  try simp only [Act.put, List.setIfInBounds_toArray, List.set_cons_zero, List.set_cons_succ]
                  refine stage_take (i := 1) (oi := { dst := some 172, op := Go.Op.move (Go.Operand.tmp 13), type := 67, pos := "btree.go:89", after := #[], guard := none }) (v := ?_) (T := fun _ => True) rfl (by kernel_rfl) (by kernel_rfl) (by kernel_rfl) (by kernel_rfl) (fun _ _ _ h => h) (fun L' w' hW hS => trivial) (fun L' w' hS => fun h => hS (by rw [getD_set_ne false (by decide)]; exact h)) (Or.inl ⟨by rfl, ?_⟩) trivial (fun _ => HG.out) ?_
                  rotate_left 1
                  · intro w9 _; go_simp; (try with_reducible rfl)
                  try simp only [Act.put, List.setIfInBounds_toArray, List.set_cons_zero, List.set_cons_succ]
                  refine stage_take (i := 2) (oi := { dst := some 173, op := Go.Op.nilCheck (Go.Operand.tmp 172), type := 0, pos := "btree.go:89", after := #[{ on := 1, ground := Go.Ground.data }], guard := none }) (v := ?_) (T := fun _ => True) rfl (by kernel_rfl) (by kernel_rfl) (by kernel_rfl) (by kernel_rfl) (fun _ _ _ h => h) (fun L' w' hW hS => trivial) (fun L' w' hS => fun h => hS (by rw [getD_set_ne false (by decide)]; exact h)) (Or.inl ⟨by rfl, ?_⟩) trivial (fun _ => HG.out) ?_
                  rotate_left 1
                  · intro w9 _; go_simp; (try with_reducible rfl)
                  try simp only [Act.put, List.setIfInBounds_toArray, List.set_cons_zero, List.set_cons_succ]
                  refine stage_take (i := 3) (oi := { dst := some 174, op := Go.Op.fieldAddr 73 (Go.Operand.tmp 173) 2, type := 0, pos := "btree.go:89", after := #[{ on := 2, ground := Go.Ground.data }], guard := none }) (v := ?_) (T := fun _ => True) rfl (by kernel_rfl) (by kernel_rfl) (by kernel_rfl) (by kernel_rfl) (fun _ _ _ h => h) (fun L' w' hW hS => trivial) (fun L' w' hS => fun h => hS (by rw [getD_set_ne false (by decide)]; exact h)) (Or.inl ⟨by rfl, ?_⟩) trivial (fun _ => HG.out) ?_
                  rotate_left 1
                  · intro w9 _; go_simp; (try with_reducible rfl)
                  try simp only [Act.put, List.setIfInBounds_toArray, List.set_cons_zero, List.set_cons_succ]
                  refine stage_take (i := 4) (oi := { dst := some 175, op := Go.Op.load 71 (Go.Operand.tmp 174), type := 71, pos := "btree.go:89", after := #[{ on := 3, ground := Go.Ground.data }], guard := none }) (v := ?_) (T := fun w' : World => Box w' g [kv, vv, iv]) rfl (by kernel_rfl) (by kernel_rfl) (by kernel_rfl) (by kernel_rfl) (fun _ _ _ h => h) (fun L' w' hW hS => hS (not_yet hW (by kernel_rfl))) (fun L' w' hS => fun h => hS (by rw [getD_set_ne false (by decide)]; exact h)) (Or.inl ⟨by rfl, ?_⟩) (HG.out) (fun _ => HG.out) ?_
                  rotate_left 1
                  · intro w9 hS9; have zA := hS9.c 2 _ rfl; clear hS9; go_simp; (try with_reducible rfl)
                  try simp only [Act.put, List.setIfInBounds_toArray, List.set_cons_zero, List.set_cons_succ]
                  refine stage_take (i := 5) (oi := { dst := some 176, op := Go.Op.move (Go.Operand.tmp 0), type := 94, pos := "btree.go:89", after := #[], guard := none }) (v := ?_) (T := fun _ => True) rfl (by kernel_rfl) (by kernel_rfl) (by kernel_rfl) (by kernel_rfl) (fun _ _ _ h => h) (fun L' w' hW hS => trivial) (fun L' w' hS => fun h => hS (by rw [getD_set_ne false (by decide)]; exact h)) (Or.inl ⟨by rfl, ?_⟩) trivial (fun _ => HG.out) ?_
                  rotate_left 1
                  · intro w9 _; go_simp; (try with_reducible rfl)
                  try simp only [Act.put, List.setIfInBounds_toArray, List.set_cons_zero, List.set_cons_succ]
                  refine stage_take (i := 6) (oi := { dst := some 177, op := Go.Op.move (Go.Operand.tmp 15), type := 3, pos := "btree.go:89", after := #[], guard := none }) (v := ?_) (T := fun _ => True) rfl (by kernel_rfl) (by kernel_rfl) (by kernel_rfl) (by kernel_rfl) (fun _ _ _ h => h) (fun L' w' hW hS => trivial) (fun L' w' hS => fun h => hS (by rw [getD_set_ne false (by decide)]; exact h)) (Or.inl ⟨by rfl, ?_⟩) trivial (fun _ => HG.out) ?_
                  rotate_left 1
                  · intro w9 _; go_simp; (try with_reducible rfl)
                  try simp only [Act.put, List.setIfInBounds_toArray, List.set_cons_zero, List.set_cons_succ]
                  refine stage_take (i := 7) (oi := { dst := some 178, op := Go.Op.move (Go.Operand.tmp 2), type := 3, pos := "btree.go:89", after := #[], guard := none }) (v := ?_) (T := fun _ => True) rfl (by kernel_rfl) (by kernel_rfl) (by kernel_rfl) (by kernel_rfl) (fun _ _ _ h => h) (fun L' w' hW hS => trivial) (fun L' w' hS => fun h => hS (by rw [getD_set_ne false (by decide)]; exact h)) (Or.inl ⟨by rfl, ?_⟩) trivial (fun _ => HG.out) ?_
                  rotate_left 1
                  · intro w9 _; go_simp; (try with_reducible rfl)
                  try simp only [Act.put, List.setIfInBounds_toArray, List.set_cons_zero, List.set_cons_succ]
                  refine stage_take (i := 8) (oi := { dst := some 179, op := Go.Op.binOp Go.BinOp.add 3 (Go.Operand.tmp 178) (Go.Operand.const (Go.Value.int Go.IntKind.i64 1)) 3, type := 3, pos := "btree.go:89", after := #[{ on := 7, ground := Go.Ground.data }], guard := none }) (v := ?_) (T := fun _ => True) rfl (by kernel_rfl) (by kernel_rfl) (by kernel_rfl) (by kernel_rfl) (fun _ _ _ h => h) (fun L' w' hW hS => trivial) (fun L' w' hS => fun h => hS (by rw [getD_set_ne false (by decide)]; exact h)) (Or.inl ⟨by rfl, ?_⟩) trivial (fun _ => HG.out) ?_
                  rotate_left 1
                  · intro w9 _; go_simp; (try with_reducible rfl)
                  try simp only [Act.put, List.setIfInBounds_toArray, List.set_cons_zero, List.set_cons_succ]
                  refine stage_take (i := 9) (oi := { dst := some 180, op := Go.Op.move (Go.Operand.tmp 16), type := 115, pos := "btree.go:89", after := #[], guard := none }) (v := ?_) (T := fun _ => True) rfl (by kernel_rfl) (by kernel_rfl) (by kernel_rfl) (by kernel_rfl) (fun _ _ _ h => h) (fun L' w' hW hS => trivial) (fun L' w' hS => fun h => hS (by rw [getD_set_ne false (by decide)]; exact h)) (Or.inl ⟨by rfl, ?_⟩) trivial (fun _ => HG.out) ?_
                  rotate_left 1
                  · intro w9 _; go_simp; (try with_reducible rfl)
                  try simp only [Act.put, List.setIfInBounds_toArray, List.set_cons_zero, List.set_cons_succ]
                  refine stage_take (i := 10) (oi := { dst := some 181, op := Go.Op.move (Go.Operand.tmp 17), type := 115, pos := "btree.go:89", after := #[], guard := none }) (v := ?_) (T := fun _ => True) rfl (by kernel_rfl) (by kernel_rfl) (by kernel_rfl) (by kernel_rfl) (fun _ _ _ h => h) (fun L' w' hW hS => trivial) (fun L' w' hS => fun h => hS (by rw [getD_set_ne false (by decide)]; exact h)) (Or.inl ⟨by rfl, ?_⟩) trivial (fun _ => HG.out) ?_
                  rotate_left 1
                  · intro w9 _; go_simp; (try with_reducible rfl)
                  try simp only [Act.put, List.setIfInBounds_toArray, List.set_cons_zero, List.set_cons_succ]
                  refine stage_all (rs := [11]) (by kernel_rfl) (by simp) (fun i0 hi0 => ?_)
                  obtain rfl : i0 = 11 := by simpa using hi0
                  refine stage_step (S := fun (L' : Array Bool) (w' : World) => (L'.getD 16 false = false → Box w' g [kv, vv, iv])) (o := { dst := some 182, op := Go.Op.call { callee := Go.Callee.value (Go.Operand.func 43), args := #[Go.Operand.tmp 176, Go.Operand.tmp 177, Go.Operand.tmp 179, Go.Operand.tmp 180, Go.Operand.tmp 181], argTypes := #[94, 3, 3, 115, 115] }, type := 67, pos := "btree.go:89", after := #[{ on := 5, ground := Go.Ground.data }, { on := 6, ground := Go.Ground.data }, { on := 8, ground := Go.Ground.data }, { on := 9, ground := Go.Ground.data }, { on := 10, ground := Go.Ground.data }], guard := none }) (by rfl) (fun K2 hK => ?_)
                  go_simp
                  go_wp2_with fail
                  refine (HGO.out wd HBr.out HR.out HM.out).mono ?_
                  rintro e w8 hpost
                  clear HGO
                  cases RN with
                  | none =>
                    obtain ⟨rfl, hk8⟩ := hpost
                    have hRS : RS = none := by rw [← HRS.out]
                    subst hRS
                    replace hk8 : Kept w.heap.size (fun k => k = rb ∨ k = mb) w w8 := HK.out.trans (kept_less hk8 HK.out.size (fun _ _ h => h))
                    go_wp2_with fail
                    exact ⟨rfl, rfl, hk8⟩
                  | some tr =>
                    obtain ⟨t, r2⟩ := tr
                    obtain ⟨g2, rfl, hT8, hR8, hM8, hk8⟩ := hpost
                    obtain ⟨hRd, hmet⟩ := HRD.out t r2 rfl
                    have HRD2 := Lib.hid hRd
                    have HMET := Lib.hid hmet
                    clear hRd hmet HRD
                    replace HR := Lib.hid hR8
                    replace HM := Lib.hid hM8
                    have hgd : g < wd.heap.size := HG.out.lt
                    have hgnd : gn < wd.heap.size := HNB.out.lt
                    replace HG := Lib.hid (HG.out.kept hk8 hgd (fun h => by omega))
                    replace HNB := Lib.hid (HNB.out.kept hk8 hgnd (fun h => by omega))
                    replace HKP := Lib.hid (HKP.out.kept hk8 (fun k hk h => by omega))
                    replace HVP := Lib.hid (HVP.out.kept hk8 (fun k hk h => by omega))
                    have hol : ∀ b, iv.ownBlock = some b → NB ≤ b ∧ b < wd.heap.size := fun b hb => HO.out.lt b hb
                    replace HO := Lib.hid (hk8.own HO.out (fun b hb => ⟨(hol b hb).2, fun h => by have := (hol b hb).1; omega⟩))
                    have hTS8 := (HTS.out.mono (P' := fun b => (NB ≤ b ∧ iv.ownBlock ≠ some b) ∧ b < wd.heap.size) (fun b hl hb => ⟨hb, hl⟩)).kept hk8 (fun k hk h => by have := h.1.1; omega)
                    have hTS9 : TrsAt w8 (fun b => NB ≤ b ∧ iv.ownBlock ≠ some b) (ps ++ [g2]) (ts ++ [t]) := hTS8.snoc hT8 (fun b h => h.1) (fun b hb => ⟨⟨Nat.le_trans hszd hb, fun h => by have := (hol b h).2; omega⟩, fun h => by have := h.2; omega⟩)
                    replace HTS := Lib.hid hTS9
                    clear hTS8 hTS9 hT8 hR8 hM8
                    replace HK : Hid (Kept w.heap.size (fun k => k = rb ∨ k = mb) w w8) := Lib.hid (HK.out.trans (kept_less hk8 HK.out.size (fun _ _ h => h)))
                    have hsz8 : NB ≤ w8.heap.size := Nat.le_trans hszd hk8.size
                    clear hk8 hgd hgnd hol hszd HBr
                    have hS0 : Box w8 g [kv, vv, iv] := HG.out
                    refine hK.out _ _ (fun _ => hS0) ?_
                    clear hK K2
                    try simp only [Act.put, List.setIfInBounds_toArray, List.set_cons_zero, List.set_cons_succ]
                    clear hS0
                    refine stage_all (rs := [12]) (by kernel_rfl) (by simp) (fun i0 hi0 => ?_)
                    obtain rfl : i0 = 12 := by simpa using hi0
                    refine stage_step (S := fun (L' : Array Bool) (w' : World) => (L'.getD 16 false = false → Box w' g [kv, vv, iv])) (o := { dst := some 183, op := Go.Op.buildSlice 71 1 #[(0, Go.Operand.tmp 182)], type := 71, pos := "btree.go:89", after := #[{ on := 11, ground := Go.Ground.data }], guard := none }) (by rfl) (fun K2 hK => ?_)
                    go_simp
                    have hal : Below w8.heap.size w8 (w8.alloc (.cells #[.pointer (some ⟨g2, 0, none⟩)] 67)) := (Below.refl _ _).alloc (Nat.le_refl _) _
                    have HNW : Hid (∀ jj u, (encN g2)[jj]? = some u → (w8.alloc (.cells #[.pointer (some ⟨g2, 0, none⟩)] 67)).cell? ((⟨w8.heap.size, 0, none⟩ : Addr).add jj) = some u) := Lib.hid (fun jj u hu => by rw [Addr.add_lit, Nat.zero_add]; exact (Box.new w8 #[.pointer (some ⟨g2, 0, none⟩)] 67).c jj u hu)
                    replace HR := Lib.hid (HR.out.alloc (.cells #[.pointer (some ⟨g2, 0, none⟩)] 67))
                    replace HG := Lib.hid (HG.out.alloc (.cells #[.pointer (some ⟨g2, 0, none⟩)] 67))
                    replace HNB := Lib.hid (HNB.out.alloc (.cells #[.pointer (some ⟨g2, 0, none⟩)] 67))
                    replace HO := Lib.hid (HO.out.alloc (.cells #[.pointer (some ⟨g2, 0, none⟩)] 67))
                    replace HM := Lib.hid (HM.out.below hal)
                    replace HKP := Lib.hid (HKP.out.below hal)
                    replace HVP := Lib.hid (HVP.out.below hal)
                    replace HTS := Lib.hid (HTS.out.below hal)
                    replace HK := Lib.hid (HK.out.alloc HK.out.size (.cells #[.pointer (some ⟨g2, 0, none⟩)] 67))
                    have hsb : NB ≤ (w8.alloc (.cells #[.pointer (some ⟨g2, 0, none⟩)] 67)).heap.size := by simp; omega
                    clear hal hsz8
                    generalize w8.alloc (.cells #[.pointer (some ⟨g2, 0, none⟩)] 67) = wa at *
                    generalize w8.heap.size = gq at *
                    refine hK.out _ _ (fun _ => HG.out) ?_
                    clear hK K2
                    try simp only [Act.put, List.setIfInBounds_toArray, List.set_cons_zero, List.set_cons_succ]
                    refine stage_all (rs := [13]) (by kernel_rfl) (by simp) (fun i0 hi0 => ?_)
                    obtain rfl : i0 = 13 := by simpa using hi0
                    refine stage_step (S := fun (L' : Array Bool) (w' : World) => (L'.getD 16 false = false → Box w' g [kv, vv, iv])) (o := { dst := some 184, op := Go.Op.call { callee := Go.Callee.builtin Go.Builtin.append, args := #[Go.Operand.tmp 175, Go.Operand.tmp 183], argTypes := #[71, 71] }, type := 71, pos := "btree.go:89", after := #[{ on := 4, ground := Go.Ground.data }, { on := 12, ground := Go.Ground.data }, { on := 11, ground := Go.Ground.chain }], guard := none }) (by rfl) (fun K2 hK => ?_)
                    have hml : j + 1 ≤ maxLen := by simp only [maxLen]; omega
                    have hmb9 : (j + 1) * 8 ≤ 140737488355328 := by omega
                    have hone : ∀ u ∈ encN g2, u.oneCell' = true := fun u hu => by simp [encN] at hu; subst hu; rfl
                    refine step_append_own2 rfl _ _ 71 rfl NB 67 i0 (.pointer none) 1 8 Try.underlying71 hti hz0 hz1 hz2 rfl (by decide) iv j _ rfl HO.out ⟨gq, 0, none⟩ 1 1 (encN g2) rfl rfl HNW.out hone hml hmb9 hsb (fun v' w9 hown hgrow hnew => ?_)
                    have hol : ∀ b, iv.ownBlock = some b → NB ≤ b ∧ b < wa.heap.size := fun b hb => HO.out.lt b hb
                    have hkg : Kept wa.heap.size (fun k => iv.ownBlock = some k) wa w9 := (Kept.refl _ _ wa).grown hgrow (Nat.le_refl _) (fun k hk => .inr hk)
                    have hne : ∀ b, b < NB → iv.ownBlock ≠ some b := fun b hb e => by have := (hol b e).1; omega
                    have hrw : rb < NB := by omega
                    have hmw : mb < NB := by omega
                    have hgnB : gn < NB := by omega
                    replace HR := Lib.hid (HR.out.kept hkg HR.out.lt (hne _ hrw))
                    replace HNB := Lib.hid (HNB.out.kept hkg HNB.out.lt (hne _ hgnB))
                    replace HG := Lib.hid (HG.out.kept hkg HG.out.lt (hne _ hgNB))
                    replace HM := Lib.hid (HM.out.grown hgrow (fun e => hne _ hmw e.symm))
                    replace HKP := Lib.hid (HKP.out.kept hkg (fun k hk h => hne k h.2 hk))
                    replace HVP := Lib.hid (HVP.out.kept hkg (fun k hk h => hne k h.2 hk))
                    have hts1 : TrsAt wa (fun b => (NB ≤ b ∧ iv.ownBlock ≠ some b) ∧ v'.ownBlock ≠ some b) (ps ++ [g2]) (ts ++ [t]) := HTS.out.mono (fun b hb h => ⟨h, fun e => by
                      rcases hnew with hn | hn
                      · exact h.2 (hn ▸ e)
                      · have := hn b e; omega⟩)
                    have hts2 : TrsAt w9 (fun b => NB ≤ b ∧ v'.ownBlock ≠ some b) (ps ++ [g2]) (ts ++ [t]) := (hts1.kept hkg (fun k hk h => h.1.2 hk)).mono (fun b _ h => ⟨h.1.1, h.2⟩)
                    replace HTS := Lib.hid hts2
                    replace HK : Hid (Kept w.heap.size (fun k => k = rb ∨ k = mb) w w9) := Lib.hid (HK.out.trans (kept_less hkg HK.out.size (fun k hk h => by have := (hol k h).1; omega)))
                    have hsz9 : NB ≤ w9.heap.size := Nat.le_trans hsb hgrow.size
                    have HO9 : Hid (w9.ownsRow NB 67 1 v' (j + 1) ((ps ++ [g2]).flatMap encN)) := Lib.hid (by rw [List.flatMap_append]; simpa using hown)
                    clear hts1 hts2 hkg hne hol hgrow hnew hsb HO HNW hone hml hmb9 hown
                    refine hK.out _ _ (fun _ => HG.out) ?_
                    clear hK K2
                    try simp only [Act.put, List.setIfInBounds_toArray, List.set_cons_zero, List.set_cons_succ]
                    obtain ⟨A9, c9, rfl, _, _⟩ := own_slice HO9.out
                    refine stage_all (rs := [14]) (by kernel_rfl) (by simp) (fun i0 hi0 => ?_)
                    obtain rfl : i0 = 14 := by simpa using hi0
                    refine stage_step (S := fun (L' : Array Bool) (w' : World) => (L'.getD 16 false = false → Box w' g [kv, vv, iv])) (o := { dst := some 185, op := Go.Op.nilCheck (Go.Operand.tmp 171), type := 0, pos := "btree.go:89", after := #[{ on := 0, ground := Go.Ground.data }, { on := 0, ground := Go.Ground.phase }, { on := 1, ground := Go.Ground.phase }, { on := 2, ground := Go.Ground.phase }, { on := 3, ground := Go.Ground.phase }, { on := 4, ground := Go.Ground.phase }, { on := 5, ground := Go.Ground.phase }, { on := 6, ground := Go.Ground.phase }, { on := 7, ground := Go.Ground.phase }, { on := 8, ground := Go.Ground.phase }, { on := 9, ground := Go.Ground.phase }, { on := 10, ground := Go.Ground.phase }, { on := 11, ground := Go.Ground.phase }, { on := 12, ground := Go.Ground.phase }, { on := 13, ground := Go.Ground.phase }], guard := none }) (by rfl) (fun K2 hK => ?_)
                    go_simp
                    refine hK.out _ _ (fun _ => HG.out) ?_
                    clear hK K2
                    try simp only [Act.put, List.setIfInBounds_toArray, List.set_cons_zero, List.set_cons_succ]
                    refine stage_all (rs := [15]) (by kernel_rfl) (by simp) (fun i0 hi0 => ?_)
                    obtain rfl : i0 = 15 := by simpa using hi0
                    refine stage_step (S := fun (L' : Array Bool) (w' : World) => (L'.getD 16 false = false → Box w' g [kv, vv, iv])) (o := { dst := some 186, op := Go.Op.fieldAddr 73 (Go.Operand.tmp 185) 2, type := 0, pos := "btree.go:89", after := #[{ on := 14, ground := Go.Ground.data }, { on := 0, ground := Go.Ground.phase }, { on := 1, ground := Go.Ground.phase }, { on := 2, ground := Go.Ground.phase }, { on := 3, ground := Go.Ground.phase }, { on := 4, ground := Go.Ground.phase }, { on := 5, ground := Go.Ground.phase }, { on := 6, ground := Go.Ground.phase }, { on := 7, ground := Go.Ground.phase }, { on := 8, ground := Go.Ground.phase }, { on := 9, ground := Go.Ground.phase }, { on := 10, ground := Go.Ground.phase }, { on := 11, ground := Go.Ground.phase }, { on := 12, ground := Go.Ground.phase }, { on := 13, ground := Go.Ground.phase }], guard := none }) (by rfl) (fun K2 hK => ?_)
                    go_simp
                    refine hK.out _ _ (fun _ => HG.out) ?_
                    clear hK K2
                    try simp only [Act.put, List.setIfInBounds_toArray, List.set_cons_zero, List.set_cons_succ]
                    have cHG0 := HG.out.c 0 _ rfl; have fHG0 := HG.out.f 0 (by simp); have cHG1 := HG.out.c 1 _ rfl; have fHG1 := HG.out.f 1 (by simp); have cHG2 := HG.out.c 2 _ rfl; have fHG2 := HG.out.f 2 (by simp); have lHG := HG.out.lt
                    refine stage_all (rs := [16]) (by kernel_rfl) (by simp) (fun i0 hi0 => ?_)
                    obtain rfl : i0 = 16 := by simpa using hi0
                    refine stage_step (S := fun (L' : Array Bool) (w' : World) => (L'.getD 16 false = false → Box w' g [kv, vv, iv])) (o := { dst := none, op := Go.Op.store 71 (Go.Operand.tmp 186) (Go.Operand.tmp 184), type := 0, pos := "btree.go:89", after := #[{ on := 15, ground := Go.Ground.data }, { on := 13, ground := Go.Ground.data }, { on := 13, ground := Go.Ground.chain }, { on := 0, ground := Go.Ground.phase }, { on := 1, ground := Go.Ground.phase }, { on := 2, ground := Go.Ground.phase }, { on := 3, ground := Go.Ground.phase }, { on := 4, ground := Go.Ground.phase }, { on := 5, ground := Go.Ground.phase }, { on := 6, ground := Go.Ground.phase }, { on := 7, ground := Go.Ground.phase }, { on := 8, ground := Go.Ground.phase }, { on := 9, ground := Go.Ground.phase }, { on := 10, ground := Go.Ground.phase }, { on := 11, ground := Go.Ground.phase }, { on := 12, ground := Go.Ground.phase }, { on := 13, ground := Go.Ground.phase }], guard := none }) (by rfl) (fun K2 hK => ?_)
                    go_simp
                    clear cHG0 fHG0 cHG1 fHG1 cHG2 fHG2 lHG
                    refine hK.out _ _ (fun h => by simp at h) ?_
                    clear hK K2
                    try simp only [Act.put, List.setIfInBounds_toArray, List.set_cons_zero, List.set_cons_succ]
                    refine stage_done (by kernel_rfl) ?_ _
                    have hgN : g < w9.heap.size := HG.out.lt
                    have hrg : ¬ rb = g := by omega
                    have hmg : ¬ mb = g := by omega
                    have hgg : ¬ gn = g := by omega
                    generalize hv9 : Value.slice A9 (j + 1) c9 = v9 at *
                    have hset : Kept w9.heap.size (fun k => k = g) w9 (w9.setCell ⟨g, 2, none⟩ v9) := (Kept.refl _ _ w9).set _ _ (.inr rfl)
                    have hRx := HR.out.kept hset HR.out.lt hrg
                    have hNx := HNB.out.kept hset HNB.out.lt hgg
                    have hGx : Box (w9.setCell ⟨g, 2, none⟩ v9) g [kv, vv, v9] := HG.out.set 2 v9 (by simp)
                    have hMx := HM.out.grown (grown_set w9 ⟨g, 2, none⟩ v9) (fun e => hmg (Option.some.inj e))
                    have hKx : OwnP (fun b => w.heap.size ≤ b ∧ b < NB) (w9.setCell ⟨g, 2, none⟩ v9) 9 kv n.keys.length (n.keys.flatMap encS) := ⟨hset.own HKP.out.1 (fun b hb => ⟨(HKP.out.1.lt b hb).2, fun e => HDJ.out.1 (e ▸ hb)⟩), HKP.out.2⟩
                    have hVx : OwnP (fun b => w.heap.size ≤ b ∧ b < NB) (w9.setCell ⟨g, 2, none⟩ v9) 9 vv n.vals.length (n.vals.flatMap encS) := ⟨hset.own HVP.out.1 (fun b hb => ⟨(HVP.out.1.lt b hb).2, fun e => HDJ.out.2.1 (e ▸ hb)⟩), HVP.out.2⟩
                    have hOx := hset.own HO9.out (fun b hb => ⟨(HO9.out.lt b hb).2, fun e => by have := (HO9.out.lt b hb).1; omega⟩)
                    have hTx := HTS.out.kept hset (fun k hk h => by have := h.1; omega)
                    have hKz := HK.out.set ⟨g, 2, none⟩ v9 (.inl hgw)
                    have hsx : NB ≤ (w9.setCell ⟨g, 2, none⟩ v9).heap.size := by simpa using hsz9
                    replace HR := Lib.hid hRx
                    replace HNB := Lib.hid hNx
                    replace HG := Lib.hid hGx
                    replace HM := Lib.hid hMx
                    replace HKP := Lib.hid hKx
                    replace HVP := Lib.hid hVx
                    replace HO9 := Lib.hid hOx
                    replace HTS := Lib.hid hTx
                    replace HK := Lib.hid hKz
                    clear hRx hNx hGx hMx hKx hVx hOx hTx hKz hset hsz9 hgN
                    generalize w9.setCell ⟨g, 2, none⟩ v9 = wz at *
                    go_wp2_with fail
                    go_roundw
                    case rel => exact ⟨j + 1, r2, ts ++ [t], ps ++ [g2], v9, by omega, by go_num, by simp [hpl], by simp [htl], Lib.hid (kid_next.trans HRS.out), HR, HM, HG, HNB, HKP, HVP, HO9, HTS, HK, hsx, Lib.hid ⟨by have := HMET.out; have := HR1.out.1; omega, HRD2.out.1, HRD2.out.2.1, HRD2.out.2.2⟩⟩
                    case measure => simp [Lib.intOf]; omega
                · obtain rfl : j = n.kids.length := by omega
                  have hRS : RS = some (.mk n.keys n.vals ts, r1) := by
                    rw [← HRS.out, List.drop_length]
                    simp [kidsS]
                  subst hRS
                  have ho : ∀ {v : Value} {m : Nat} {e : TypeId} {xs : List Value}, OwnP (fun b => w.heap.size ≤ b ∧ b < NB) wr e v m xs → OwnP (fun b => w.heap.size ≤ b) wr e v m xs := fun h => ⟨h.1, fun b hb => (h.2 b hb).1⟩
                  have hio : OwnP (fun b => w.heap.size ≤ b) wr 67 iv ts.length (ps.flatMap encN) := by
                    rw [htl]
                    exact OwnP.of HO.out (fun b hb _ => Nat.le_trans hNBw hb)
                  have hT : TrAt wr (fun b => w.heap.size ≤ b) g (.mk n.keys n.vals ts) := by
                    unfold TrAt
                    have hkb := HKP.out.2
                    have hvb := HVP.out.2
                    have hib : ∀ b, iv.ownBlock = some b → NB ≤ b := fun b hb => (HO.out.lt b hb).1
                    exact ⟨kv, vv, iv, ps, HG.out, ho HKP.out, ho HVP.out, hio, hgw, ⟨HDJ.out.1, HDJ.out.2.1, HDJ.out.2.2, fun e => by have := hib _ e; omega, fun b hb => ⟨fun e => by have := hib _ hb; have := (hkb _ e).2; omega, fun e => by have := hib _ hb; have := (hvb _ e).2; omega⟩⟩, HTS.out.mono (fun b _ h => ⟨Nat.le_trans hNBw h.1, by have := h.1; omega, fun e => by have := (hkb _ e).2; have := h.1; omega, fun e => by have := (hvb _ e).2; have := h.1; omega, h.2⟩)⟩
                  have HT := Lib.hid hT
                  clear hT hio ho HRS HTS HKP HVP HO HG HNB
                  go_wp2
                  go_ret
                  exact ⟨g, rfl, HT.out, HR.out, HM.out, HK.out⟩
              · have hRS : RS = none := by rw [← HRS.out, if_neg (fun h => c2 h.2)]
                subst hRS
                have c2' : ((n.kids.length : Int) == (n.keys.length : Int) + 1) = false := by rw [beq_eq_false_iff_ne]; omega
                clear HRS c1 c2
                have cHR0 := HR.out.c 0 _ rfl; have fHR0 := HR.out.f 0 (by simp); have cHR1 := HR.out.c 1 _ rfl; have fHR1 := HR.out.f 1 (by simp); have cHR2 := HR.out.c 2 _ rfl; have fHR2 := HR.out.f 2 (by simp); have cHR3 := HR.out.c 3 _ rfl; have fHR3 := HR.out.f 3 (by simp); have cHR4 := HR.out.c 4 _ rfl; have fHR4 := HR.out.f 4 (by simp); have lHR := HR.out.lt; have cHNB0 := HNB.out.c 0 _ rfl; have fHNB0 := HNB.out.f 0 (by simp); have cHNB1 := HNB.out.c 1 _ rfl; have fHNB1 := HNB.out.f 1 (by simp); have cHNB2 := HNB.out.c 2 _ rfl; have fHNB2 := HNB.out.f 2 (by simp); have lHNB := HNB.out.lt
                go_wp2_with (go_at_call 42; first | ((with_reducible refine (need_false _ _).mono ?_); rintro e w' ⟨rfl, rfl⟩) | ((with_reducible refine (need_true _ _).mono ?_); rintro e w' ⟨rfl, rfl⟩))
                exact ⟨rfl, rfl, HK.out⟩
            · have hRS : RS = none := by rw [← HRS.out, if_neg (fun h => c1 h.1)]
              subst hRS
              have c1' : ((n.vals.length : Int) == 0) = false := by rw [beq_eq_false_iff_ne]; omega
              clear HRS c1
              have cHR0 := HR.out.c 0 _ rfl; have fHR0 := HR.out.f 0 (by simp); have cHR1 := HR.out.c 1 _ rfl; have fHR1 := HR.out.f 1 (by simp); have cHR2 := HR.out.c 2 _ rfl; have fHR2 := HR.out.f 2 (by simp); have cHR3 := HR.out.c 3 _ rfl; have fHR3 := HR.out.f 3 (by simp); have cHR4 := HR.out.c 4 _ rfl; have fHR4 := HR.out.f 4 (by simp); have lHR := HR.out.lt; have cHNB0 := HNB.out.c 0 _ rfl; have fHNB0 := HNB.out.f 0 (by simp); have cHNB1 := HNB.out.c 1 _ rfl; have fHNB1 := HNB.out.f 1 (by simp); have cHNB2 := HNB.out.c 2 _ rfl; have fHNB2 := HNB.out.f 2 (by simp); have lHNB := HNB.out.lt
              go_wp2_with (go_at_call 42; first | ((with_reducible refine (need_false _ _).mono ?_); rintro e w' ⟨rfl, rfl⟩) | ((with_reducible refine (need_true _ _).mono ?_); rintro e w' ⟨rfl, rfl⟩))
              exact ⟨rfl, rfl, HK.out⟩
      · have hd : decide (fewS level ≤ n.keys.length ∧ n.keys.length ≤ 4) = false := by simp; omega
        rw [hd, Bool.false_and, if_pos rfl] at hRS
        subst hRS
        have g1' : (fewS level : Int) ≤ (n.keys.length : Int) := by omega
        have g2' : ¬ (n.keys.length : Int) ≤ 4 := by omega
        have cHNB0 := HNB.out.c 0 _ rfl; have fHNB0 := HNB.out.f 0 (by simp); have cHNB1 := HNB.out.c 1 _ rfl; have fHNB1 := HNB.out.f 1 (by simp); have cHNB2 := HNB.out.c 2 _ rfl; have fHNB2 := HNB.out.f 2 (by simp); have lHNB := HNB.out.lt
        go_wp2_with (first | (go_at_call 42; first | ((with_reducible refine (need_false _ _).mono ?_); rintro e w' ⟨rfl, rfl⟩) | ((with_reducible refine (need_true _ _).mono ?_); rintro e w' ⟨rfl, rfl⟩)) | (go_at_call 57; (with_reducible refine hwi.mono ?_); rintro e w' ⟨rfl, rfl⟩))
        exact ⟨rfl, rfl, HK.out⟩
    · have hd : decide (fewS level ≤ n.keys.length ∧ n.keys.length ≤ 4) = false := by simp; omega
      rw [hd, Bool.false_and, if_pos rfl] at hRS
      subst hRS
      have g1' : ¬ (fewS level : Int) ≤ (n.keys.length : Int) := by omega
      have cHNB0 := HNB.out.c 0 _ rfl; have fHNB0 := HNB.out.f 0 (by simp); have cHNB1 := HNB.out.c 1 _ rfl; have fHNB1 := HNB.out.f 1 (by simp); have cHNB2 := HNB.out.c 2 _ rfl; have fHNB2 := HNB.out.f 2 (by simp); have lHNB := HNB.out.lt
      go_wp2_with (first | (go_at_call 42; first | ((with_reducible refine (need_false _ _).mono ?_); rintro e w' ⟨rfl, rfl⟩) | ((with_reducible refine (need_true _ _).mono ?_); rintro e w' ⟨rfl, rfl⟩)) | (go_at_call 57; (with_reducible refine hwi.mono ?_); rintro e w' ⟨rfl, rfl⟩))
      exact ⟨rfl, rfl, HK.out⟩
  · have hS : nodeS s (f + 1) r level a lo hi = none := by
      show (match (if 0 ≤ a ∧ a < s.length ∧ r.met.contains a = false then s[a.toNat]? else none) with | none => none | some n => _) = _
      rw [if_neg hv]
    rw [hS]
    exact node_bad w0 NA nc root s (f + 1) hN w rb mb r level a p q lo hi h hv
end Go.Proofs.Ytkecbghnapjecaa
