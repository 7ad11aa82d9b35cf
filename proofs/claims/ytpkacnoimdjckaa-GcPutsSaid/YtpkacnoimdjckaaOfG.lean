/- The law's Of: chains for the program, in memory of their own. -/
import Derived.Test.YtpkacnoimdjckaaPutW
import Derived.Laws.AppendOwnNone
namespace Go.Proofs.Ytpkacnoimdjckaa
open Go.RowKit
open Go.Shelf
set_option linter.unusedVariables false
set_option linter.unusedSimpArgs false
def NewZ (base : Nat) (w : World) (vl v : Value) (l : List Ver) : Prop := ∃ A c, v = .slice A l.length c ∧ l.length ≤ c ∧ (A = none → c = 0) ∧ (∀ a, A = some a → base ≤ a.block) ∧ RowE encVer 4 w A l ∧ (l ≠ [] → ∀ a, A = some a → vl.ownBlock ≠ some a.block)
theorem NewZ.below {base : Nat} {w w' : World} {vl v : Value} {l : List Ver} (h : NewZ base w vl v l) (hb : Below w.heap.size w w') : NewZ base w' vl v l := by
  obtain ⟨A, c, h1, h2, h3, h4, h5, h6⟩ := h
  exact ⟨A, c, h1, h2, h3, h4, h5.below hb, h6⟩
theorem NewZ.moved {base : Nat} {w w' : World} {vl vl' v : Value} {l : List Ver} (h : NewZ base w vl v l) (hg : w.grownBy w' vl.ownBlock) (ha : vl'.ownBlock = vl.ownBlock ∨ vl'.ownBlock = some w.heap.size) : NewZ base w' vl' v l := by
  obtain ⟨A, c, h1, h2, h3, h4, h5, h6⟩ := h
  by_cases h0 : l = []
  · subst h0
    exact ⟨A, c, h1, h2, h3, h4, RowE.nil, fun h => absurd rfl h⟩
  · refine ⟨A, c, h1, h2, h3, h4, h5.grown hg (fun a ha' e => h6 h0 a ha' e.symm), fun _ a ha' e => ?_⟩
    rcases ha with ha | ha
    · exact h6 h0 a ha' (ha ▸ e)
    · obtain ⟨x, hx⟩ : ∃ x, l[0]? = some x := ⟨_, List.getElem?_eq_getElem (List.length_pos_iff.2 h0)⟩
      obtain ⟨b, off, e2, hlt, _⟩ := h5 0 x hx
      rw [e2] at ha'
      obtain rfl := Option.some.inj ha'
      rw [e] at ha
      have := Option.some.inj ha
      simp only at this
      omega
theorem NewZ.set {base : Nat} {w : World} {vl v : Value} {l : List Ver} (h : NewZ base w vl v l) (p : Addr) (u : Value) (hp : p.block < base) : NewZ base (w.setCell p u) vl v l := by
  obtain ⟨A, c, h1, h2, h3, h4, h5, h6⟩ := h
  exact ⟨A, c, h1, h2, h3, h4, h5.set h4 p u hp, h6⟩
/-- Chains of the call's own; an empty one may be. -/
structure OwnZ (base : Nat) (w : World) (vk vl : Value) (ks : List ByteArray) (ls : List (List Ver)) (vs : List Value) : Prop where
  ok : w.ownsRow base 9 1 vk ks.length (ks.flatMap encS)
  ol : w.ownsRow base 44 1 vl ls.length vs
  el : ∀ (i : Nat) (l : List Ver), ls[i]? = some l → ∃ v, vs[i]? = some v ∧ NewZ base w vl v l
  dj : ∀ g, vk.ownBlock = some g → vl.ownBlock ≠ some g
section
variable {base : Nat} {w w' : World} {vk vl : Value} {ks : List ByteArray} {ls : List (List Ver)} {vs : List Value}
theorem OwnZ.below (h : OwnZ base w vk vl ks ls vs) (hb : Below w.heap.size w w') : OwnZ base w' vk vl ks ls vs :=
  ⟨own_below h.ok hb, own_below h.ol hb, fun i l hi => by obtain ⟨v, hv, hs⟩ := h.el i l hi; exact ⟨v, hv, hs.below hb⟩, h.dj⟩
theorem OwnZ.set (h : OwnZ base w vk vl ks ls vs) (a : Addr) (u : Value) (ha : a.block < base) : OwnZ base (w.setCell a u) vk vl ks ls vs :=
  ⟨own_set h.ok a u ha, own_set h.ol a u ha, fun i l hi => by obtain ⟨v, hv, hs⟩ := h.el i l hi; exact ⟨v, hv, hs.set a u ha⟩, h.dj⟩
theorem OwnZ.list (h : OwnZ base w vk vl ks ls vs) {vl' v : Value} {l : List Ver} (ho : w'.ownsRow base 44 1 vl' (ls.length + 1) (vs ++ [v])) (hg : w.grownBy w' vl.ownBlock) (ha : vl'.ownBlock = vl.ownBlock ∨ vl'.ownBlock = some w.heap.size)
    (hv : NewZ base w vl v l) : OwnZ base w' vk vl' ks (ls ++ [l]) (vs ++ [v]) := by
  have hlen : vs.length = ls.length := by have := h.ol.1; simpa using this
  refine ⟨?_, by simpa using ho, fun i x hi => ?_, fun g hg1 hg2 => ?_⟩
  · refine h.ok.kept hg ?_
    cases hv : vk.ownBlock with
    | none => left; rfl
    | some g => right; intro e; exact h.dj g hv e.symm
  · rcases Nat.lt_or_ge i ls.length with q | q
    · rw [List.getElem?_append_left q] at hi
      obtain ⟨u, hu, hs⟩ := h.el i x hi
      exact ⟨u, by rw [List.getElem?_append_left (by omega)]; exact hu, hs.moved hg ha⟩
    · have e : i = ls.length := by
        have := lt_of_get hi
        simp at this; omega
      subst e
      rw [List.getElem?_append_right (Nat.le_refl _)] at hi
      obtain rfl : l = x := by simpa using hi
      exact ⟨v, by rw [List.getElem?_append_right (by omega)]; simp [hlen], hv.moved hg ha⟩
  · rcases ha with ha | ha
    · exact h.dj g hg1 (ha ▸ hg2)
    · have := (h.ok.lt g hg1).2
      rw [hg2] at ha; have := Option.some.inj ha; omega
theorem OwnZ.chb (h : OwnZ base w vk vl ks ls vs) : ChB base w (.agg #[vk, vl]) ks ls := by
  obtain ⟨AK, ck, rfl, hck, hrk, hnk, hNk⟩ := SlB.of_own (N := base) encS_len (by decide) (Nat.le_refl _) h.ok
  have hlen : vs.length = ls.length := by have := h.ol.1; simpa using this
  obtain ⟨AL, cl, rfl, hcl, hnl⟩ := own_slice h.ol
  refine ⟨AK, AL, ck, cl, rfl, hrk, fun i l hi => ?_, ⟨hck, hcl, hnk, hnl⟩, hNk, fun a ha => (h.ol.lt a.block (by rw [ha]; rfl)).1⟩
  obtain ⟨v, hv, A, c, rfl, h2, h3, h4, h5, h6⟩ := h.el i l hi
  have hil := lt_of_get hi
  obtain ⟨g, c', e, _, hbg, hg⟩ := own_some h.ol (by omega)
  have e2 : AL = some ⟨g, 0, none⟩ := by simpa using (Value.slice.inj e).1
  subst e2
  refine ⟨g, 0, _, rfl, hg, ?_, A, c, rfl, h2, h5, h3, h4⟩
  have := h.ol.cellAt i (by omega)
  rw [Nat.zero_add, this]; exact hv
end
/-- 'append(nil, keys..)'. -/
theorem append_keys (w : World) (ty : TypeId) (base : Nat) (AK : Option Addr) (ck : Nat) (ks : List ByteArray) (HK : RowE encS 1 w AK ks) (hnk : AK = none → ck = 0) (hk : ks.length * 16 ≤ 140737488351232) (hb : base ≤ w.heap.size) :
    ∃ v' w', (Builtin.append_ #[22, 22] ty #[.slice none 0 0, .slice AK ks.length ck]).run Try.prog w = .ok v' w' ∧ w'.ownsRow base 9 1 v' ks.length (ks.flatMap encS) ∧ w.grownBy w' none := by
  obtain ⟨iS, hiS1, hiS2, hiS3, hiS4⟩ := infoS
  cases AK with
  | none =>
    obtain rfl : ks = [] := by
      cases ks with
      | nil => rfl
      | cons k m => obtain ⟨b, off, e2, _⟩ := HK 0 k rfl; cases e2
    obtain rfl := hnk rfl
    exact ⟨_, w, run_append_owned_none (P := Try.prog) (w := w) base 22 ty 9 iS 1 Try.underlying22 hiS1 (.slice none 0 0) 0 [] (World.ownsRow_nil w base _ _), World.ownsRow_nil w base _ _, World.grownBy.refl w none⟩
  | some ad =>
    have hc : ∀ j u, (ks.flatMap encS)[j]? = some u → w.cell? (ad.add j) = some u := fun j u hu => by
      by_cases h0 : ks = []
      · subst h0; simp at hu
      · obtain ⟨b, off, hA, hlt, hc⟩ := HK.cells encS_len (by decide) h0
        obtain rfl : ad = ⟨b, off, none⟩ := Option.some.inj hA
        rw [Addr.add_lit]; exact hc j u hu
    obtain ⟨v', w', hrun, h1, h2, _⟩ := run_append_own_at (P := Try.prog) w base 22 ty 9 iS (.string ⟨#[]⟩) 1 16 Try.underlying22 hiS1 hiS2 hiS3 hiS4 rfl (by decide) (.slice none 0 0) 0 [] (World.ownsRow_nil w base _ _) ad ks.length ck (ks.flatMap encS) (by rw [flat_len encS_len]) hc (by rw [flat_encS]; simp [Value.oneCell']) (by simp only [maxLen]; omega) (by omega) hb
    exact ⟨v', w', hrun, by simpa using h1, h2⟩
set_option maxHeartbeats 4000000 in
set_option maxRecDepth 100000 in
theorem gof_any (AK AL : Option Addr) (ck cl : Nat) (ks : List ByteArray) (ls : List (List Ver)) (w : World) (HK : RowE encS 1 w AK ks) (HL : RowL w AL ls) (hnk : AK = none → ck = 0) (hk : ks.length * 16 ≤ 140737488351232) (hl : ls.length * 24 ≤ 140737488351232) (hls : ∀ l ∈ ls, l.length * 40 ≤ 140737488351232) :
    Calls Try.prog 9 #[.agg #[.slice AK ks.length ck, .slice AL ls.length cl]] w fun e w' => ∃ v, e = .returned v ∧ ChB w.heap.size w' v ks ls ∧ Below w.heap.size w w' := by
  obtain ⟨iS, hiS1, hiS2, hiS3, hiS4⟩ := infoS
  obtain ⟨iR, hiR1, hiR2, hiR3, hiR4⟩ := infoR
  have h0 : Below w.heap.size w (((w.alloc (.cells #[.slice AK ks.length ck, .slice AL ls.length cl] 25)).alloc (.cells #[.slice none 0 0, .slice none 0 0] 28)).alloc (.cells #[.slice none 0 0, .slice none 0 0] 28)) := (by (repeat (first | (with_reducible exact Below.refl _ _) | apply below_alloc _ (Nat.le_refl _) | refine below_set ?_ (by first | exact Nat.le_refl _ | omega) | apply below_drewN | refine below_step ?_ HB)))
  have BC := Lib.hid (((Box.new w #[.slice AK ks.length ck, .slice AL ls.length cl] 25).alloc (.cells #[.slice none 0 0, .slice none 0 0] 28)).alloc (.cells #[.slice none 0 0, .slice none 0 0] 28))
  have BR := Lib.hid ((Box.new (w.alloc (.cells #[.slice AK ks.length ck, .slice AL ls.length cl] 25)) #[.slice none 0 0, .slice none 0 0] 28).alloc (.cells #[.slice none 0 0, .slice none 0 0] 28))
  have BO := Lib.hid (Box.new ((w.alloc (.cells #[.slice AK ks.length ck, .slice AL ls.length cl] 25)).alloc (.cells #[.slice none 0 0, .slice none 0 0] 28)) #[.slice none 0 0, .slice none 0 0] 28)
  have RK := Lib.hid (HK.below h0)
  have RL := Lib.hid HL
  have HF := Lib.hid h0
  have HLS := Lib.hid hls
  simp only [World.size_alloc, Nat.add_assoc, Nat.reduceAdd] at BR BO
  clear HK HL h0 hls
  go_enter Try.func9, Try.ntmps9
  go_upto_region 2 with (fail)
  generalize ((w.alloc (.cells #[.slice AK ks.length ck, .slice AL ls.length cl] 25)).alloc (.cells #[.slice none 0 0, .slice none 0 0] 28)).alloc (.cells #[.slice none 0 0, .slice none 0 0] 28) = w0 at *
  have hz0 : w.heap.size + 3 ≤ w0.heap.size := BO.out.lt
  obtain ⟨vk, w1, hrun, hok, hgr⟩ := append_keys w0 22 (w.heap.size + 3) AK ck ks RK.out hnk hk hz0
  obtain ⟨Ak, ckk, rfl, _, _⟩ := own_slice hok
  have BC1 := Lib.hid (BC.out.grown hgr (by simp))
  have BR1 := Lib.hid (BR.out.grown hgr (by simp))
  have BO1 := Lib.hid (BO.out.grown hgr (by simp))
  have HF1 := Lib.hid (HF.out.grown hgr HF.out.size (fun k hk => by cases hk))
  have HOK := Lib.hid hok
  have hrun' := hrun
  clear hok hgr hnk RK
  have cBC0 := BC.out.c 0 _ rfl; have fBC0 := BC.out.f 0 (by simp); have cBC1 := BC.out.c 1 _ rfl; have fBC1 := BC.out.f 1 (by simp); have lBC := BC.out.lt; have cBO0 := BO.out.c 0 _ rfl; have fBO0 := BO.out.f 0 (by simp); have cBO1 := BO.out.c 1 _ rfl; have fBO1 := BO.out.f 1 (by simp); have lBO := BO.out.lt
  go_wp2_with (at_builtin; refine Lib.wpList_append_run _ rfl _ _ _ _ rfl _ _ rfl rfl _ _ hrun ?_; clear cBC0 fBC0 cBC1 fBC1 lBC; clear cBO0 fBO0 cBO1 fBO1 lBO; have cBC10 := BC1.out.c 0 _ rfl; have fBC10 := BC1.out.f 0 (by simp); have cBC11 := BC1.out.c 1 _ rfl; have fBC11 := BC1.out.f 1 (by simp); have lBC1 := BC1.out.lt; have cBO10 := BO1.out.c 0 _ rfl; have fBO10 := BO1.out.f 0 (by simp); have cBO11 := BO1.out.c 1 _ rfl; have fBO11 := BO1.out.f 1 (by simp); have lBO1 := BO1.out.lt)
  clear cBC10 fBC10 cBC11 fBC11 lBC1; clear cBO10 fBO10 cBO11 fBO11 lBO1
  have HF2 := Lib.hid (below_set (g := w.heap.size + 1 + 1) (j := 0) (v := .slice Ak ks.length ckk) HF1.out (by omega))
  have BO2 : Hid (Box (w1.setCell ⟨w.heap.size + 1 + 1, 0, none⟩ (.slice Ak ks.length ckk)) (w.heap.size + 2) [.slice Ak ks.length ckk, .slice none 0 0]) := Lib.hid (BO1.out.set 0 (.slice Ak ks.length ckk) (by simp))
  have BC2 := Lib.hid (BC1.out.other ⟨w.heap.size + 1 + 1, 0, none⟩ (.slice Ak ks.length ckk) (by show w.heap.size + 1 + 1 ≠ w.heap.size; omega))
  have BR2 := Lib.hid (BR1.out.other ⟨w.heap.size + 1 + 1, 0, none⟩ (.slice Ak ks.length ckk) (by show w.heap.size + 1 + 1 ≠ w.heap.size + 1; omega))
  have HW0 : Hid (OwnZ (w.heap.size + 3) w1 (.slice Ak ks.length ckk) (.slice none 0 0) ks [] []) := Lib.hid ⟨HOK.out, by simpa using World.ownsRow_nil w1 _ _ _, fun i l h => by simp at h, fun g _ h => by simp [Value.ownBlock] at h⟩
  have HW2 := Lib.hid (HW0.out.set ⟨w.heap.size + 1 + 1, 0, none⟩ (.slice Ak ks.length ckk) (by show w.heap.size + 1 + 1 < w.heap.size + 3; omega))
  clear HF1 BO1 BC1 BR1 BC BR BO HF HOK HW0 hrun hrun'
  generalize w1.setCell ⟨w.heap.size + 1 + 1, 0, none⟩ (.slice Ak ks.length ckk) = w2 at *
  clear w1 hz0
  go_loopw [4] (fun s4 wr => ∃ j : Nat, j ≤ ls.length ∧ s4 = .int .i64 j ∧ Hid (Below w.heap.size w wr) ∧ Hid (Box wr w.heap.size [.slice AK ks.length ck, .slice AL ls.length cl]) ∧ Hid (Box wr (w.heap.size + 1) [.slice none 0 0, .slice none 0 0]) ∧ ∃ vl vs, Hid (OwnZ (w.heap.size + 3) wr (.slice Ak ks.length ckk) vl ks (ls.take j) vs) ∧ Hid (Box wr (w.heap.size + 2) [.slice Ak ks.length ckk, vl])) (fun s4 _ => ls.length - (Lib.intOf s4).toNat)
  case atStart => exact ⟨0, Nat.zero_le _, rfl, HF2, BC2, BR2, .slice none 0 0, [], HW2, BO2⟩
  case round =>
    obtain ⟨j, hj, rfl, HFr, BCr, BRr, vl, vs, HW, BOr⟩ := hrel
    clear HF2 BC2 BR2 HW2 BO2
    obtain ⟨Al2, cl2, rfl, _, _⟩ := own_slice HW.out.ol
    by_cases hlt : j < ls.length
    · obtain ⟨l, hl0⟩ : ∃ l, ls[j]? = some l := ⟨_, List.getElem?_eq_getElem hlt⟩
      obtain ⟨bl, ol, v, rfl, hbl, hcl, A, c', rfl, hlc, hrl, hnl⟩ := RL.out j l hl0
      have gl : wr.cell? ⟨bl, ol + j, none⟩ = some (.slice A l.length c') := (HFr.out.cell (p := ⟨bl, ol + j, none⟩) hbl).trans hcl
      have hta : ls.take (j + 1) = ls.take j ++ [l] := by rw [List.take_add_one, hl0]; rfl
      have hji : (j : Int) < (ls.length : Int) := by omega
      have htl : (ls.take j).length ≤ ls.length := by rw [List.length_take]; omega
      replace hta := Lib.hid hta
      have hl16 := HLS.out l (List.mem_of_getElem? hl0)
      clear hcl
      generalize ls.take j = L at *
      have cBCr0 := BCr.out.c 0 _ rfl; have fBCr0 := BCr.out.f 0 (by simp); have cBCr1 := BCr.out.c 1 _ rfl; have fBCr1 := BCr.out.f 1 (by simp); have lBCr := BCr.out.lt; have cBOr0 := BOr.out.c 0 _ rfl; have fBOr0 := BOr.out.f 0 (by simp); have cBOr1 := BOr.out.c 1 _ rfl; have fBOr1 := BOr.out.f 1 (by simp); have lBOr := BOr.out.lt
      go_upto_region 6 with (fail)
      clear cBCr0 fBCr0 cBCr1 fBCr1 lBCr; clear cBOr0 fBOr0 cBOr1 fBOr1 lBOr
      refine stage_begin (S := fun (L' : Array Bool) (w' : World) => (w'.cell? ⟨w.heap.size, 1, none⟩ = some (.slice (some ⟨bl, ol, none⟩) ls.length cl) ∧ w'.cell? ⟨bl, ol + j, none⟩ = some (.slice A l.length c')) ∧ (L'.getD 11 false = false → w'.cell? ⟨w.heap.size + 2, 1, none⟩ = some (.slice Al2 L.length cl2))) (by kernel_rfl) ?_
      have HFx : Hid (Below w.heap.size w wr.drew) := Lib.hid (below_drewN HFr.out 1)
      have BCx := Lib.hid BCr.out.drew
      have BRx := Lib.hid BRr.out.drew
      have BOx := Lib.hid BOr.out.drew
      have HWx : Hid (OwnZ (w.heap.size + 3) wr.drew (.slice Ak ks.length ckk) (.slice Al2 L.length cl2) ks L vs) := Lib.hid (HW.out.below (below_drewN (Below.refl _ wr) 1))
      have gx : wr.drew.cell? ⟨bl, ol + j, none⟩ = some (.slice A l.length c') := gl
      have hof := of_any A c' l wr.drew (hrl.below HFx.out) (HLS.out l (List.mem_of_getElem? hl0))
      have hz3 : w.heap.size + 3 ≤ wr.drew.heap.size := BOr.out.lt
      clear HFr BCr BRr BOr HW gl hrl
      generalize wr.drew = wd at *
      have hS1 := BOx.out.c 1 _ rfl
      have hS0 : (fun w' : World => w'.cell? ⟨w.heap.size, 1, none⟩ = some (.slice (some ⟨bl, ol, none⟩) ls.length cl) ∧ w'.cell? ⟨bl, ol + j, none⟩ = some (.slice A l.length c')) wd := ⟨BCx.out.c 1 _ rfl, gx⟩
      refine stage_take (i := 0) (oi := { dst := some 18, op := Go.Op.fieldAddr 28 (Go.Operand.tmp 3) 1, type := 0, pos := "law.go:19", after := #[], guard := none }) (v := ?_) (T := fun _ => True) rfl (by kernel_rfl) (by kernel_rfl) (by kernel_rfl) (by kernel_rfl) (fun _ _ _ h => h) (fun L' w' hW hS => trivial) (fun L' w' hS => ⟨hS.1, fun h => hS.2 (by rw [getD_set_ne false (by decide)]; exact h)⟩) (Or.inl ⟨by rfl, ?_⟩) trivial (⟨hS0, fun _ => hS1⟩) ?_
      rotate_left 1
      · intro w9 _; go_simp; (try with_reducible rfl)
      try simp only [Act.put, List.setIfInBounds_toArray, List.set_cons_zero, List.set_cons_succ]
      refine stage_take (i := 1) (oi := { dst := some 19, op := Go.Op.load 26 (Go.Operand.tmp 18), type := 26, pos := "law.go:19", after := #[{ on := 0, ground := Go.Ground.data }], guard := none }) (v := ?_) (T := fun w' : World => w'.cell? ⟨w.heap.size + 2, 1, none⟩ = some (.slice Al2 L.length cl2)) rfl (by kernel_rfl) (by kernel_rfl) (by kernel_rfl) (by kernel_rfl) (fun _ _ _ h => h) (fun L' w' hW hS => hS.2 (not_yet hW (by kernel_rfl))) (fun L' w' hS => ⟨hS.1, fun h => hS.2 (by rw [getD_set_ne false (by decide)]; exact h)⟩) (Or.inl ⟨by rfl, ?_⟩) (hS1) (⟨hS0, fun _ => hS1⟩) ?_
      rotate_left 1
      · intro w9 hS9; obtain z0 := hS9; go_simp; (try with_reducible rfl)
      try simp only [Act.put, List.setIfInBounds_toArray, List.set_cons_zero, List.set_cons_succ]
      refine stage_take (i := 2) (oi := { dst := some 20, op := Go.Op.fieldAddr 25 (Go.Operand.tmp 1) 1, type := 0, pos := "law.go:19", after := #[], guard := none }) (v := ?_) (T := fun _ => True) rfl (by kernel_rfl) (by kernel_rfl) (by kernel_rfl) (by kernel_rfl) (fun _ _ _ h => h) (fun L' w' hW hS => trivial) (fun L' w' hS => ⟨hS.1, fun h => hS.2 (by rw [getD_set_ne false (by decide)]; exact h)⟩) (Or.inl ⟨by rfl, ?_⟩) trivial (⟨hS0, fun _ => hS1⟩) ?_
      rotate_left 1
      · intro w9 _; go_simp; (try with_reducible rfl)
      try simp only [Act.put, List.setIfInBounds_toArray, List.set_cons_zero, List.set_cons_succ]
      refine stage_take (i := 3) (oi := { dst := some 21, op := Go.Op.load 23 (Go.Operand.tmp 20), type := 23, pos := "law.go:19", after := #[{ on := 2, ground := Go.Ground.data }], guard := none }) (v := ?_) (T := fun w' : World => w'.cell? ⟨w.heap.size, 1, none⟩ = some (.slice (some ⟨bl, ol, none⟩) ls.length cl) ∧ w'.cell? ⟨bl, ol + j, none⟩ = some (.slice A l.length c')) rfl (by kernel_rfl) (by kernel_rfl) (by kernel_rfl) (by kernel_rfl) (fun _ _ _ h => h) (fun L' w' hW hS => hS.1) (fun L' w' hS => ⟨hS.1, fun h => hS.2 (by rw [getD_set_ne false (by decide)]; exact h)⟩) (Or.inl ⟨by rfl, ?_⟩) (hS0) (⟨hS0, fun _ => hS1⟩) ?_
      rotate_left 1
      · intro w9 hS9; obtain ⟨z0, z1⟩ := hS9; go_simp; (try with_reducible rfl)
      try simp only [Act.put, List.setIfInBounds_toArray, List.set_cons_zero, List.set_cons_succ]
      refine stage_take (i := 4) (oi := { dst := some 22, op := Go.Op.move (Go.Operand.tmp 4), type := 3, pos := "law.go:19", after := #[], guard := none }) (v := ?_) (T := fun _ => True) rfl (by kernel_rfl) (by kernel_rfl) (by kernel_rfl) (by kernel_rfl) (fun _ _ _ h => h) (fun L' w' hW hS => trivial) (fun L' w' hS => ⟨hS.1, fun h => hS.2 (by rw [getD_set_ne false (by decide)]; exact h)⟩) (Or.inl ⟨by rfl, ?_⟩) trivial (⟨hS0, fun _ => hS1⟩) ?_
      rotate_left 1
      · intro w9 _; go_simp; (try with_reducible rfl)
      try simp only [Act.put, List.setIfInBounds_toArray, List.set_cons_zero, List.set_cons_succ]
      refine stage_take (i := 5) (oi := { dst := some 23, op := Go.Op.indexAddr 23 (Go.Operand.tmp 21) (Go.Operand.tmp 22), type := 0, pos := "law.go:19", after := #[{ on := 3, ground := Go.Ground.data }, { on := 4, ground := Go.Ground.data }], guard := none }) (v := ?_) (T := fun _ => True) rfl (by kernel_rfl) (by kernel_rfl) (by kernel_rfl) (by kernel_rfl) (fun _ _ _ h => h) (fun L' w' hW hS => trivial) (fun L' w' hS => ⟨hS.1, fun h => hS.2 (by rw [getD_set_ne false (by decide)]; exact h)⟩) (Or.inl ⟨by rfl, ?_⟩) trivial (⟨hS0, fun _ => hS1⟩) ?_
      rotate_left 1
      · intro w9 _; go_simp; (try with_reducible rfl)
      try simp only [Act.put, List.setIfInBounds_toArray, List.set_cons_zero, List.set_cons_succ]
      refine stage_take (i := 6) (oi := { dst := some 24, op := Go.Op.load 39 (Go.Operand.tmp 23), type := 39, pos := "law.go:19", after := #[{ on := 5, ground := Go.Ground.data }], guard := none }) (v := ?_) (T := fun w' : World => w'.cell? ⟨w.heap.size, 1, none⟩ = some (.slice (some ⟨bl, ol, none⟩) ls.length cl) ∧ w'.cell? ⟨bl, ol + j, none⟩ = some (.slice A l.length c')) rfl (by kernel_rfl) (by kernel_rfl) (by kernel_rfl) (by kernel_rfl) (fun _ _ _ h => h) (fun L' w' hW hS => hS.1) (fun L' w' hS => ⟨hS.1, fun h => hS.2 (by rw [getD_set_ne false (by decide)]; exact h)⟩) (Or.inl ⟨by rfl, ?_⟩) (hS0) (⟨hS0, fun _ => hS1⟩) ?_
      rotate_left 1
      · intro w9 hS9; obtain ⟨z0, z1⟩ := hS9; go_simp; (try with_reducible rfl)
      try simp only [Act.put, List.setIfInBounds_toArray, List.set_cons_zero, List.set_cons_succ]
      clear hS0 hS1
      refine stage_all (rs := [7]) (by kernel_rfl) (by simp) (fun i0 hi0 => ?_)
      obtain rfl : i0 = 7 := by simpa using hi0
      refine stage_step (S := fun (L' : Array Bool) (w' : World) => (w'.cell? ⟨w.heap.size, 1, none⟩ = some (.slice (some ⟨bl, ol, none⟩) ls.length cl) ∧ w'.cell? ⟨bl, ol + j, none⟩ = some (.slice A l.length c')) ∧ (L'.getD 11 false = false → w'.cell? ⟨w.heap.size + 2, 1, none⟩ = some (.slice Al2 L.length cl2))) (o := { dst := some 25, op := Go.Op.call { callee := Go.Callee.value (Go.Operand.func 24), args := #[Go.Operand.tmp 24], argTypes := #[39] }, type := 44, pos := "law.go:19", after := #[{ on := 6, ground := Go.Ground.data }], guard := none }) (by rfl) (fun K2 hK => ?_)
      go_simp
      go_wp2_with (go_at_call 24; (with_reducible refine hof.mono ?_); rintro e w2 ⟨v2, rfl, ⟨A2, c2, rfl, hc2, hr2, hn2, hN2⟩, h2⟩)
      replace HFx := Lib.hid (below_step' HFx.out h2)
      replace BCx := Lib.hid (BCx.out.step h2)
      replace BRx := Lib.hid (BRx.out.step h2)
      replace BOx := Lib.hid (BOx.out.step h2)
      replace gx := (h2.cell (p := ⟨bl, ol + j, none⟩) (World.block_lt_of_cell? _ _ gx)).trans gx
      have HNx : Hid (NewZ (w.heap.size + 3) w2 (.slice Al2 L.length cl2) (.slice A2 l.length c2) l) := Lib.hid ⟨A2, c2, rfl, hc2, hn2, fun a ha => Nat.le_trans hz3 (hN2 a ha), hr2, fun _ a ha e => by have := (HWx.out.ol.lt _ e).2; have := hN2 a ha; omega⟩
      replace HWx := Lib.hid (HWx.out.below h2)
      replace hz3 : w.heap.size + 3 ≤ w2.heap.size := BOx.out.lt
      clear hof hr2 hn2 hN2 h2
      refine hK.out _ _ (⟨⟨BCx.out.c 1 _ rfl, gx⟩, fun _ => BOx.out.c 1 _ rfl⟩) ?_
      clear hK K2
      try simp only [Act.put, List.setIfInBounds_toArray, List.set_cons_zero, List.set_cons_succ]
      refine stage_all (rs := [8]) (by kernel_rfl) (by simp) (fun i0 hi0 => ?_)
      obtain rfl : i0 = 8 := by simpa using hi0
      refine stage_step (S := fun (L' : Array Bool) (w' : World) => (w'.cell? ⟨w.heap.size, 1, none⟩ = some (.slice (some ⟨bl, ol, none⟩) ls.length cl) ∧ w'.cell? ⟨bl, ol + j, none⟩ = some (.slice A l.length c')) ∧ (L'.getD 11 false = false → w'.cell? ⟨w.heap.size + 2, 1, none⟩ = some (.slice Al2 L.length cl2))) (o := { dst := some 26, op := Go.Op.buildSlice 26 1 #[(0, Go.Operand.tmp 25)], type := 26, pos := "law.go:19", after := #[{ on := 7, ground := Go.Ground.data }], guard := none }) (by rfl) (fun K2 hK => ?_)
      go_simp
      have N8 : Hid (Box (w2.alloc (.cells #[.slice A2 l.length c2] 44)) w2.heap.size [.slice A2 l.length c2]) := Lib.hid (Box.new w2 #[.slice A2 l.length c2] _)
      have h2 := (Below.refl w2.heap.size w2).alloc (Nat.le_refl _) (.cells #[.slice A2 l.length c2] 44)
      replace HFx := Lib.hid (below_step' HFx.out h2)
      replace BCx := Lib.hid (BCx.out.step h2)
      replace BRx := Lib.hid (BRx.out.step h2)
      replace BOx := Lib.hid (BOx.out.step h2)
      replace gx := (h2.cell (p := ⟨bl, ol + j, none⟩) (World.block_lt_of_cell? _ _ gx)).trans gx
      replace HWx := Lib.hid (HWx.out.below h2)
      replace HNx := Lib.hid (HNx.out.below h2)
      replace hz3 : w.heap.size + 3 ≤ (w2.alloc (.cells #[.slice A2 l.length c2] 44)).heap.size := BOx.out.lt
      clear h2
      refine hK.out _ _ (⟨⟨BCx.out.c 1 _ rfl, gx⟩, fun _ => BOx.out.c 1 _ rfl⟩) ?_
      clear hK K2
      try simp only [Act.put, List.setIfInBounds_toArray, List.set_cons_zero, List.set_cons_succ]
      generalize w2.alloc (.cells #[.slice A2 l.length c2] 44) = w8 at *
      generalize w2.heap.size = g8 at *
      clear w2
      refine stage_all (rs := [9]) (by kernel_rfl) (by simp) (fun i0 hi0 => ?_)
      obtain rfl : i0 = 9 := by simpa using hi0
      refine stage_step (S := fun (L' : Array Bool) (w' : World) => (w'.cell? ⟨w.heap.size, 1, none⟩ = some (.slice (some ⟨bl, ol, none⟩) ls.length cl) ∧ w'.cell? ⟨bl, ol + j, none⟩ = some (.slice A l.length c')) ∧ (L'.getD 11 false = false → w'.cell? ⟨w.heap.size + 2, 1, none⟩ = some (.slice Al2 L.length cl2))) (o := { dst := some 27, op := Go.Op.call { callee := Go.Callee.builtin Go.Builtin.append, args := #[Go.Operand.tmp 19, Go.Operand.tmp 26], argTypes := #[26, 26] }, type := 26, pos := "law.go:19", after := #[{ on := 1, ground := Go.Ground.data }, { on := 8, ground := Go.Ground.data }, { on := 7, ground := Go.Ground.chain }], guard := none }) (by rfl) (fun K2 hK => ?_)
      refine step_append_at rfl _ _ 26 rfl (w.heap.size + 3) 44 iR (.slice none 0 0) 1 24 rfl hiR1 hiR2 hiR3 hiR4 rfl (by decide) _ L.length vs rfl HWx.out.ol ⟨g8, 0, none⟩ 1 1 [.slice A2 l.length c2] rfl rfl (fun i u hi => by rw [Addr.add_lit, Nat.zero_add]; exact N8.out.c i u hi) (by simp [Value.oneCell']) (by simp only [maxLen]; omega) (by omega) hz3 (fun vl2 w9 hown hgrow hat => ?_)
      have qc : (Value.slice Al2 L.length cl2).ownBlock ≠ some w.heap.size := fun q => by have := (HWx.out.ol.lt w.heap.size q).1; omega
      have qr : (Value.slice Al2 L.length cl2).ownBlock ≠ some (w.heap.size + 1) := fun q => by have := (HWx.out.ol.lt (w.heap.size + 1) q).1; omega
      have qo : (Value.slice Al2 L.length cl2).ownBlock ≠ some (w.heap.size + 2) := fun q => by have := (HWx.out.ol.lt (w.heap.size + 2) q).1; omega
      have ql : (Value.slice Al2 L.length cl2).ownBlock ≠ some bl := fun q => by have := (HWx.out.ol.lt bl q).1; omega
      replace HFx := Lib.hid (HFx.out.grown hgrow (by omega) (fun k hk => by have := (HWx.out.ol.lt k hk).1; omega))
      replace BCx := Lib.hid (BCx.out.grown hgrow (Ne.symm qc))
      replace BRx := Lib.hid (BRx.out.grown hgrow (Ne.symm qr))
      replace BOx := Lib.hid (BOx.out.grown hgrow (Ne.symm qo))
      replace gx := (World.cell?_of_block (a := ⟨bl, ol + j, none⟩) (hgrow.block bl (World.block_lt_of_cell? _ _ gx) (Ne.symm ql))).trans gx
      obtain ⟨Al3, cl3, rfl, _, _⟩ := own_slice hown
      replace HWx := Lib.hid (HWx.out.list hown hgrow hat HNx.out)
      replace hz3 : w.heap.size + 3 ≤ w9.heap.size := BOx.out.lt
      clear hown hgrow hat qc qr qo ql HNx N8
      refine hK.out _ _ (⟨⟨BCx.out.c 1 _ rfl, gx⟩, fun _ => BOx.out.c 1 _ rfl⟩) ?_
      clear hK K2
      try simp only [Act.put, List.setIfInBounds_toArray, List.set_cons_zero, List.set_cons_succ]
      refine stage_take (i := 10) (oi := { dst := some 28, op := Go.Op.fieldAddr 28 (Go.Operand.tmp 3) 1, type := 0, pos := "law.go:19", after := #[{ on := 0, ground := Go.Ground.phase }, { on := 1, ground := Go.Ground.phase }, { on := 2, ground := Go.Ground.phase }, { on := 3, ground := Go.Ground.phase }, { on := 4, ground := Go.Ground.phase }, { on := 5, ground := Go.Ground.phase }, { on := 6, ground := Go.Ground.phase }, { on := 7, ground := Go.Ground.phase }, { on := 8, ground := Go.Ground.phase }, { on := 9, ground := Go.Ground.phase }], guard := none }) (v := ?_) (T := fun _ => True) rfl (by kernel_rfl) (by kernel_rfl) (by kernel_rfl) (by kernel_rfl) (fun _ _ _ h => h) (fun L' w' hW hS => trivial) (fun L' w' hS => ⟨hS.1, fun h => hS.2 (by rw [getD_set_ne false (by decide)]; exact h)⟩) (Or.inl ⟨by rfl, ?_⟩) trivial (⟨⟨BCx.out.c 1 _ rfl, gx⟩, fun _ => BOx.out.c 1 _ rfl⟩) ?_
      rotate_left 1
      · intro w9 _; go_simp; (try with_reducible rfl)
      try simp only [Act.put, List.setIfInBounds_toArray, List.set_cons_zero, List.set_cons_succ]
      refine stage_all (rs := [11]) (by kernel_rfl) (by simp) (fun i0 hi0 => ?_)
      obtain rfl : i0 = 11 := by simpa using hi0
      refine stage_step (S := fun (L' : Array Bool) (w' : World) => (w'.cell? ⟨w.heap.size, 1, none⟩ = some (.slice (some ⟨bl, ol, none⟩) ls.length cl) ∧ w'.cell? ⟨bl, ol + j, none⟩ = some (.slice A l.length c')) ∧ (L'.getD 11 false = false → w'.cell? ⟨w.heap.size + 2, 1, none⟩ = some (.slice Al2 L.length cl2))) (o := { dst := none, op := Go.Op.store 26 (Go.Operand.tmp 28) (Go.Operand.tmp 27), type := 0, pos := "law.go:19", after := #[{ on := 10, ground := Go.Ground.data }, { on := 9, ground := Go.Ground.data }, { on := 9, ground := Go.Ground.chain }, { on := 0, ground := Go.Ground.phase }, { on := 1, ground := Go.Ground.phase }, { on := 2, ground := Go.Ground.phase }, { on := 3, ground := Go.Ground.phase }, { on := 4, ground := Go.Ground.phase }, { on := 5, ground := Go.Ground.phase }, { on := 6, ground := Go.Ground.phase }, { on := 7, ground := Go.Ground.phase }, { on := 8, ground := Go.Ground.phase }, { on := 9, ground := Go.Ground.phase }], guard := none }) (by rfl) (fun K2 hK => ?_)
      have cBOx0 := BOx.out.c 0 _ rfl; have fBOx0 := BOx.out.f 0 (by simp); have cBOx1 := BOx.out.c 1 _ rfl; have fBOx1 := BOx.out.f 1 (by simp); have lBOx := BOx.out.lt
      go_simp
      clear cBOx0 fBOx0 cBOx1 fBOx1 lBOx
      replace HFx := Lib.hid (below_set (g := w.heap.size + 2) (j := 1) (v := (.slice Al3 (L.length + 1) cl3)) HFx.out (by omega))
      replace BOx : Hid (Box (w9.setCell ⟨w.heap.size + 2, 1, none⟩ (.slice Al3 (L.length + 1) cl3)) (w.heap.size + 2) [.slice Ak ks.length ckk, (.slice Al3 (L.length + 1) cl3)]) := Lib.hid (BOx.out.set 1 _ (by simp))
      replace BCx := Lib.hid (BCx.out.other ⟨w.heap.size + 2, 1, none⟩ (.slice Al3 (L.length + 1) cl3) (by show w.heap.size + 2 ≠ w.heap.size; omega))
      replace BRx := Lib.hid (BRx.out.other ⟨w.heap.size + 2, 1, none⟩ (.slice Al3 (L.length + 1) cl3) (by show w.heap.size + 2 ≠ w.heap.size + 1; omega))
      replace HWx := Lib.hid (HWx.out.set ⟨w.heap.size + 2, 1, none⟩ (.slice Al3 (L.length + 1) cl3) (by show w.heap.size + 2 < w.heap.size + 3; omega))
      replace gx := (World.cell?_of_block (a := ⟨bl, ol + j, none⟩) (heap_setCell_other w9 ⟨w.heap.size + 2, 1, none⟩ bl (.slice Al3 (L.length + 1) cl3) (by show bl ≠ w.heap.size + 2; omega))).trans gx
      refine hK.out _ _ (⟨⟨BCx.out.c 1 _ rfl, gx⟩, fun h => by simp at h⟩) ?_
      clear hK K2
      try simp only [Act.put, List.setIfInBounds_toArray, List.set_cons_zero, List.set_cons_succ]
      generalize w9.setCell ⟨w.heap.size + 2, 1, none⟩ (.slice Al3 (L.length + 1) cl3) = w10 at *
      refine stage_done (by kernel_rfl) ?_ _
      go_wp2_with fail
      go_roundw
      case rel => exact ⟨j + 1, by omega, by go_num, HFx, BCx, BRx, _, _, Lib.hid (by rw [hta.out]; exact HWx.out), BOx⟩
      case measure => simp [Lib.intOf]; omega
    · obtain rfl : j = ls.length := by omega
      rw [List.take_length] at HW BOr
      have hz3 : w.heap.size + 3 ≤ wr.heap.size := BOr.out.lt
      have cBCr0 := BCr.out.c 0 _ rfl; have fBCr0 := BCr.out.f 0 (by simp); have cBCr1 := BCr.out.c 1 _ rfl; have fBCr1 := BCr.out.f 1 (by simp); have lBCr := BCr.out.lt; have cBRr0 := BRr.out.c 0 _ rfl; have fBRr0 := BRr.out.f 0 (by simp); have cBRr1 := BRr.out.c 1 _ rfl; have fBRr1 := BRr.out.f 1 (by simp); have lBRr := BRr.out.lt; have cBOr0 := BOr.out.c 0 _ rfl; have fBOr0 := BOr.out.f 0 (by simp); have cBOr1 := BOr.out.c 1 _ rfl; have fBOr1 := BOr.out.f 1 (by simp); have lBOr := BOr.out.lt
      go_wp2_with fail
      clear cBCr0 fBCr0 cBCr1 fBCr1 lBCr; clear cBRr0 fBRr0 cBRr1 fBRr1 lBRr; clear cBOr0 fBOr0 cBOr1 fBOr1 lBOr
      have BX : Hid (Box ((wr.setCell ⟨w.heap.size + 1, 0, none⟩ (.slice Ak ks.length ckk)).setCell ⟨w.heap.size + 1, 1, none⟩ (.slice Al2 ls.length cl2)) (w.heap.size + 1) [.slice Ak ks.length ckk, .slice Al2 ls.length cl2]) := Lib.hid ((BRr.out.set 0 (.slice Ak ks.length ckk) (by simp)).set 1 (.slice Al2 ls.length cl2) (by simp))
      have HX := Lib.hid (below_set (g := w.heap.size + 1) (j := 1) (v := .slice Al2 ls.length cl2) (below_set (g := w.heap.size + 1) (j := 0) (v := .slice Ak ks.length ckk) HFr.out (Nat.le_succ _)) (Nat.le_succ _))
      have HV := Lib.hid (((HW.out.set ⟨w.heap.size + 1, 0, none⟩ (.slice Ak ks.length ckk) (by show w.heap.size + 1 < w.heap.size + 3; omega)).set ⟨w.heap.size + 1, 1, none⟩ (.slice Al2 ls.length cl2) (by show w.heap.size + 1 < w.heap.size + 3; omega)).chb.mono (M := w.heap.size) (by omega))
      generalize (wr.setCell ⟨w.heap.size + 1, 0, none⟩ (.slice Ak ks.length ckk)).setCell ⟨w.heap.size + 1, 1, none⟩ (.slice Al2 ls.length cl2) = wz at *
      have cBX0 := BX.out.c 0 _ rfl; have fBX0 := BX.out.f 0 (by simp); have cBX1 := BX.out.c 1 _ rfl; have fBX1 := BX.out.f 1 (by simp); have lBX := BX.out.lt
      refine bodyPost_ret (v := .agg #[.slice Ak ks.length ckk, .slice Al2 ls.length cl2]) (by simp [results, Try.results9, go_sem, cBX0, cBX1]) rfl ?_
      exact ⟨_, rfl, HV.out, HX.out⟩
end Go.Proofs.Ytpkacnoimdjckaa
