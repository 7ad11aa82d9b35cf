/- Package gc: Put. -/
import Derived.Test.YtpkacnoimdjckaaOwnC2
import Derived.Test.YtpkacnoimdjckaaGetW
namespace Go.Proofs.Ytpkacnoimdjckaa
open Go.RowKit
open Go.Shelf
set_option linter.unusedVariables false
set_option linter.unusedSimpArgs false
/-- Where a key stands, or would stand. -/
def place : List ByteArray → ByteArray → Nat
  | [], _ => 0
  | k :: ks, t => if lt? k t = true then place ks t + 1 else 0
def atK (ks : List ByteArray) (t : ByteArray) : Bool := match ks[place ks t]? with
  | some y => decide (y.toList = t.toList)
  | none => false
theorem place_eq : ∀ (ks : List ByteArray) (t : ByteArray) (i : Nat), i ≤ ks.length → (∀ (k : Nat) (y : ByteArray), k < i → ks[k]? = some y → lt? y t = true) → (∀ (k : Nat) (y : ByteArray), i ≤ k → ks[k]? = some y → lt? y t = false) → place ks t = i
  | [], t, i, hi, _, _ => by simp at hi; subst hi; rfl
  | k :: ks, t, 0, _, _, h2 => by
    have := h2 0 k (Nat.le_refl _) rfl
    simp [place, this]
  | k :: ks, t, i + 1, hi, h1, h2 => by
    have := h1 0 k (by omega) rfl
    simp only [place, this, if_true]
    rw [place_eq ks t i (by simpa using hi) (fun m y hm hy => h1 (m + 1) y (by omega) (by simpa using hy)) (fun m y hm hy => h2 (m + 1) y (by omega) (by simpa using hy))]
theorem atK_eq {ks : List ByteArray} {t : ByteArray} {ok : Bool} (h : ok = true ↔ ∃ y, ks[place ks t]? = some y ∧ y.toList = t.toList) : atK ks t = ok := by
  unfold atK
  cases hy : ks[place ks t]? with
  | none => cases ok with
    | false => rfl
    | true => obtain ⟨y, h1, _⟩ := h.1 rfl; rw [hy] at h1; cases h1
  | some y => cases ok with
    | true => obtain ⟨y', h1, h2⟩ := h.1 rfl; rw [hy] at h1; obtain rfl := Option.some.inj h1; simpa using h2
    | false =>
      have : ¬ y.toList = t.toList := fun e => by have := h.2 ⟨y, hy, e⟩; cases this
      simpa using this
/-- A put. -/
def oldP (ks : List ByteArray) (ls : List (List Ver)) (key : ByteArray) : List Ver := if atK ks key = true then (ls[place ks key]?).getD [] else []
def putR (ks : List ByteArray) (ls : List (List Ver)) (key : ByteArray) (snap tx : Int) (gone : Bool) (val : ByteArray) : List ByteArray × List (List Ver) × Int :=
  if chkC ks ls ≠ 0 then ([], [], chkC ks ls)
  else if (1024 : Int) < key.size then ([], [], 31)
  else if (write snap tx gone val (oldP ks ls key)).2 ≠ 0 then ([], [], (write snap tx gone val (oldP ks ls key)).2)
  else if atK ks key = true then (ks, ls.set (place ks key) (write snap tx gone val (oldP ks ls key)).1, 0)
  else if ks.length = 2048 then ([], [], 51)
  else (putV ks (place ks key) key, putV ls (place ks key) (write snap tx gone val (oldP ks ls key)).1, 0)
theorem write_some {snap tx : Int} {gone : Bool} {val : ByteArray} {l : List Ver} (h : (write snap tx gone val l).2 = 0) (hc : chk l = 0) : (write snap tx gone val l).1 ≠ [] := by
  unfold write at h ⊢
  rw [if_neg (by simp [hc])] at h ⊢
  by_cases a : tx < 1 ∨ 1099511627776 < tx
  · rw [if_pos a] at h; simp at h
  · rw [if_neg a] at h ⊢
    by_cases b : (4096 : Int) < val.size ∨ (gone = true ∧ val.toList.isEmpty = false)
    · rw [if_pos b] at h; simp at h
    · rw [if_neg b] at h ⊢
      by_cases c : openB tx l = true
      · rw [if_pos c]; simp
      · rw [if_neg c] at h ⊢
        by_cases d : clash snap l = true
        · rw [if_pos d] at h; simp at h
        · rw [if_neg d] at h ⊢
          by_cases f : l.length = 64
          · rw [if_pos f] at h; simp at h
          · rw [if_neg f]; simp
set_option maxHeartbeats 8000000 in
set_option maxRecDepth 100000 in
theorem gput_any (AK AL : Option Addr) (ck cl : Nat) (ks : List ByteArray) (ls : List (List Ver)) (key : ByteArray) (snap tx : Int) (gone : Bool) (val : ByteArray) (w : World)
    (HK : RowE encS 1 w AK ks) (HL : RowL w AL ls) (hnk : AK = none → ck = 0) (hnl : AL = none → cl = 0) (hk : ks.length ≤ 140737488355328) (hl : ls.length ≤ 140737488355328) :
    Calls Try.prog 10 #[.agg #[.slice AK ks.length ck, .slice AL ls.length cl], .string key, .int .i64 snap, .int .i64 tx, .bool gone, .string val] w fun e w' =>
      ∃ v, e = .returned (.tuple #[v, .int .i64 (putR ks ls key snap tx gone val).2.2]) ∧ ChB w.heap.size w' v (putR ks ls key snap tx gone val).1 (putR ks ls key snap tx gone val).2.1 ∧ Below w.heap.size w w' := by
  obtain ⟨iS, hiS1, hiS2, hiS3, hiS4⟩ := infoS
  have h0 : Below w.heap.size w ((w.alloc (.cells #[.slice AK ks.length ck, .slice AL ls.length cl] 28)).alloc (.cells #[.slice none 0 0, .slice none 0 0] 28)) := (by (repeat (first | (with_reducible exact Below.refl _ _) | apply below_alloc _ (Nat.le_refl _) | refine below_set ?_ (by first | exact Nat.le_refl _ | omega) | apply below_drewN | refine below_step ?_ HB)))
  have BC := Lib.hid ((Box.new w #[.slice AK ks.length ck, .slice AL ls.length cl] 28).alloc (.cells #[.slice none 0 0, .slice none 0 0] 28))
  have BR := Lib.hid (Box.new (w.alloc (.cells #[.slice AK ks.length ck, .slice AL ls.length cl] 28)) #[.slice none 0 0, .slice none 0 0] 28)
  have RK := Lib.hid (HK.below h0)
  have RL := Lib.hid (HL.below h0)
  have HF := Lib.hid h0
  have hck := gcheck_any AK AL ck cl ks ls _ RK.out RL.out hk hl
  simp only [World.size_alloc] at BR
  have CK := Lib.hid (fun h => chkC_ok (ks := ks) (ls := ls) h)
  obtain ⟨g, hg⟩ : ∃ g, g = putR ks ls key snap tx gone val := ⟨_, rfl⟩
  rw [← hg]
  have E1 : Hid (chkC ks ls ≠ 0 → g = ([], [], chkC ks ls)) := Lib.hid (fun h => by rw [hg]; unfold putR; rw [if_pos h])
  have E2 : Hid (chkC ks ls = 0 → (1024 : Int) < key.size → g = ([], [], 31)) := Lib.hid (fun h h2 => by rw [hg]; unfold putR; rw [if_neg (by simp [h]), if_pos h2])
  have E3 : Hid (chkC ks ls = 0 → ¬ (1024 : Int) < key.size → g = if (write snap tx gone val (oldP ks ls key)).2 ≠ 0 then ([], [], (write snap tx gone val (oldP ks ls key)).2)
    else if atK ks key = true then (ks, ls.set (place ks key) (write snap tx gone val (oldP ks ls key)).1, 0)
    else if ks.length = 2048 then ([], [], 51)
    else (putV ks (place ks key) key, putV ls (place ks key) (write snap tx gone val (oldP ks ls key)).1, 0)) := Lib.hid (fun h h2 => by rw [hg]; unfold putR; rw [if_neg (by simp [h]), if_neg h2])
  clear HK HL h0 hg
  generalize chkC ks ls = kc at *
  go_enter Try.func10, Try.ntmps10
  go_wp2_with fail
  generalize (w.alloc (.cells #[.slice AK ks.length ck, .slice AL ls.length cl] 28)).alloc (.cells #[.slice none 0 0, .slice none 0 0] 28) = w0 at *
  refine hck.mono ?_; rintro e w1 ⟨rfl, h1⟩
  replace BC := Lib.hid (BC.out.below h1 BC.out.lt); replace BR := Lib.hid (BR.out.below h1 BR.out.lt); replace RK := Lib.hid (RK.out.below h1); replace RL := Lib.hid (RL.out.below h1); replace HF := Lib.hid (below_step' HF.out h1)
  clear hck h1
  by_cases k0 : kc = 0
  · subst k0
    obtain ⟨hlen, hle, hri, hls⟩ := CK.out (by trivial)
    have HLEN := Lib.hid hlen
    have HRI := Lib.hid hri
    have HLS := Lib.hid hls
    by_cases hbig : (1024 : Int) < key.size
    · have EE := Lib.hid (E2.out (by trivial) hbig)
      clear E1 E2 E3 CK RK RL hlen hri hls HLEN HRI HLS
      have cBC0 := BC.out.c 0 _ rfl; have fBC0 := BC.out.f 0 (by simp); have cBC1 := BC.out.c 1 _ rfl; have fBC1 := BC.out.f 1 (by simp); have lBC := BC.out.lt; have cBR0 := BR.out.c 0 _ rfl; have fBR0 := BR.out.f 0 (by simp); have cBR1 := BR.out.c 1 _ rfl; have fBR1 := BR.out.f 1 (by simp); have lBR := BR.out.lt
      go_wp2_with fail
      clear cBC0 fBC0 cBC1 fBC1 lBC; clear cBR0 fBR0 cBR1 fBR1 lBR
      have HX := Lib.hid (below_set (g := w.heap.size + 1) (j := 1) (v := .slice none 0 0) (below_set (g := w.heap.size + 1) (j := 0) (v := .slice none 0 0) HF.out (Nat.le_succ _)) (Nat.le_succ _))
      have BX : Hid (Box ((w1.setCell ⟨w.heap.size + 1, 0, none⟩ (.slice none 0 0)).setCell ⟨w.heap.size + 1, 1, none⟩ (.slice none 0 0)) (w.heap.size + 1) [.slice none 0 0, .slice none 0 0]) := Lib.hid ((BR.out.set 0 (.slice none 0 0) (by simp)).set 1 (.slice none 0 0) (by simp))
      have HV : Hid (ChB w.heap.size ((w1.setCell ⟨w.heap.size + 1, 0, none⟩ (.slice none 0 0)).setCell ⟨w.heap.size + 1, 1, none⟩ (.slice none 0 0)) (.agg #[.slice none 0 0, .slice none 0 0]) g.1 g.2.1) := Lib.hid (by rw [EE.out]; exact ChB.nil _ _)
      generalize (w1.setCell ⟨w.heap.size + 1, 0, none⟩ (.slice none 0 0)).setCell ⟨w.heap.size + 1, 1, none⟩ (.slice none 0 0) = wz at *
      have cBX0 := BX.out.c 0 _ rfl; have fBX0 := BX.out.f 0 (by simp); have cBX1 := BX.out.c 1 _ rfl; have fBX1 := BX.out.f 1 (by simp); have lBX := BX.out.lt
      refine bodyPost_ret (v := .tuple #[.agg #[.slice none 0 0, .slice none 0 0], .int .i64 31]) (by simp [results, Try.results10, go_sem, cBX0, cBX1]) rfl ?_
      refine ⟨_, ?_, HV.out, HX.out⟩
      rw [EE.out]
    · have EE0 := Lib.hid (E3.out (by trivial) (by omega))
      have hcl := gclone_any AK AL ck cl ks ls w1 RK.out RL.out hnk hnl hle (by omega) (fun l hl => ⟨(hls l hl).1, Nat.le_trans (chk_len (hls l hl).2) (by decide)⟩)
      clear E1 E2 E3 CK RK RL hlen hri hls
      have hz2 : w.heap.size + 2 ≤ w1.heap.size := BR.out.lt
      have cBC0 := BC.out.c 0 _ rfl; have fBC0 := BC.out.f 0 (by simp); have cBC1 := BC.out.c 1 _ rfl; have fBC1 := BC.out.f 1 (by simp); have lBC := BC.out.lt; have cBR0 := BR.out.c 0 _ rfl; have fBR0 := BR.out.f 0 (by simp); have cBR1 := BR.out.c 1 _ rfl; have fBR1 := BR.out.f 1 (by simp); have lBR := BR.out.lt
      go_upto_region 6 with (fail)
      go_wp2_with (go_at_call 25; with_reducible refine hcl.mono ?_; rintro e w2 ⟨vk, vl, vs, rfl, hown, h2⟩; clear cBC0 fBC0 cBC1 fBC1 lBC; clear cBR0 fBR0 cBR1 fBR1 lBR; replace BC := Lib.hid (BC.out.below h2 BC.out.lt); replace BR := Lib.hid (BR.out.below h2 BR.out.lt); replace HF := Lib.hid (below_step' HF.out h2); (obtain ⟨Ak, ckk, rfl, _, _⟩ := own_slice hown.ok); (obtain ⟨Al, cll, rfl, _, _⟩ := own_slice hown.ol); have cBC0 := BC.out.c 0 _ rfl; have fBC0 := BC.out.f 0 (by simp); have cBC1 := BC.out.c 1 _ rfl; have fBC1 := BC.out.f 1 (by simp); have lBC := BC.out.lt; have cBR0 := BR.out.c 0 _ rfl; have fBR0 := BR.out.f 0 (by simp); have cBR1 := BR.out.c 1 _ rfl; have fBR1 := BR.out.f 1 (by simp); have lBR := BR.out.lt)
      clear cBC0 fBC0 cBC1 fBC1 lBC; clear cBR0 fBR0 cBR1 fBR1 lBR
      have OW := Lib.hid (((hown.rebase (b' := w.heap.size + 2) hz2).set ⟨w.heap.size, 0, none⟩ (.slice Ak ks.length ckk) (by show w.heap.size < w.heap.size + 2; omega)).set ⟨w.heap.size, 1, none⟩ (.slice Al ls.length cll) (by show w.heap.size < w.heap.size + 2; omega))
      have BC3 : Hid (Box ((w2.setCell ⟨w.heap.size, 0, none⟩ (.slice Ak ks.length ckk)).setCell ⟨w.heap.size, 1, none⟩ (.slice Al ls.length cll)) w.heap.size [.slice Ak ks.length ckk, .slice Al ls.length cll]) := Lib.hid ((BC.out.set 0 (.slice Ak ks.length ckk) (by simp)).set 1 (.slice Al ls.length cll) (by simp))
      have BR3 := Lib.hid ((BR.out.other ⟨w.heap.size, 0, none⟩ (.slice Ak ks.length ckk) (by show w.heap.size ≠ w.heap.size + 1; omega)).other ⟨w.heap.size, 1, none⟩ (.slice Al ls.length cll) (by show w.heap.size ≠ w.heap.size + 1; omega))
      have HF3 := Lib.hid (below_set (g := w.heap.size) (j := 1) (v := .slice Al ls.length cll) (below_set (g := w.heap.size) (j := 0) (v := .slice Ak ks.length ckk) HF.out (Nat.le_refl _)) (Nat.le_refl _))
      clear BC BR HF hown h2 hcl
      generalize (w2.setCell ⟨w.heap.size, 0, none⟩ (.slice Ak ks.length ckk)).setCell ⟨w.heap.size, 1, none⟩ (.slice Al ls.length cll) = w3 at *
      clear w2
      obtain ⟨Ak', ckk', ek, _, hrk, _, _⟩ := SlB.of_own (N := w.heap.size + 2) encS_len (by decide) (Nat.le_refl _) OW.out.ok
      obtain ⟨rfl, rfl⟩ : Ak = Ak' ∧ ckk = ckk' := by simpa using ek
      have hbi := bin_any Ak ckk ks key w3 hrk HRI.out hle
      refine hbi.mono ?_; rintro e w4 ⟨i, ok, rfl, hi, hp1, hp2, hp3, rfl⟩
      have HPL : Hid (place ks key = i) := Lib.hid (place_eq ks key i hi hp1 hp2)
      have HAT : Hid (atK ks key = ok) := Lib.hid (atK_eq (by rw [HPL.out]; exact hp3))
      have hp3' := Lib.hid hp3
      clear hbi hrk ek hp1 hp2 hp3
      have hzr : w.heap.size + 2 ≤ w3.heap.size := BR3.out.lt
      cases ok with
      | true =>
        obtain ⟨y, hy, _⟩ := hp3'.out.1 rfl
        have hil := lt_of_get hy
        obtain ⟨l, hl0⟩ : ∃ l, ls[i]? = some l := ⟨_, List.getElem?_eq_getElem (by have := HLEN.out; omega)⟩
        have hlm := HLS.out l (List.mem_of_getElem? hl0)
        have EO : Hid (oldP ks ls key = l) := Lib.hid (by unfold oldP; rw [HAT.out, HPL.out, hl0]; rfl)
        obtain ⟨g1, cq, hgq, _, hbg, hgs⟩ := own_some OW.out.ol (by have := HLEN.out; omega)
        obtain ⟨rfl, rfl⟩ : Al = some ⟨g1, 0, none⟩ ∧ cll = cq := by simpa using hgq
        have hvsl : vs.length = ls.length := by have := OW.out.ol.1; simpa using this
        obtain ⟨hl00, v, hv, A, c', rfl, hlc, hrl, hnl2, hnx⟩ := OW.out.el i l hl0
        have hlt : i < ls.length := lt_of_get hl0
        have cg : w3.cell? ⟨g1, i, none⟩ = some (.slice A l.length c') := by rw [OW.out.ol.cellAt i (by rw [Nat.mul_one]; exact hlt)]; exact hv
        have hji : (i : Int) < (ls.length : Int) := by omega
        have hwr := write_any A c' l snap tx gone val w3 hrl hnl2 hlc
        have EW : Hid (g = if (write snap tx gone val l).2 ≠ 0 then ([], [], (write snap tx gone val l).2) else (ks, ls.set i (write snap tx gone val l).1, 0)) := Lib.hid (by rw [EE0.out, EO.out, HAT.out, HPL.out]; rfl)
        have HWS := Lib.hid (fun h => write_some (snap := snap) (tx := tx) (gone := gone) (val := val) (l := l) h hlm.2)
        clear EE0 EO HAT HPL hp3' hy hgq hl00 hrl hnl2 hlm hv hnx
        generalize write snap tx gone val l = r at *
        have cBC30 := BC3.out.c 0 _ rfl; have fBC30 := BC3.out.f 0 (by simp); have cBC31 := BC3.out.c 1 _ rfl; have fBC31 := BC3.out.f 1 (by simp); have lBC3 := BC3.out.lt; have cBR30 := BR3.out.c 0 _ rfl; have fBR30 := BR3.out.f 0 (by simp); have cBR31 := BR3.out.c 1 _ rfl; have fBR31 := BR3.out.f 1 (by simp); have lBR3 := BR3.out.lt
        go_wp2_with fail
        clear cBC30 fBC30 cBC31 fBC31 lBC3; clear cBR30 fBR30 cBR31 fBR31 lBR3
        refine hwr.mono ?_; rintro e w4 ⟨v4, rfl, ⟨A4, c4, rfl, hc4, hr4, hn4, hN4⟩, h4⟩
        have fg4 : w4.frozen? ⟨g1, i, none⟩ = false := (OW.out.below h4).ol.frozenAt i
        have cg4 := (h4.cell (p := ⟨g1, i, none⟩) hgs).trans cg
        replace BC3 := Lib.hid (BC3.out.below h4 BC3.out.lt); replace BR3 := Lib.hid (BR3.out.below h4 BR3.out.lt); replace HF3 := Lib.hid (below_step' HF3.out h4)
        have HNEW : Hid (SlX (fun b => (Value.slice Ak ks.length ckk).ownBlock = some b ∨ (Value.slice (some ⟨g1, 0, none⟩) ls.length cll).ownBlock = some b ∨ b < w.heap.size + 2) w4 (.slice A4 r.1.length c4) r.1) := Lib.hid ⟨A4, c4, rfl, hc4, hr4, hn4, fun a ha => by
          have h5 := hN4 a ha
          rintro (q | q | q)
          · have := (OW.out.ok.lt _ q).2; omega
          · have := (OW.out.ol.lt _ q).2; omega
          · omega⟩
        replace OW := Lib.hid (OW.out.below h4)
        clear hwr hr4 hn4 hN4 h4 cg
        by_cases hr0 : r.2 = 0
        · have EE : Hid (g = (ks, ls.set i r.1, 0)) := Lib.hid (by rw [EW.out, if_neg (by simp [hr0])])
          have hr1 : (r.2 == 0) = true := by simpa using hr0
          have HNN := HWS.out hr0
          clear EW HWS
          generalize r.2 = rr at *
          subst hr0
          have cBC30 := BC3.out.c 0 _ rfl; have fBC30 := BC3.out.f 0 (by simp); have cBC31 := BC3.out.c 1 _ rfl; have fBC31 := BC3.out.f 1 (by simp); have lBC3 := BC3.out.lt; have cBR30 := BR3.out.c 0 _ rfl; have fBR30 := BR3.out.f 0 (by simp); have cBR31 := BR3.out.c 1 _ rfl; have fBR31 := BR3.out.f 1 (by simp); have lBR3 := BR3.out.lt
          go_wp2_with fail
          clear cBC30 fBC30 cBC31 fBC31 lBC3; clear cBR30 fBR30 cBR31 fBR31 lBR3
          have OW5 := Lib.hid (OW.out.seti i rfl HNN HNEW.out)
          have BR5 := Lib.hid (BR3.out.other ⟨g1, i, none⟩ (.slice A4 r.1.length c4) (by show g1 ≠ w.heap.size + 1; omega))
          have HF5 := Lib.hid (below_set (g := g1) (j := i) (v := .slice A4 r.1.length c4) HF3.out (by omega))
          clear BR3 HF3 OW cg4 fg4 HNEW
          generalize w4.setCell ⟨g1, i, none⟩ (.slice A4 r.1.length c4) = w5 at *
          have HX := Lib.hid (below_set (g := w.heap.size + 1) (j := 1) (v := .slice (some ⟨g1, 0, none⟩) ls.length cll) (below_set (g := w.heap.size + 1) (j := 0) (v := .slice Ak ks.length ckk) HF5.out (Nat.le_succ _)) (Nat.le_succ _))
          have BX : Hid (Box ((w5.setCell ⟨w.heap.size + 1, 0, none⟩ (.slice Ak ks.length ckk)).setCell ⟨w.heap.size + 1, 1, none⟩ (.slice (some ⟨g1, 0, none⟩) ls.length cll)) (w.heap.size + 1) [.slice Ak ks.length ckk, .slice (some ⟨g1, 0, none⟩) ls.length cll]) := Lib.hid ((BR5.out.set 0 (.slice Ak ks.length ckk) (by simp)).set 1 (.slice (some ⟨g1, 0, none⟩) ls.length cll) (by simp))
          have HV : Hid (ChB w.heap.size ((w5.setCell ⟨w.heap.size + 1, 0, none⟩ (.slice Ak ks.length ckk)).setCell ⟨w.heap.size + 1, 1, none⟩ (.slice (some ⟨g1, 0, none⟩) ls.length cll)) (.agg #[.slice Ak ks.length ckk, .slice (some ⟨g1, 0, none⟩) ls.length cll]) g.1 g.2.1) := Lib.hid (by rw [EE.out]; exact ((((OW5.out.set ⟨w.heap.size + 1, 0, none⟩ _ (Nat.lt_succ_self _)).set ⟨w.heap.size + 1, 1, none⟩ _ (Nat.lt_succ_self _)).chb).mono (by omega)))
          generalize (w5.setCell ⟨w.heap.size + 1, 0, none⟩ (.slice Ak ks.length ckk)).setCell ⟨w.heap.size + 1, 1, none⟩ (.slice (some ⟨g1, 0, none⟩) ls.length cll) = wz at *
          have cBX0 := BX.out.c 0 _ rfl; have fBX0 := BX.out.f 0 (by simp); have cBX1 := BX.out.c 1 _ rfl; have fBX1 := BX.out.f 1 (by simp); have lBX := BX.out.lt
          refine bodyPost_ret (v := .tuple #[.agg #[.slice Ak ks.length ckk, .slice (some ⟨g1, 0, none⟩) ls.length cll], .int .i64 0]) (by simp [results, Try.results10, go_sem, cBX0, cBX1]) rfl ?_
          refine ⟨_, ?_, HV.out, HX.out⟩
          rw [EE.out]
        · have EE : Hid (g = ([], [], r.2)) := Lib.hid (by rw [EW.out, if_pos hr0])
          have hr1 : (r.2 == 0) = false := by simpa using hr0
          clear EW HWS HNEW OW cg4 fg4
          generalize r.2 = rr at *
          have cBC30 := BC3.out.c 0 _ rfl; have fBC30 := BC3.out.f 0 (by simp); have cBC31 := BC3.out.c 1 _ rfl; have fBC31 := BC3.out.f 1 (by simp); have lBC3 := BC3.out.lt; have cBR30 := BR3.out.c 0 _ rfl; have fBR30 := BR3.out.f 0 (by simp); have cBR31 := BR3.out.c 1 _ rfl; have fBR31 := BR3.out.f 1 (by simp); have lBR3 := BR3.out.lt
          go_wp2_with fail
          clear cBC30 fBC30 cBC31 fBC31 lBC3; clear cBR30 fBR30 cBR31 fBR31 lBR3
          have HX := Lib.hid (below_set (g := w.heap.size + 1) (j := 1) (v := .slice none 0 0) (below_set (g := w.heap.size + 1) (j := 0) (v := .slice none 0 0) HF3.out (Nat.le_succ _)) (Nat.le_succ _))
          have BX : Hid (Box ((w4.setCell ⟨w.heap.size + 1, 0, none⟩ (.slice none 0 0)).setCell ⟨w.heap.size + 1, 1, none⟩ (.slice none 0 0)) (w.heap.size + 1) [.slice none 0 0, .slice none 0 0]) := Lib.hid ((BR3.out.set 0 (.slice none 0 0) (by simp)).set 1 (.slice none 0 0) (by simp))
          have HV : Hid (ChB w.heap.size ((w4.setCell ⟨w.heap.size + 1, 0, none⟩ (.slice none 0 0)).setCell ⟨w.heap.size + 1, 1, none⟩ (.slice none 0 0)) (.agg #[.slice none 0 0, .slice none 0 0]) g.1 g.2.1) := Lib.hid (by rw [EE.out]; exact ChB.nil _ _)
          generalize (w4.setCell ⟨w.heap.size + 1, 0, none⟩ (.slice none 0 0)).setCell ⟨w.heap.size + 1, 1, none⟩ (.slice none 0 0) = wz at *
          have cBX0 := BX.out.c 0 _ rfl; have fBX0 := BX.out.f 0 (by simp); have cBX1 := BX.out.c 1 _ rfl; have fBX1 := BX.out.f 1 (by simp); have lBX := BX.out.lt
          refine bodyPost_ret (v := .tuple #[.agg #[.slice none 0 0, .slice none 0 0], .int .i64 rr]) (by simp [results, Try.results10, go_sem, cBX0, cBX1]) rfl ?_
          refine ⟨_, ?_, HV.out, HX.out⟩
          rw [EE.out]
      | false =>
        have EO : Hid (oldP ks ls key = []) := Lib.hid (by unfold oldP; rw [HAT.out]; rfl)
        have hwr := write_any none 0 [] snap tx gone val w3 RowE.nil (fun _ => rfl) (Nat.zero_le _)
        have EW : Hid (g = if (write snap tx gone val []).2 ≠ 0 then ([], [], (write snap tx gone val []).2) else if ks.length = 2048 then ([], [], 51) else (putV ks i key, putV ls i (write snap tx gone val []).1, 0)) := Lib.hid (by rw [EE0.out, EO.out, HAT.out, HPL.out]; rfl)
        have HWS := Lib.hid (fun h => write_some (snap := snap) (tx := tx) (gone := gone) (val := val) (l := []) h rfl)
        have hil : i ≤ ls.length := by have := HLEN.out; omega
        simp only [List.length_nil] at hwr
        clear EE0 EO HAT HPL hp3'
        generalize write snap tx gone val [] = r at *
        have cBC30 := BC3.out.c 0 _ rfl; have fBC30 := BC3.out.f 0 (by simp); have cBC31 := BC3.out.c 1 _ rfl; have fBC31 := BC3.out.f 1 (by simp); have lBC3 := BC3.out.lt; have cBR30 := BR3.out.c 0 _ rfl; have fBR30 := BR3.out.f 0 (by simp); have cBR31 := BR3.out.c 1 _ rfl; have fBR31 := BR3.out.f 1 (by simp); have lBR3 := BR3.out.lt
        go_wp2_with fail
        clear cBC30 fBC30 cBC31 fBC31 lBC3; clear cBR30 fBR30 cBR31 fBR31 lBR3
        refine hwr.mono ?_; rintro e w4 ⟨v4, rfl, ⟨A4, c4, rfl, hc4, hr4, hn4, hN4⟩, h4⟩
        replace BC3 := Lib.hid (BC3.out.below h4 BC3.out.lt); replace BR3 := Lib.hid (BR3.out.below h4 BR3.out.lt); replace HF3 := Lib.hid (below_step' HF3.out h4)
        have HNEW : Hid (SlX (fun b => (Value.slice Ak ks.length ckk).ownBlock = some b ∨ (Value.slice Al ls.length cll).ownBlock = some b ∨ b < w.heap.size + 2) w4 (.slice A4 r.1.length c4) r.1) := Lib.hid ⟨A4, c4, rfl, hc4, hr4, hn4, fun a ha => by
          have h5 := hN4 a ha
          rintro (q | q | q)
          · have := (OW.out.ok.lt _ q).2; omega
          · have := (OW.out.ol.lt _ q).2; omega
          · omega⟩
        replace OW := Lib.hid (OW.out.below h4)
        have hzr4 : w.heap.size + 2 ≤ w4.heap.size := BR3.out.lt
        clear hwr hr4 hn4 hN4 h4
        by_cases hr0 : r.2 = 0
        · have hr1 : (r.2 == 0) = true := by simpa using hr0
          have HNN := HWS.out hr0
          by_cases hful : ks.length = 2048
          · have EE : Hid (g = ([], [], 51)) := Lib.hid (by rw [EW.out, if_neg (by simp [hr0]), if_pos hful])
            have hfi : (ks.length : Int) = 2048 := by omega
            clear EW HWS HNEW OW
            generalize r.2 = rr at *
            subst hr0
            have cBC30 := BC3.out.c 0 _ rfl; have fBC30 := BC3.out.f 0 (by simp); have cBC31 := BC3.out.c 1 _ rfl; have fBC31 := BC3.out.f 1 (by simp); have lBC3 := BC3.out.lt; have cBR30 := BR3.out.c 0 _ rfl; have fBR30 := BR3.out.f 0 (by simp); have cBR31 := BR3.out.c 1 _ rfl; have fBR31 := BR3.out.f 1 (by simp); have lBR3 := BR3.out.lt
            go_wp2_with fail
            clear cBC30 fBC30 cBC31 fBC31 lBC3; clear cBR30 fBR30 cBR31 fBR31 lBR3
            have HX := Lib.hid (below_set (g := w.heap.size + 1) (j := 1) (v := .slice none 0 0) (below_set (g := w.heap.size + 1) (j := 0) (v := .slice none 0 0) HF3.out (Nat.le_succ _)) (Nat.le_succ _))
            have BX : Hid (Box ((w4.setCell ⟨w.heap.size + 1, 0, none⟩ (.slice none 0 0)).setCell ⟨w.heap.size + 1, 1, none⟩ (.slice none 0 0)) (w.heap.size + 1) [.slice none 0 0, .slice none 0 0]) := Lib.hid ((BR3.out.set 0 (.slice none 0 0) (by simp)).set 1 (.slice none 0 0) (by simp))
            have HV : Hid (ChB w.heap.size ((w4.setCell ⟨w.heap.size + 1, 0, none⟩ (.slice none 0 0)).setCell ⟨w.heap.size + 1, 1, none⟩ (.slice none 0 0)) (.agg #[.slice none 0 0, .slice none 0 0]) g.1 g.2.1) := Lib.hid (by rw [EE.out]; exact ChB.nil _ _)
            generalize (w4.setCell ⟨w.heap.size + 1, 0, none⟩ (.slice none 0 0)).setCell ⟨w.heap.size + 1, 1, none⟩ (.slice none 0 0) = wz at *
            have cBX0 := BX.out.c 0 _ rfl; have fBX0 := BX.out.f 0 (by simp); have cBX1 := BX.out.c 1 _ rfl; have fBX1 := BX.out.f 1 (by simp); have lBX := BX.out.lt
            refine bodyPost_ret (v := .tuple #[.agg #[.slice none 0 0, .slice none 0 0], .int .i64 51]) (by simp [results, Try.results10, go_sem, cBX0, cBX1]) rfl ?_
            refine ⟨_, ?_, HV.out, HX.out⟩
            rw [EE.out]
          · have EE : Hid (g = (putV ks i key, putV ls i r.1, 0)) := Lib.hid (by rw [EW.out, if_neg (by simp [hr0]), if_neg hful])
            have hfi : ¬ (ks.length : Int) = 2048 := by omega
            clear EW HWS
            generalize r.2 = rr at *
            subst hr0
            have cBC30 := BC3.out.c 0 _ rfl; have fBC30 := BC3.out.f 0 (by simp); have cBC31 := BC3.out.c 1 _ rfl; have fBC31 := BC3.out.f 1 (by simp); have lBC3 := BC3.out.lt; have cBR30 := BR3.out.c 0 _ rfl; have fBR30 := BR3.out.f 0 (by simp); have cBR31 := BR3.out.c 1 _ rfl; have fBR31 := BR3.out.f 1 (by simp); have lBR3 := BR3.out.lt
            go_upto_region 19 with (fail)
            clear cBC30 fBC30 cBC31 fBC31 lBC3; clear cBR30 fBR30 cBR31 fBR31 lBR3
            refine stage_begin (S := fun (L' : Array Bool) (w' : World) => (L'.getD 13 false = false → w'.cell? ⟨w.heap.size, 0, none⟩ = some (.slice Ak ks.length ckk) ∧ w'.cell? ⟨w.heap.size, 1, none⟩ = some (.slice Al ls.length cll))) (by kernel_rfl) ?_
            have HFx : Hid (Below w.heap.size w w4.drew) := Lib.hid (below_drewN HF3.out 1)
            have HCx := Lib.hid BC3.out.drew
            have HRx := Lib.hid BR3.out.drew
            have HWx : Hid (OwnC (w.heap.size + 2) w4.drew (.slice Ak ks.length ckk) (.slice Al ls.length cll) ks ls vs) := Lib.hid (OW.out.below (below_drewN (Below.refl _ w4) 1))
            have HNx : Hid (SlX (fun b => (Value.slice Ak ks.length ckk).ownBlock = some b ∨ (Value.slice Al ls.length cll).ownBlock = some b ∨ b < w.heap.size + 2) w4.drew (.slice A4 r.1.length c4) r.1) := Lib.hid (HNEW.out.below (below_drewN (Below.refl _ w4) 1))
            have hz3 : w.heap.size + 2 ≤ w4.drew.heap.size := hzr4
            clear HF3 BC3 BR3 OW HNEW hzr4
            generalize w4.drew = wd at *
            have hS0 : (fun w' : World => w'.cell? ⟨w.heap.size, 0, none⟩ = some (.slice Ak ks.length ckk) ∧ w'.cell? ⟨w.heap.size, 1, none⟩ = some (.slice Al ls.length cll)) wd := ⟨HCx.out.c 0 _ rfl, HCx.out.c 1 _ rfl⟩
            refine stage_take (i := 0) (oi := { dst := some 73, op := Go.Op.fieldAddr 28 (Go.Operand.tmp 6) 0, type := 0, pos := "gc.go:102", after := #[], guard := none }) (v := ?_) (T := fun _ => True) rfl (by kernel_rfl) (by kernel_rfl) (by kernel_rfl) (by kernel_rfl) (fun _ _ _ h => h) (fun L' w' hW hS => trivial) (fun L' w' hS => fun h => hS (by rw [getD_set_ne false (by decide)]; exact h)) (Or.inl ⟨by rfl, ?_⟩) trivial (fun _ => hS0) ?_
            rotate_left 1
            · intro w9 _; go_simp; (try with_reducible rfl)
            try simp only [Act.put, List.setIfInBounds_toArray, List.set_cons_zero, List.set_cons_succ]
            refine stage_take (i := 1) (oi := { dst := some 74, op := Go.Op.load 22 (Go.Operand.tmp 73), type := 22, pos := "gc.go:102", after := #[{ on := 0, ground := Go.Ground.data }], guard := none }) (v := ?_) (T := fun w' : World => w'.cell? ⟨w.heap.size, 0, none⟩ = some (.slice Ak ks.length ckk) ∧ w'.cell? ⟨w.heap.size, 1, none⟩ = some (.slice Al ls.length cll)) rfl (by kernel_rfl) (by kernel_rfl) (by kernel_rfl) (by kernel_rfl) (fun _ _ _ h => h) (fun L' w' hW hS => hS (not_yet hW (by kernel_rfl))) (fun L' w' hS => fun h => hS (by rw [getD_set_ne false (by decide)]; exact h)) (Or.inl ⟨by rfl, ?_⟩) (hS0) (fun _ => hS0) ?_
            rotate_left 1
            · intro w9 hS9; obtain ⟨z0, z1⟩ := hS9; go_simp; (try with_reducible rfl)
            try simp only [Act.put, List.setIfInBounds_toArray, List.set_cons_zero, List.set_cons_succ]
            refine stage_take (i := 2) (oi := { dst := some 75, op := Go.Op.move (Go.Operand.tmp 15), type := 3, pos := "gc.go:102", after := #[], guard := none }) (v := ?_) (T := fun _ => True) rfl (by kernel_rfl) (by kernel_rfl) (by kernel_rfl) (by kernel_rfl) (fun _ _ _ h => h) (fun L' w' hW hS => trivial) (fun L' w' hS => fun h => hS (by rw [getD_set_ne false (by decide)]; exact h)) (Or.inl ⟨by rfl, ?_⟩) trivial (fun _ => hS0) ?_
            rotate_left 1
            · intro w9 _; go_simp; (try with_reducible rfl)
            try simp only [Act.put, List.setIfInBounds_toArray, List.set_cons_zero, List.set_cons_succ]
            refine stage_take (i := 3) (oi := { dst := some 76, op := Go.Op.move (Go.Operand.tmp 1), type := 9, pos := "gc.go:102", after := #[], guard := none }) (v := ?_) (T := fun _ => True) rfl (by kernel_rfl) (by kernel_rfl) (by kernel_rfl) (by kernel_rfl) (fun _ _ _ h => h) (fun L' w' hW hS => trivial) (fun L' w' hS => fun h => hS (by rw [getD_set_ne false (by decide)]; exact h)) (Or.inl ⟨by rfl, ?_⟩) trivial (fun _ => hS0) ?_
            rotate_left 1
            · intro w9 _; go_simp; (try with_reducible rfl)
            try simp only [Act.put, List.setIfInBounds_toArray, List.set_cons_zero, List.set_cons_succ]
            refine stage_take (i := 6) (oi := { dst := some 79, op := Go.Op.fieldAddr 28 (Go.Operand.tmp 6) 1, type := 0, pos := "gc.go:102", after := #[], guard := none }) (v := ?_) (T := fun _ => True) rfl (by kernel_rfl) (by kernel_rfl) (by kernel_rfl) (by kernel_rfl) (fun _ _ _ h => h) (fun L' w' hW hS => trivial) (fun L' w' hS => fun h => hS (by rw [getD_set_ne false (by decide)]; exact h)) (Or.inl ⟨by rfl, ?_⟩) trivial (fun _ => hS0) ?_
            rotate_left 1
            · intro w9 _; go_simp; (try with_reducible rfl)
            try simp only [Act.put, List.setIfInBounds_toArray, List.set_cons_zero, List.set_cons_succ]
            refine stage_take (i := 7) (oi := { dst := some 80, op := Go.Op.load 26 (Go.Operand.tmp 79), type := 26, pos := "gc.go:102", after := #[{ on := 6, ground := Go.Ground.data }], guard := none }) (v := ?_) (T := fun w' : World => w'.cell? ⟨w.heap.size, 0, none⟩ = some (.slice Ak ks.length ckk) ∧ w'.cell? ⟨w.heap.size, 1, none⟩ = some (.slice Al ls.length cll)) rfl (by kernel_rfl) (by kernel_rfl) (by kernel_rfl) (by kernel_rfl) (fun _ _ _ h => h) (fun L' w' hW hS => hS (not_yet hW (by kernel_rfl))) (fun L' w' hS => fun h => hS (by rw [getD_set_ne false (by decide)]; exact h)) (Or.inl ⟨by rfl, ?_⟩) (hS0) (fun _ => hS0) ?_
            rotate_left 1
            · intro w9 hS9; obtain ⟨z0, z1⟩ := hS9; go_simp; (try with_reducible rfl)
            try simp only [Act.put, List.setIfInBounds_toArray, List.set_cons_zero, List.set_cons_succ]
            refine stage_take (i := 8) (oi := { dst := some 81, op := Go.Op.move (Go.Operand.tmp 15), type := 3, pos := "gc.go:102", after := #[], guard := none }) (v := ?_) (T := fun _ => True) rfl (by kernel_rfl) (by kernel_rfl) (by kernel_rfl) (by kernel_rfl) (fun _ _ _ h => h) (fun L' w' hW hS => trivial) (fun L' w' hS => fun h => hS (by rw [getD_set_ne false (by decide)]; exact h)) (Or.inl ⟨by rfl, ?_⟩) trivial (fun _ => hS0) ?_
            rotate_left 1
            · intro w9 _; go_simp; (try with_reducible rfl)
            try simp only [Act.put, List.setIfInBounds_toArray, List.set_cons_zero, List.set_cons_succ]
            refine stage_take (i := 9) (oi := { dst := some 82, op := Go.Op.move (Go.Operand.tmp 18), type := 44, pos := "gc.go:102", after := #[], guard := none }) (v := ?_) (T := fun _ => True) rfl (by kernel_rfl) (by kernel_rfl) (by kernel_rfl) (by kernel_rfl) (fun _ _ _ h => h) (fun L' w' hW hS => trivial) (fun L' w' hS => fun h => hS (by rw [getD_set_ne false (by decide)]; exact h)) (Or.inl ⟨by rfl, ?_⟩) trivial (fun _ => hS0) ?_
            rotate_left 1
            · intro w9 _; go_simp; (try with_reducible rfl)
            try simp only [Act.put, List.setIfInBounds_toArray, List.set_cons_zero, List.set_cons_succ]
            clear hS0
            refine stage_all (rs := [4, 10]) (by kernel_rfl) (by simp) (fun i0 hi0 => ?_)
            simp only [List.mem_cons, List.not_mem_nil, or_false] at hi0
            rcases hi0 with rfl | rfl
            · refine stage_step (S := fun (L' : Array Bool) (w' : World) => (L'.getD 13 false = false → w'.cell? ⟨w.heap.size, 0, none⟩ = some (.slice Ak ks.length ckk) ∧ w'.cell? ⟨w.heap.size, 1, none⟩ = some (.slice Al ls.length cll))) (o := { dst := some 77, op := Go.Op.buildSlice 22 1 #[(0, Go.Operand.tmp 76)], type := 22, pos := "gc.go:102", after := #[{ on := 3, ground := Go.Ground.data }], guard := none }) (by rfl) (fun K2 hK => ?_)
              go_simp
              have q4k : (Value.slice Ak ks.length ckk).ownBlock ≠ some wd.heap.size := fun q => by have := (HWx.out.ok.lt _ q).2; omega
              skip
              have N4 : Hid ((wd.alloc (.cells #[.string key] 9)).heap[wd.heap.size]? = some (.cells #[.string key] 9)) := Lib.hid (heap_alloc_new wd _)
              have q4l : wd.heap.size < (wd.alloc (.cells #[.string key] 9)).heap.size := by simp
              replace HFx := Lib.hid (HFx.out.alloc HFx.out.size (.cells #[.string key] 9))
              replace HCx := Lib.hid (HCx.out.alloc (.cells #[.string key] 9))
              replace HRx := Lib.hid (HRx.out.alloc (.cells #[.string key] 9))
              replace HWx := Lib.hid (HWx.out.alloc (.cells #[.string key] 9))
              replace HNx := Lib.hid (HNx.out.below ((Below.refl _ wd).alloc (Nat.le_refl _) (.cells #[.string key] 9)))
              refine hK.out _ _ (fun _ => ⟨HCx.out.c 0 _ rfl, HCx.out.c 1 _ rfl⟩) ?_
              clear hK K2
              try simp only [Act.put, List.setIfInBounds_toArray, List.set_cons_zero, List.set_cons_succ]
              have hs4 : w.heap.size + 2 ≤ wd.heap.size := by omega
              replace hz3 : w.heap.size + 2 ≤ (wd.alloc (.cells #[.string key] 9)).heap.size := HRx.out.lt
              generalize wd.alloc (.cells #[.string key] 9) = wd4 at *
              generalize wd.heap.size = g4 at *
              (try clear wd)
              refine stage_all (rs := [5, 10]) (by kernel_rfl) (by simp) (fun i0 hi0 => ?_)
              simp only [List.mem_cons, List.not_mem_nil, or_false] at hi0
              rcases hi0 with rfl | rfl
              · refine stage_step (S := fun (L' : Array Bool) (w' : World) => (L'.getD 13 false = false → w'.cell? ⟨w.heap.size, 0, none⟩ = some (.slice Ak ks.length ckk) ∧ w'.cell? ⟨w.heap.size, 1, none⟩ = some (.slice Al ls.length cll))) (o := { dst := some 78, op := Go.Op.call { callee := Go.Callee.value (Go.Operand.func 28), args := #[Go.Operand.tmp 74, Go.Operand.tmp 75, Go.Operand.tmp 77], argTypes := #[22, 3, 22] }, type := 22, pos := "gc.go:102", after := #[{ on := 1, ground := Go.Ground.data }, { on := 2, ground := Go.Ground.data }, { on := 4, ground := Go.Ground.data }], guard := none }) (by rfl) (fun K2 hK => ?_)
                go_simp
                have hin := insS_any (w.heap.size + 2) g4 i (.slice Ak ks.length ckk) (ks.flatMap encS) (.string key) wd4 (by rw [flat_encS]; simp [Value.oneCell']) rfl (by rw [flat_encS, List.length_map]; exact hle) (by rw [flat_encS, List.length_map]; exact hi) (by rw [show (ks.flatMap encS).length = ks.length by rw [flat_encS, List.length_map]]; exact HWx.out.ok) N4.out q4k hz3
                go_wp2_with (go_at_call 28; (with_reducible refine hin.mono ?_); rintro e wd45 ⟨vk2, rfl, hown, hgrow, hat⟩)
                rw [← putV_flat, show (ks.flatMap encS).length + 1 = (putV ks i key).length by rw [flat_encS, List.length_map, putV_len _ _ _ hi]] at hown
                have qb : (Value.slice Ak ks.length ckk).ownBlock ≠ some w.heap.size := fun q => by have := (HWx.out.ok.lt w.heap.size q).1; omega
                have qr : (Value.slice Ak ks.length ckk).ownBlock ≠ some (w.heap.size + 1) := fun q => by have := (HWx.out.ok.lt (w.heap.size + 1) q).1; omega
                replace HFx := Lib.hid (HFx.out.grown hgrow (by omega) (fun k hk => by have := (HWx.out.ok.lt k hk).1; omega))
                replace HCx := Lib.hid (HCx.out.grown hgrow (Ne.symm qb))
                replace HRx := Lib.hid (HRx.out.grown hgrow (Ne.symm qr))
                obtain ⟨Ak2, ck2, rfl, _, _⟩ := own_slice hown
                replace HNx := Lib.hid (HWx.out.keyx hgrow hat HNN HNx.out)
                replace HWx := Lib.hid (HWx.out.row hown hgrow hat)
                replace hz3 : w.heap.size + 2 ≤ wd45.heap.size := HRx.out.lt
                clear hin hown hgrow hat qb qr N4 q4k q4l
                refine hK.out _ _ (fun _ => ⟨HCx.out.c 0 _ rfl, HCx.out.c 1 _ rfl⟩) ?_
                clear hK K2
                try simp only [Act.put, List.setIfInBounds_toArray, List.set_cons_zero, List.set_cons_succ]
                refine stage_take (i := 12) (oi := { dst := some 85, op := Go.Op.fieldAddr 28 (Go.Operand.tmp 6) 0, type := 0, pos := "gc.go:102", after := #[{ on := 0, ground := Go.Ground.phase }, { on := 1, ground := Go.Ground.phase }, { on := 2, ground := Go.Ground.phase }, { on := 3, ground := Go.Ground.phase }, { on := 4, ground := Go.Ground.phase }, { on := 5, ground := Go.Ground.phase }, { on := 6, ground := Go.Ground.phase }, { on := 7, ground := Go.Ground.phase }, { on := 8, ground := Go.Ground.textOnly Go.Departure.lateStores }, { on := 9, ground := Go.Ground.textOnly Go.Departure.lateStores }, { on := 10, ground := Go.Ground.textOnly Go.Departure.lateStores }, { on := 11, ground := Go.Ground.textOnly Go.Departure.lateStoresUnsure }], guard := none }) (v := ?_) (T := fun _ => True) rfl (by kernel_rfl) (by kernel_rfl) (by kernel_rfl) (by kernel_rfl) (fun _ _ _ h => h) (fun L' w' hW hS => trivial) (fun L' w' hS => fun h => hS (by rw [getD_set_ne false (by decide)]; exact h)) (Or.inl ⟨by rfl, ?_⟩) trivial (fun _ => ⟨HCx.out.c 0 _ rfl, HCx.out.c 1 _ rfl⟩) ?_
                rotate_left 1
                · intro w9 _; go_simp; (try with_reducible rfl)
                try simp only [Act.put, List.setIfInBounds_toArray, List.set_cons_zero, List.set_cons_succ]
                refine stage_all (rs := [10]) (by kernel_rfl) (by simp) (fun i0 hi0 => ?_)
                obtain rfl : i0 = 10 := by simpa using hi0
                refine stage_step (S := fun (L' : Array Bool) (w' : World) => (L'.getD 13 false = false → w'.cell? ⟨w.heap.size, 0, none⟩ = some (.slice Ak ks.length ckk) ∧ w'.cell? ⟨w.heap.size, 1, none⟩ = some (.slice Al ls.length cll))) (o := { dst := some 83, op := Go.Op.buildSlice 26 1 #[(0, Go.Operand.tmp 82)], type := 26, pos := "gc.go:102", after := #[{ on := 9, ground := Go.Ground.data }], guard := none }) (by rfl) (fun K2 hK => ?_)
                go_simp
                skip
                have q10m : (Value.slice Al ls.length cll).ownBlock ≠ some wd45.heap.size := fun q => by have := (HWx.out.ol.lt _ q).2; omega
                have N10 : Hid ((wd45.alloc (.cells #[.slice A4 r.1.length c4] 44)).heap[wd45.heap.size]? = some (.cells #[.slice A4 r.1.length c4] 44)) := Lib.hid (heap_alloc_new wd45 _)
                have q10l : wd45.heap.size < (wd45.alloc (.cells #[.slice A4 r.1.length c4] 44)).heap.size := by simp
                replace HFx := Lib.hid (HFx.out.alloc HFx.out.size (.cells #[.slice A4 r.1.length c4] 44))
                replace HCx := Lib.hid (HCx.out.alloc (.cells #[.slice A4 r.1.length c4] 44))
                replace HRx := Lib.hid (HRx.out.alloc (.cells #[.slice A4 r.1.length c4] 44))
                replace HWx := Lib.hid (HWx.out.alloc (.cells #[.slice A4 r.1.length c4] 44))
                replace HNx := Lib.hid (HNx.out.below ((Below.refl _ wd45).alloc (Nat.le_refl _) (.cells #[.slice A4 r.1.length c4] 44)))
                refine hK.out _ _ (fun _ => ⟨HCx.out.c 0 _ rfl, HCx.out.c 1 _ rfl⟩) ?_
                clear hK K2
                try simp only [Act.put, List.setIfInBounds_toArray, List.set_cons_zero, List.set_cons_succ]
                have hs10 : w.heap.size + 2 ≤ wd45.heap.size := by omega
                replace hz3 : w.heap.size + 2 ≤ (wd45.alloc (.cells #[.slice A4 r.1.length c4] 44)).heap.size := HRx.out.lt
                generalize wd45.alloc (.cells #[.slice A4 r.1.length c4] 44) = wd4510 at *
                generalize wd45.heap.size = g10 at *
                (try clear wd45)
                refine stage_all (rs := [11]) (by kernel_rfl) (by simp) (fun i0 hi0 => ?_)
                obtain rfl : i0 = 11 := by simpa using hi0
                refine stage_step (S := fun (L' : Array Bool) (w' : World) => (L'.getD 13 false = false → w'.cell? ⟨w.heap.size, 0, none⟩ = some (.slice Ak ks.length ckk) ∧ w'.cell? ⟨w.heap.size, 1, none⟩ = some (.slice Al ls.length cll))) (o := { dst := some 84, op := Go.Op.call { callee := Go.Callee.value (Go.Operand.func 29), args := #[Go.Operand.tmp 80, Go.Operand.tmp 81, Go.Operand.tmp 83], argTypes := #[26, 3, 26] }, type := 26, pos := "gc.go:102", after := #[{ on := 7, ground := Go.Ground.data }, { on := 8, ground := Go.Ground.data }, { on := 10, ground := Go.Ground.data }, { on := 5, ground := Go.Ground.chain }], guard := none }) (by rfl) (fun K2 hK => ?_)
                go_simp
                have hvl : vs.length = ls.length := by have := HWx.out.ol.1; simpa using this
                have hin := insR_any (w.heap.size + 2) g10 i (.slice Al ls.length cll) vs (.slice A4 r.1.length c4) wd4510 HWx.out.one rfl (by rw [hvl]; have := HLEN.out; omega) (by rw [hvl]; exact hil) (by rw [hvl]; exact HWx.out.ol) N10.out q10m hz3
                rw [hvl] at hin
                go_wp2_with (go_at_call 29; (with_reducible refine hin.mono ?_); rintro e wd451011 ⟨vl2, rfl, hown, hgrow, hat⟩)
                have qb : (Value.slice Al ls.length cll).ownBlock ≠ some w.heap.size := fun q => by have := (HWx.out.ol.lt w.heap.size q).1; omega
                have qr : (Value.slice Al ls.length cll).ownBlock ≠ some (w.heap.size + 1) := fun q => by have := (HWx.out.ol.lt (w.heap.size + 1) q).1; omega
                replace HFx := Lib.hid (HFx.out.grown hgrow (by omega) (fun k hk => by have := (HWx.out.ol.lt k hk).1; omega))
                replace HCx := Lib.hid (HCx.out.grown hgrow (Ne.symm qb))
                replace HRx := Lib.hid (HRx.out.grown hgrow (Ne.symm qr))
                obtain ⟨Al2, cl2, rfl, _, _⟩ := own_slice hown
                replace HWx := Lib.hid (HWx.out.insl i hil HNN HNx.out hown hgrow hat)
                replace hz3 : w.heap.size + 2 ≤ wd451011.heap.size := HRx.out.lt
                clear hin hown hgrow hat qb qr N10 HNx
                refine hK.out _ _ (fun _ => ⟨HCx.out.c 0 _ rfl, HCx.out.c 1 _ rfl⟩) ?_
                clear hK K2
                try simp only [Act.put, List.setIfInBounds_toArray, List.set_cons_zero, List.set_cons_succ]
                refine stage_all (rs := [13]) (by kernel_rfl) (by simp) (fun i0 hi0 => ?_)
                obtain rfl : i0 = 13 := by simpa using hi0
                refine stage_step (S := fun (L' : Array Bool) (w' : World) => (L'.getD 13 false = false → w'.cell? ⟨w.heap.size, 0, none⟩ = some (.slice Ak ks.length ckk) ∧ w'.cell? ⟨w.heap.size, 1, none⟩ = some (.slice Al ls.length cll))) (o := { dst := none, op := Go.Op.store 22 (Go.Operand.tmp 85) (Go.Operand.tmp 78), type := 0, pos := "gc.go:102", after := #[{ on := 12, ground := Go.Ground.data }, { on := 5, ground := Go.Ground.data }, { on := 11, ground := Go.Ground.chain }, { on := 0, ground := Go.Ground.phase }, { on := 1, ground := Go.Ground.phase }, { on := 2, ground := Go.Ground.phase }, { on := 3, ground := Go.Ground.phase }, { on := 4, ground := Go.Ground.phase }, { on := 5, ground := Go.Ground.phase }, { on := 6, ground := Go.Ground.phase }, { on := 7, ground := Go.Ground.phase }, { on := 8, ground := Go.Ground.textOnly Go.Departure.lateStores }, { on := 9, ground := Go.Ground.textOnly Go.Departure.lateStores }, { on := 10, ground := Go.Ground.textOnly Go.Departure.lateStores }, { on := 11, ground := Go.Ground.textOnly Go.Departure.lateStoresUnsure }], guard := none }) (by rfl) (fun K2 hK => ?_)
                have cHCx0 := HCx.out.c 0 _ rfl; have fHCx0 := HCx.out.f 0 (by simp); have cHCx1 := HCx.out.c 1 _ rfl; have fHCx1 := HCx.out.f 1 (by simp); have lHCx := HCx.out.lt
                go_simp
                clear cHCx0 fHCx0 cHCx1 fHCx1 lHCx
                replace HFx := Lib.hid (below_set (g := w.heap.size) (j := 0) (v := (.slice Ak2 (putV ks i key).length ck2)) HFx.out (Nat.le_refl _))
                replace HCx : Hid (Box (wd451011.setCell ⟨w.heap.size, 0, none⟩ (.slice Ak2 (putV ks i key).length ck2)) w.heap.size [.slice Ak2 (putV ks i key).length ck2, .slice Al ls.length cll]) := Lib.hid (HCx.out.set 0 _ (by simp))
                replace HWx := Lib.hid (HWx.out.set ⟨w.heap.size, 0, none⟩ (.slice Ak2 (putV ks i key).length ck2) (by show w.heap.size < w.heap.size + 2; omega))
                replace HRx := Lib.hid (HRx.out.other ⟨w.heap.size, 0, none⟩ (.slice Ak2 (putV ks i key).length ck2) (by show w.heap.size ≠ w.heap.size + 1; omega))
                refine hK.out _ _ (fun h => by simp at h) ?_
                clear hK K2
                try simp only [Act.put, List.setIfInBounds_toArray, List.set_cons_zero, List.set_cons_succ]
                generalize wd451011.setCell ⟨w.heap.size, 0, none⟩ (.slice Ak2 (putV ks i key).length ck2) = wd45101113 at *
                (try clear wd451011)
                refine stage_take (i := 14) (oi := { dst := some 86, op := Go.Op.fieldAddr 28 (Go.Operand.tmp 6) 1, type := 0, pos := "gc.go:102", after := #[{ on := 0, ground := Go.Ground.phase }, { on := 1, ground := Go.Ground.phase }, { on := 2, ground := Go.Ground.phase }, { on := 3, ground := Go.Ground.phase }, { on := 4, ground := Go.Ground.phase }, { on := 5, ground := Go.Ground.phase }, { on := 6, ground := Go.Ground.phase }, { on := 7, ground := Go.Ground.phase }, { on := 8, ground := Go.Ground.phase }, { on := 9, ground := Go.Ground.phase }, { on := 10, ground := Go.Ground.phase }, { on := 11, ground := Go.Ground.phase }, { on := 12, ground := Go.Ground.phase }, { on := 13, ground := Go.Ground.phase }], guard := none }) (v := ?_) (T := fun _ => True) rfl (by kernel_rfl) (by kernel_rfl) (by kernel_rfl) (by kernel_rfl) (fun _ _ _ h => h) (fun L' w' hW hS => trivial) (fun L' w' hS => fun h => hS (by rw [getD_set_ne false (by decide)]; exact h)) (Or.inl ⟨by rfl, ?_⟩) trivial (fun h => by simp at h) ?_
                rotate_left 1
                · intro w9 _; go_simp; (try with_reducible rfl)
                try simp only [Act.put, List.setIfInBounds_toArray, List.set_cons_zero, List.set_cons_succ]
                refine stage_all (rs := [15]) (by kernel_rfl) (by simp) (fun i0 hi0 => ?_)
                obtain rfl : i0 = 15 := by simpa using hi0
                refine stage_step (S := fun (L' : Array Bool) (w' : World) => (L'.getD 13 false = false → w'.cell? ⟨w.heap.size, 0, none⟩ = some (.slice Ak ks.length ckk) ∧ w'.cell? ⟨w.heap.size, 1, none⟩ = some (.slice Al ls.length cll))) (o := { dst := none, op := Go.Op.store 26 (Go.Operand.tmp 86) (Go.Operand.tmp 84), type := 0, pos := "gc.go:102", after := #[{ on := 14, ground := Go.Ground.data }, { on := 11, ground := Go.Ground.data }, { on := 13, ground := Go.Ground.chain }, { on := 0, ground := Go.Ground.phase }, { on := 1, ground := Go.Ground.phase }, { on := 2, ground := Go.Ground.phase }, { on := 3, ground := Go.Ground.phase }, { on := 4, ground := Go.Ground.phase }, { on := 5, ground := Go.Ground.phase }, { on := 6, ground := Go.Ground.phase }, { on := 7, ground := Go.Ground.phase }, { on := 8, ground := Go.Ground.phase }, { on := 9, ground := Go.Ground.phase }, { on := 10, ground := Go.Ground.phase }, { on := 11, ground := Go.Ground.phase }, { on := 12, ground := Go.Ground.phase }, { on := 13, ground := Go.Ground.phase }], guard := none }) (by rfl) (fun K2 hK => ?_)
                have cHCx0 := HCx.out.c 0 _ rfl; have fHCx0 := HCx.out.f 0 (by simp); have cHCx1 := HCx.out.c 1 _ rfl; have fHCx1 := HCx.out.f 1 (by simp); have lHCx := HCx.out.lt
                go_simp
                clear cHCx0 fHCx0 cHCx1 fHCx1 lHCx
                replace HFx := Lib.hid (below_set (g := w.heap.size) (j := 1) (v := (.slice Al2 (ls.length + 1) cl2)) HFx.out (Nat.le_refl _))
                replace HCx : Hid (Box (wd45101113.setCell ⟨w.heap.size, 1, none⟩ (.slice Al2 (ls.length + 1) cl2)) w.heap.size [.slice Ak2 (putV ks i key).length ck2, .slice Al2 (ls.length + 1) cl2]) := Lib.hid (HCx.out.set 1 _ (by simp))
                replace HWx := Lib.hid (HWx.out.set ⟨w.heap.size, 1, none⟩ (.slice Al2 (ls.length + 1) cl2) (by show w.heap.size < w.heap.size + 2; omega))
                replace HRx := Lib.hid (HRx.out.other ⟨w.heap.size, 1, none⟩ (.slice Al2 (ls.length + 1) cl2) (by show w.heap.size ≠ w.heap.size + 1; omega))
                refine hK.out _ _ (fun h => by simp at h) ?_
                clear hK K2
                try simp only [Act.put, List.setIfInBounds_toArray, List.set_cons_zero, List.set_cons_succ]
                generalize wd45101113.setCell ⟨w.heap.size, 1, none⟩ (.slice Al2 (ls.length + 1) cl2) = wd4510111315 at *
                (try clear wd45101113)
                refine stage_done (by kernel_rfl) ?_ _
                have cHCx0 := HCx.out.c 0 _ rfl; have fHCx0 := HCx.out.f 0 (by simp); have cHCx1 := HCx.out.c 1 _ rfl; have fHCx1 := HCx.out.f 1 (by simp); have lHCx := HCx.out.lt; have cHRx0 := HRx.out.c 0 _ rfl; have fHRx0 := HRx.out.f 0 (by simp); have cHRx1 := HRx.out.c 1 _ rfl; have fHRx1 := HRx.out.f 1 (by simp); have lHRx := HRx.out.lt
                go_wp2_with fail
                clear cHCx0 fHCx0 cHCx1 fHCx1 lHCx; clear cHRx0 fHRx0 cHRx1 fHRx1 lHRx
                have HX := Lib.hid (below_set (g := w.heap.size + 1) (j := 1) (v := .slice Al2 (ls.length + 1) cl2) (below_set (g := w.heap.size + 1) (j := 0) (v := .slice Ak2 (putV ks i key).length ck2) HFx.out (Nat.le_succ _)) (Nat.le_succ _))
                have BX : Hid (Box ((wd4510111315.setCell ⟨w.heap.size + 1, 0, none⟩ (.slice Ak2 (putV ks i key).length ck2)).setCell ⟨w.heap.size + 1, 1, none⟩ (.slice Al2 (ls.length + 1) cl2)) (w.heap.size + 1) [.slice Ak2 (putV ks i key).length ck2, .slice Al2 (ls.length + 1) cl2]) := Lib.hid ((HRx.out.set 0 (.slice Ak2 (putV ks i key).length ck2) (by simp)).set 1 (.slice Al2 (ls.length + 1) cl2) (by simp))
                have HV : Hid (ChB w.heap.size ((wd4510111315.setCell ⟨w.heap.size + 1, 0, none⟩ (.slice Ak2 (putV ks i key).length ck2)).setCell ⟨w.heap.size + 1, 1, none⟩ (.slice Al2 (ls.length + 1) cl2)) (.agg #[.slice Ak2 (putV ks i key).length ck2, .slice Al2 (ls.length + 1) cl2]) g.1 g.2.1) := Lib.hid (by rw [EE.out]; exact ((((HWx.out.set ⟨w.heap.size + 1, 0, none⟩ _ (Nat.lt_succ_self _)).set ⟨w.heap.size + 1, 1, none⟩ _ (Nat.lt_succ_self _)).chb).mono (by omega)))
                generalize (wd4510111315.setCell ⟨w.heap.size + 1, 0, none⟩ (.slice Ak2 (putV ks i key).length ck2)).setCell ⟨w.heap.size + 1, 1, none⟩ (.slice Al2 (ls.length + 1) cl2) = wz at *
                have cBX0 := BX.out.c 0 _ rfl; have fBX0 := BX.out.f 0 (by simp); have cBX1 := BX.out.c 1 _ rfl; have fBX1 := BX.out.f 1 (by simp); have lBX := BX.out.lt
                refine bodyPost_ret (v := .tuple #[.agg #[.slice Ak2 (putV ks i key).length ck2, .slice Al2 (ls.length + 1) cl2], .int .i64 0]) (by simp [results, Try.results10, go_sem, cBX0, cBX1]) rfl ?_
                refine ⟨_, ?_, HV.out, HX.out⟩
                rw [EE.out]
              · refine stage_step (S := fun (L' : Array Bool) (w' : World) => (L'.getD 13 false = false → w'.cell? ⟨w.heap.size, 0, none⟩ = some (.slice Ak ks.length ckk) ∧ w'.cell? ⟨w.heap.size, 1, none⟩ = some (.slice Al ls.length cll))) (o := { dst := some 83, op := Go.Op.buildSlice 26 1 #[(0, Go.Operand.tmp 82)], type := 26, pos := "gc.go:102", after := #[{ on := 9, ground := Go.Ground.data }], guard := none }) (by rfl) (fun K2 hK => ?_)
                go_simp
                have q10k : (Value.slice Ak ks.length ckk).ownBlock ≠ some wd4.heap.size := fun q => by have := (HWx.out.ok.lt _ q).2; omega
                have q10m : (Value.slice Al ls.length cll).ownBlock ≠ some wd4.heap.size := fun q => by have := (HWx.out.ol.lt _ q).2; omega
                have N10 : Hid ((wd4.alloc (.cells #[.slice A4 r.1.length c4] 44)).heap[wd4.heap.size]? = some (.cells #[.slice A4 r.1.length c4] 44)) := Lib.hid (heap_alloc_new wd4 _)
                have q10l : wd4.heap.size < (wd4.alloc (.cells #[.slice A4 r.1.length c4] 44)).heap.size := by simp
                replace HFx := Lib.hid (HFx.out.alloc HFx.out.size (.cells #[.slice A4 r.1.length c4] 44))
                replace HCx := Lib.hid (HCx.out.alloc (.cells #[.slice A4 r.1.length c4] 44))
                replace HRx := Lib.hid (HRx.out.alloc (.cells #[.slice A4 r.1.length c4] 44))
                replace HWx := Lib.hid (HWx.out.alloc (.cells #[.slice A4 r.1.length c4] 44))
                replace HNx := Lib.hid (HNx.out.below ((Below.refl _ wd4).alloc (Nat.le_refl _) (.cells #[.slice A4 r.1.length c4] 44)))
                replace N4 := Lib.hid ((heap_alloc_old wd4 (.cells #[.slice A4 r.1.length c4] 44) q4l).trans N4.out)
                replace q4l : g4 < (wd4.alloc (.cells #[.slice A4 r.1.length c4] 44)).heap.size := Nat.lt_of_lt_of_le q4l (by simp)
                refine hK.out _ _ (fun _ => ⟨HCx.out.c 0 _ rfl, HCx.out.c 1 _ rfl⟩) ?_
                clear hK K2
                try simp only [Act.put, List.setIfInBounds_toArray, List.set_cons_zero, List.set_cons_succ]
                have hs10 : w.heap.size + 2 ≤ wd4.heap.size := by omega
                replace hz3 : w.heap.size + 2 ≤ (wd4.alloc (.cells #[.slice A4 r.1.length c4] 44)).heap.size := HRx.out.lt
                generalize wd4.alloc (.cells #[.slice A4 r.1.length c4] 44) = wd410 at *
                generalize wd4.heap.size = g10 at *
                (try clear wd4)
                refine stage_all (rs := [5]) (by kernel_rfl) (by simp) (fun i0 hi0 => ?_)
                obtain rfl : i0 = 5 := by simpa using hi0
                refine stage_step (S := fun (L' : Array Bool) (w' : World) => (L'.getD 13 false = false → w'.cell? ⟨w.heap.size, 0, none⟩ = some (.slice Ak ks.length ckk) ∧ w'.cell? ⟨w.heap.size, 1, none⟩ = some (.slice Al ls.length cll))) (o := { dst := some 78, op := Go.Op.call { callee := Go.Callee.value (Go.Operand.func 28), args := #[Go.Operand.tmp 74, Go.Operand.tmp 75, Go.Operand.tmp 77], argTypes := #[22, 3, 22] }, type := 22, pos := "gc.go:102", after := #[{ on := 1, ground := Go.Ground.data }, { on := 2, ground := Go.Ground.data }, { on := 4, ground := Go.Ground.data }], guard := none }) (by rfl) (fun K2 hK => ?_)
                go_simp
                have hin := insS_any (w.heap.size + 2) g4 i (.slice Ak ks.length ckk) (ks.flatMap encS) (.string key) wd410 (by rw [flat_encS]; simp [Value.oneCell']) rfl (by rw [flat_encS, List.length_map]; exact hle) (by rw [flat_encS, List.length_map]; exact hi) (by rw [show (ks.flatMap encS).length = ks.length by rw [flat_encS, List.length_map]]; exact HWx.out.ok) N4.out q4k hz3
                go_wp2_with (go_at_call 28; (with_reducible refine hin.mono ?_); rintro e wd4105 ⟨vk2, rfl, hown, hgrow, hat⟩)
                rw [← putV_flat, show (ks.flatMap encS).length + 1 = (putV ks i key).length by rw [flat_encS, List.length_map, putV_len _ _ _ hi]] at hown
                have qb : (Value.slice Ak ks.length ckk).ownBlock ≠ some w.heap.size := fun q => by have := (HWx.out.ok.lt w.heap.size q).1; omega
                have qr : (Value.slice Ak ks.length ckk).ownBlock ≠ some (w.heap.size + 1) := fun q => by have := (HWx.out.ok.lt (w.heap.size + 1) q).1; omega
                replace HFx := Lib.hid (HFx.out.grown hgrow (by omega) (fun k hk => by have := (HWx.out.ok.lt k hk).1; omega))
                replace HCx := Lib.hid (HCx.out.grown hgrow (Ne.symm qb))
                replace HRx := Lib.hid (HRx.out.grown hgrow (Ne.symm qr))
                replace N10 := Lib.hid ((hgrow.block g10 q10l (Ne.symm q10k)).trans N10.out)
                replace q10l := Nat.lt_of_lt_of_le q10l hgrow.size
                obtain ⟨Ak2, ck2, rfl, _, _⟩ := own_slice hown
                replace HNx := Lib.hid (HWx.out.keyx hgrow hat HNN HNx.out)
                replace HWx := Lib.hid (HWx.out.row hown hgrow hat)
                replace hz3 : w.heap.size + 2 ≤ wd4105.heap.size := HRx.out.lt
                clear hin hown hgrow hat qb qr N4 q4k q4l
                refine hK.out _ _ (fun _ => ⟨HCx.out.c 0 _ rfl, HCx.out.c 1 _ rfl⟩) ?_
                clear hK K2
                try simp only [Act.put, List.setIfInBounds_toArray, List.set_cons_zero, List.set_cons_succ]
                refine stage_take (i := 12) (oi := { dst := some 85, op := Go.Op.fieldAddr 28 (Go.Operand.tmp 6) 0, type := 0, pos := "gc.go:102", after := #[{ on := 0, ground := Go.Ground.phase }, { on := 1, ground := Go.Ground.phase }, { on := 2, ground := Go.Ground.phase }, { on := 3, ground := Go.Ground.phase }, { on := 4, ground := Go.Ground.phase }, { on := 5, ground := Go.Ground.phase }, { on := 6, ground := Go.Ground.phase }, { on := 7, ground := Go.Ground.phase }, { on := 8, ground := Go.Ground.textOnly Go.Departure.lateStores }, { on := 9, ground := Go.Ground.textOnly Go.Departure.lateStores }, { on := 10, ground := Go.Ground.textOnly Go.Departure.lateStores }, { on := 11, ground := Go.Ground.textOnly Go.Departure.lateStoresUnsure }], guard := none }) (v := ?_) (T := fun _ => True) rfl (by kernel_rfl) (by kernel_rfl) (by kernel_rfl) (by kernel_rfl) (fun _ _ _ h => h) (fun L' w' hW hS => trivial) (fun L' w' hS => fun h => hS (by rw [getD_set_ne false (by decide)]; exact h)) (Or.inl ⟨by rfl, ?_⟩) trivial (fun _ => ⟨HCx.out.c 0 _ rfl, HCx.out.c 1 _ rfl⟩) ?_
                rotate_left 1
                · intro w9 _; go_simp; (try with_reducible rfl)
                try simp only [Act.put, List.setIfInBounds_toArray, List.set_cons_zero, List.set_cons_succ]
                refine stage_all (rs := [11]) (by kernel_rfl) (by simp) (fun i0 hi0 => ?_)
                obtain rfl : i0 = 11 := by simpa using hi0
                refine stage_step (S := fun (L' : Array Bool) (w' : World) => (L'.getD 13 false = false → w'.cell? ⟨w.heap.size, 0, none⟩ = some (.slice Ak ks.length ckk) ∧ w'.cell? ⟨w.heap.size, 1, none⟩ = some (.slice Al ls.length cll))) (o := { dst := some 84, op := Go.Op.call { callee := Go.Callee.value (Go.Operand.func 29), args := #[Go.Operand.tmp 80, Go.Operand.tmp 81, Go.Operand.tmp 83], argTypes := #[26, 3, 26] }, type := 26, pos := "gc.go:102", after := #[{ on := 7, ground := Go.Ground.data }, { on := 8, ground := Go.Ground.data }, { on := 10, ground := Go.Ground.data }, { on := 5, ground := Go.Ground.chain }], guard := none }) (by rfl) (fun K2 hK => ?_)
                go_simp
                have hvl : vs.length = ls.length := by have := HWx.out.ol.1; simpa using this
                have hin := insR_any (w.heap.size + 2) g10 i (.slice Al ls.length cll) vs (.slice A4 r.1.length c4) wd4105 HWx.out.one rfl (by rw [hvl]; have := HLEN.out; omega) (by rw [hvl]; exact hil) (by rw [hvl]; exact HWx.out.ol) N10.out q10m hz3
                rw [hvl] at hin
                go_wp2_with (go_at_call 29; (with_reducible refine hin.mono ?_); rintro e wd410511 ⟨vl2, rfl, hown, hgrow, hat⟩)
                have qb : (Value.slice Al ls.length cll).ownBlock ≠ some w.heap.size := fun q => by have := (HWx.out.ol.lt w.heap.size q).1; omega
                have qr : (Value.slice Al ls.length cll).ownBlock ≠ some (w.heap.size + 1) := fun q => by have := (HWx.out.ol.lt (w.heap.size + 1) q).1; omega
                replace HFx := Lib.hid (HFx.out.grown hgrow (by omega) (fun k hk => by have := (HWx.out.ol.lt k hk).1; omega))
                replace HCx := Lib.hid (HCx.out.grown hgrow (Ne.symm qb))
                replace HRx := Lib.hid (HRx.out.grown hgrow (Ne.symm qr))
                obtain ⟨Al2, cl2, rfl, _, _⟩ := own_slice hown
                replace HWx := Lib.hid (HWx.out.insl i hil HNN HNx.out hown hgrow hat)
                replace hz3 : w.heap.size + 2 ≤ wd410511.heap.size := HRx.out.lt
                clear hin hown hgrow hat qb qr N10 HNx
                refine hK.out _ _ (fun _ => ⟨HCx.out.c 0 _ rfl, HCx.out.c 1 _ rfl⟩) ?_
                clear hK K2
                try simp only [Act.put, List.setIfInBounds_toArray, List.set_cons_zero, List.set_cons_succ]
                refine stage_all (rs := [13]) (by kernel_rfl) (by simp) (fun i0 hi0 => ?_)
                obtain rfl : i0 = 13 := by simpa using hi0
                refine stage_step (S := fun (L' : Array Bool) (w' : World) => (L'.getD 13 false = false → w'.cell? ⟨w.heap.size, 0, none⟩ = some (.slice Ak ks.length ckk) ∧ w'.cell? ⟨w.heap.size, 1, none⟩ = some (.slice Al ls.length cll))) (o := { dst := none, op := Go.Op.store 22 (Go.Operand.tmp 85) (Go.Operand.tmp 78), type := 0, pos := "gc.go:102", after := #[{ on := 12, ground := Go.Ground.data }, { on := 5, ground := Go.Ground.data }, { on := 11, ground := Go.Ground.chain }, { on := 0, ground := Go.Ground.phase }, { on := 1, ground := Go.Ground.phase }, { on := 2, ground := Go.Ground.phase }, { on := 3, ground := Go.Ground.phase }, { on := 4, ground := Go.Ground.phase }, { on := 5, ground := Go.Ground.phase }, { on := 6, ground := Go.Ground.phase }, { on := 7, ground := Go.Ground.phase }, { on := 8, ground := Go.Ground.textOnly Go.Departure.lateStores }, { on := 9, ground := Go.Ground.textOnly Go.Departure.lateStores }, { on := 10, ground := Go.Ground.textOnly Go.Departure.lateStores }, { on := 11, ground := Go.Ground.textOnly Go.Departure.lateStoresUnsure }], guard := none }) (by rfl) (fun K2 hK => ?_)
                have cHCx0 := HCx.out.c 0 _ rfl; have fHCx0 := HCx.out.f 0 (by simp); have cHCx1 := HCx.out.c 1 _ rfl; have fHCx1 := HCx.out.f 1 (by simp); have lHCx := HCx.out.lt
                go_simp
                clear cHCx0 fHCx0 cHCx1 fHCx1 lHCx
                replace HFx := Lib.hid (below_set (g := w.heap.size) (j := 0) (v := (.slice Ak2 (putV ks i key).length ck2)) HFx.out (Nat.le_refl _))
                replace HCx : Hid (Box (wd410511.setCell ⟨w.heap.size, 0, none⟩ (.slice Ak2 (putV ks i key).length ck2)) w.heap.size [.slice Ak2 (putV ks i key).length ck2, .slice Al ls.length cll]) := Lib.hid (HCx.out.set 0 _ (by simp))
                replace HWx := Lib.hid (HWx.out.set ⟨w.heap.size, 0, none⟩ (.slice Ak2 (putV ks i key).length ck2) (by show w.heap.size < w.heap.size + 2; omega))
                replace HRx := Lib.hid (HRx.out.other ⟨w.heap.size, 0, none⟩ (.slice Ak2 (putV ks i key).length ck2) (by show w.heap.size ≠ w.heap.size + 1; omega))
                refine hK.out _ _ (fun h => by simp at h) ?_
                clear hK K2
                try simp only [Act.put, List.setIfInBounds_toArray, List.set_cons_zero, List.set_cons_succ]
                generalize wd410511.setCell ⟨w.heap.size, 0, none⟩ (.slice Ak2 (putV ks i key).length ck2) = wd41051113 at *
                (try clear wd410511)
                refine stage_take (i := 14) (oi := { dst := some 86, op := Go.Op.fieldAddr 28 (Go.Operand.tmp 6) 1, type := 0, pos := "gc.go:102", after := #[{ on := 0, ground := Go.Ground.phase }, { on := 1, ground := Go.Ground.phase }, { on := 2, ground := Go.Ground.phase }, { on := 3, ground := Go.Ground.phase }, { on := 4, ground := Go.Ground.phase }, { on := 5, ground := Go.Ground.phase }, { on := 6, ground := Go.Ground.phase }, { on := 7, ground := Go.Ground.phase }, { on := 8, ground := Go.Ground.phase }, { on := 9, ground := Go.Ground.phase }, { on := 10, ground := Go.Ground.phase }, { on := 11, ground := Go.Ground.phase }, { on := 12, ground := Go.Ground.phase }, { on := 13, ground := Go.Ground.phase }], guard := none }) (v := ?_) (T := fun _ => True) rfl (by kernel_rfl) (by kernel_rfl) (by kernel_rfl) (by kernel_rfl) (fun _ _ _ h => h) (fun L' w' hW hS => trivial) (fun L' w' hS => fun h => hS (by rw [getD_set_ne false (by decide)]; exact h)) (Or.inl ⟨by rfl, ?_⟩) trivial (fun h => by simp at h) ?_
                rotate_left 1
                · intro w9 _; go_simp; (try with_reducible rfl)
                try simp only [Act.put, List.setIfInBounds_toArray, List.set_cons_zero, List.set_cons_succ]
                refine stage_all (rs := [15]) (by kernel_rfl) (by simp) (fun i0 hi0 => ?_)
                obtain rfl : i0 = 15 := by simpa using hi0
                refine stage_step (S := fun (L' : Array Bool) (w' : World) => (L'.getD 13 false = false → w'.cell? ⟨w.heap.size, 0, none⟩ = some (.slice Ak ks.length ckk) ∧ w'.cell? ⟨w.heap.size, 1, none⟩ = some (.slice Al ls.length cll))) (o := { dst := none, op := Go.Op.store 26 (Go.Operand.tmp 86) (Go.Operand.tmp 84), type := 0, pos := "gc.go:102", after := #[{ on := 14, ground := Go.Ground.data }, { on := 11, ground := Go.Ground.data }, { on := 13, ground := Go.Ground.chain }, { on := 0, ground := Go.Ground.phase }, { on := 1, ground := Go.Ground.phase }, { on := 2, ground := Go.Ground.phase }, { on := 3, ground := Go.Ground.phase }, { on := 4, ground := Go.Ground.phase }, { on := 5, ground := Go.Ground.phase }, { on := 6, ground := Go.Ground.phase }, { on := 7, ground := Go.Ground.phase }, { on := 8, ground := Go.Ground.phase }, { on := 9, ground := Go.Ground.phase }, { on := 10, ground := Go.Ground.phase }, { on := 11, ground := Go.Ground.phase }, { on := 12, ground := Go.Ground.phase }, { on := 13, ground := Go.Ground.phase }], guard := none }) (by rfl) (fun K2 hK => ?_)
                have cHCx0 := HCx.out.c 0 _ rfl; have fHCx0 := HCx.out.f 0 (by simp); have cHCx1 := HCx.out.c 1 _ rfl; have fHCx1 := HCx.out.f 1 (by simp); have lHCx := HCx.out.lt
                go_simp
                clear cHCx0 fHCx0 cHCx1 fHCx1 lHCx
                replace HFx := Lib.hid (below_set (g := w.heap.size) (j := 1) (v := (.slice Al2 (ls.length + 1) cl2)) HFx.out (Nat.le_refl _))
                replace HCx : Hid (Box (wd41051113.setCell ⟨w.heap.size, 1, none⟩ (.slice Al2 (ls.length + 1) cl2)) w.heap.size [.slice Ak2 (putV ks i key).length ck2, .slice Al2 (ls.length + 1) cl2]) := Lib.hid (HCx.out.set 1 _ (by simp))
                replace HWx := Lib.hid (HWx.out.set ⟨w.heap.size, 1, none⟩ (.slice Al2 (ls.length + 1) cl2) (by show w.heap.size < w.heap.size + 2; omega))
                replace HRx := Lib.hid (HRx.out.other ⟨w.heap.size, 1, none⟩ (.slice Al2 (ls.length + 1) cl2) (by show w.heap.size ≠ w.heap.size + 1; omega))
                refine hK.out _ _ (fun h => by simp at h) ?_
                clear hK K2
                try simp only [Act.put, List.setIfInBounds_toArray, List.set_cons_zero, List.set_cons_succ]
                generalize wd41051113.setCell ⟨w.heap.size, 1, none⟩ (.slice Al2 (ls.length + 1) cl2) = wd4105111315 at *
                (try clear wd41051113)
                refine stage_done (by kernel_rfl) ?_ _
                have cHCx0 := HCx.out.c 0 _ rfl; have fHCx0 := HCx.out.f 0 (by simp); have cHCx1 := HCx.out.c 1 _ rfl; have fHCx1 := HCx.out.f 1 (by simp); have lHCx := HCx.out.lt; have cHRx0 := HRx.out.c 0 _ rfl; have fHRx0 := HRx.out.f 0 (by simp); have cHRx1 := HRx.out.c 1 _ rfl; have fHRx1 := HRx.out.f 1 (by simp); have lHRx := HRx.out.lt
                go_wp2_with fail
                clear cHCx0 fHCx0 cHCx1 fHCx1 lHCx; clear cHRx0 fHRx0 cHRx1 fHRx1 lHRx
                have HX := Lib.hid (below_set (g := w.heap.size + 1) (j := 1) (v := .slice Al2 (ls.length + 1) cl2) (below_set (g := w.heap.size + 1) (j := 0) (v := .slice Ak2 (putV ks i key).length ck2) HFx.out (Nat.le_succ _)) (Nat.le_succ _))
                have BX : Hid (Box ((wd4105111315.setCell ⟨w.heap.size + 1, 0, none⟩ (.slice Ak2 (putV ks i key).length ck2)).setCell ⟨w.heap.size + 1, 1, none⟩ (.slice Al2 (ls.length + 1) cl2)) (w.heap.size + 1) [.slice Ak2 (putV ks i key).length ck2, .slice Al2 (ls.length + 1) cl2]) := Lib.hid ((HRx.out.set 0 (.slice Ak2 (putV ks i key).length ck2) (by simp)).set 1 (.slice Al2 (ls.length + 1) cl2) (by simp))
                have HV : Hid (ChB w.heap.size ((wd4105111315.setCell ⟨w.heap.size + 1, 0, none⟩ (.slice Ak2 (putV ks i key).length ck2)).setCell ⟨w.heap.size + 1, 1, none⟩ (.slice Al2 (ls.length + 1) cl2)) (.agg #[.slice Ak2 (putV ks i key).length ck2, .slice Al2 (ls.length + 1) cl2]) g.1 g.2.1) := Lib.hid (by rw [EE.out]; exact ((((HWx.out.set ⟨w.heap.size + 1, 0, none⟩ _ (Nat.lt_succ_self _)).set ⟨w.heap.size + 1, 1, none⟩ _ (Nat.lt_succ_self _)).chb).mono (by omega)))
                generalize (wd4105111315.setCell ⟨w.heap.size + 1, 0, none⟩ (.slice Ak2 (putV ks i key).length ck2)).setCell ⟨w.heap.size + 1, 1, none⟩ (.slice Al2 (ls.length + 1) cl2) = wz at *
                have cBX0 := BX.out.c 0 _ rfl; have fBX0 := BX.out.f 0 (by simp); have cBX1 := BX.out.c 1 _ rfl; have fBX1 := BX.out.f 1 (by simp); have lBX := BX.out.lt
                refine bodyPost_ret (v := .tuple #[.agg #[.slice Ak2 (putV ks i key).length ck2, .slice Al2 (ls.length + 1) cl2], .int .i64 0]) (by simp [results, Try.results10, go_sem, cBX0, cBX1]) rfl ?_
                refine ⟨_, ?_, HV.out, HX.out⟩
                rw [EE.out]
            · refine stage_step (S := fun (L' : Array Bool) (w' : World) => (L'.getD 13 false = false → w'.cell? ⟨w.heap.size, 0, none⟩ = some (.slice Ak ks.length ckk) ∧ w'.cell? ⟨w.heap.size, 1, none⟩ = some (.slice Al ls.length cll))) (o := { dst := some 83, op := Go.Op.buildSlice 26 1 #[(0, Go.Operand.tmp 82)], type := 26, pos := "gc.go:102", after := #[{ on := 9, ground := Go.Ground.data }], guard := none }) (by rfl) (fun K2 hK => ?_)
              go_simp
              have q10k : (Value.slice Ak ks.length ckk).ownBlock ≠ some wd.heap.size := fun q => by have := (HWx.out.ok.lt _ q).2; omega
              have q10m : (Value.slice Al ls.length cll).ownBlock ≠ some wd.heap.size := fun q => by have := (HWx.out.ol.lt _ q).2; omega
              have N10 : Hid ((wd.alloc (.cells #[.slice A4 r.1.length c4] 44)).heap[wd.heap.size]? = some (.cells #[.slice A4 r.1.length c4] 44)) := Lib.hid (heap_alloc_new wd _)
              have q10l : wd.heap.size < (wd.alloc (.cells #[.slice A4 r.1.length c4] 44)).heap.size := by simp
              replace HFx := Lib.hid (HFx.out.alloc HFx.out.size (.cells #[.slice A4 r.1.length c4] 44))
              replace HCx := Lib.hid (HCx.out.alloc (.cells #[.slice A4 r.1.length c4] 44))
              replace HRx := Lib.hid (HRx.out.alloc (.cells #[.slice A4 r.1.length c4] 44))
              replace HWx := Lib.hid (HWx.out.alloc (.cells #[.slice A4 r.1.length c4] 44))
              replace HNx := Lib.hid (HNx.out.below ((Below.refl _ wd).alloc (Nat.le_refl _) (.cells #[.slice A4 r.1.length c4] 44)))
              refine hK.out _ _ (fun _ => ⟨HCx.out.c 0 _ rfl, HCx.out.c 1 _ rfl⟩) ?_
              clear hK K2
              try simp only [Act.put, List.setIfInBounds_toArray, List.set_cons_zero, List.set_cons_succ]
              have hs10 : w.heap.size + 2 ≤ wd.heap.size := by omega
              replace hz3 : w.heap.size + 2 ≤ (wd.alloc (.cells #[.slice A4 r.1.length c4] 44)).heap.size := HRx.out.lt
              generalize wd.alloc (.cells #[.slice A4 r.1.length c4] 44) = wd10 at *
              generalize wd.heap.size = g10 at *
              (try clear wd)
              refine stage_all (rs := [4]) (by kernel_rfl) (by simp) (fun i0 hi0 => ?_)
              obtain rfl : i0 = 4 := by simpa using hi0
              refine stage_step (S := fun (L' : Array Bool) (w' : World) => (L'.getD 13 false = false → w'.cell? ⟨w.heap.size, 0, none⟩ = some (.slice Ak ks.length ckk) ∧ w'.cell? ⟨w.heap.size, 1, none⟩ = some (.slice Al ls.length cll))) (o := { dst := some 77, op := Go.Op.buildSlice 22 1 #[(0, Go.Operand.tmp 76)], type := 22, pos := "gc.go:102", after := #[{ on := 3, ground := Go.Ground.data }], guard := none }) (by rfl) (fun K2 hK => ?_)
              go_simp
              have q4k : (Value.slice Ak ks.length ckk).ownBlock ≠ some wd10.heap.size := fun q => by have := (HWx.out.ok.lt _ q).2; omega
              skip
              have N4 : Hid ((wd10.alloc (.cells #[.string key] 9)).heap[wd10.heap.size]? = some (.cells #[.string key] 9)) := Lib.hid (heap_alloc_new wd10 _)
              have q4l : wd10.heap.size < (wd10.alloc (.cells #[.string key] 9)).heap.size := by simp
              replace HFx := Lib.hid (HFx.out.alloc HFx.out.size (.cells #[.string key] 9))
              replace HCx := Lib.hid (HCx.out.alloc (.cells #[.string key] 9))
              replace HRx := Lib.hid (HRx.out.alloc (.cells #[.string key] 9))
              replace HWx := Lib.hid (HWx.out.alloc (.cells #[.string key] 9))
              replace HNx := Lib.hid (HNx.out.below ((Below.refl _ wd10).alloc (Nat.le_refl _) (.cells #[.string key] 9)))
              replace N10 := Lib.hid ((heap_alloc_old wd10 (.cells #[.string key] 9) q10l).trans N10.out)
              replace q10l : g10 < (wd10.alloc (.cells #[.string key] 9)).heap.size := Nat.lt_of_lt_of_le q10l (by simp)
              refine hK.out _ _ (fun _ => ⟨HCx.out.c 0 _ rfl, HCx.out.c 1 _ rfl⟩) ?_
              clear hK K2
              try simp only [Act.put, List.setIfInBounds_toArray, List.set_cons_zero, List.set_cons_succ]
              have hs4 : w.heap.size + 2 ≤ wd10.heap.size := by omega
              replace hz3 : w.heap.size + 2 ≤ (wd10.alloc (.cells #[.string key] 9)).heap.size := HRx.out.lt
              generalize wd10.alloc (.cells #[.string key] 9) = wd104 at *
              generalize wd10.heap.size = g4 at *
              (try clear wd10)
              refine stage_all (rs := [5]) (by kernel_rfl) (by simp) (fun i0 hi0 => ?_)
              obtain rfl : i0 = 5 := by simpa using hi0
              refine stage_step (S := fun (L' : Array Bool) (w' : World) => (L'.getD 13 false = false → w'.cell? ⟨w.heap.size, 0, none⟩ = some (.slice Ak ks.length ckk) ∧ w'.cell? ⟨w.heap.size, 1, none⟩ = some (.slice Al ls.length cll))) (o := { dst := some 78, op := Go.Op.call { callee := Go.Callee.value (Go.Operand.func 28), args := #[Go.Operand.tmp 74, Go.Operand.tmp 75, Go.Operand.tmp 77], argTypes := #[22, 3, 22] }, type := 22, pos := "gc.go:102", after := #[{ on := 1, ground := Go.Ground.data }, { on := 2, ground := Go.Ground.data }, { on := 4, ground := Go.Ground.data }], guard := none }) (by rfl) (fun K2 hK => ?_)
              go_simp
              have hin := insS_any (w.heap.size + 2) g4 i (.slice Ak ks.length ckk) (ks.flatMap encS) (.string key) wd104 (by rw [flat_encS]; simp [Value.oneCell']) rfl (by rw [flat_encS, List.length_map]; exact hle) (by rw [flat_encS, List.length_map]; exact hi) (by rw [show (ks.flatMap encS).length = ks.length by rw [flat_encS, List.length_map]]; exact HWx.out.ok) N4.out q4k hz3
              go_wp2_with (go_at_call 28; (with_reducible refine hin.mono ?_); rintro e wd1045 ⟨vk2, rfl, hown, hgrow, hat⟩)
              rw [← putV_flat, show (ks.flatMap encS).length + 1 = (putV ks i key).length by rw [flat_encS, List.length_map, putV_len _ _ _ hi]] at hown
              have qb : (Value.slice Ak ks.length ckk).ownBlock ≠ some w.heap.size := fun q => by have := (HWx.out.ok.lt w.heap.size q).1; omega
              have qr : (Value.slice Ak ks.length ckk).ownBlock ≠ some (w.heap.size + 1) := fun q => by have := (HWx.out.ok.lt (w.heap.size + 1) q).1; omega
              replace HFx := Lib.hid (HFx.out.grown hgrow (by omega) (fun k hk => by have := (HWx.out.ok.lt k hk).1; omega))
              replace HCx := Lib.hid (HCx.out.grown hgrow (Ne.symm qb))
              replace HRx := Lib.hid (HRx.out.grown hgrow (Ne.symm qr))
              replace N10 := Lib.hid ((hgrow.block g10 q10l (Ne.symm q10k)).trans N10.out)
              replace q10l := Nat.lt_of_lt_of_le q10l hgrow.size
              obtain ⟨Ak2, ck2, rfl, _, _⟩ := own_slice hown
              replace HNx := Lib.hid (HWx.out.keyx hgrow hat HNN HNx.out)
              replace HWx := Lib.hid (HWx.out.row hown hgrow hat)
              replace hz3 : w.heap.size + 2 ≤ wd1045.heap.size := HRx.out.lt
              clear hin hown hgrow hat qb qr N4 q4k q4l
              refine hK.out _ _ (fun _ => ⟨HCx.out.c 0 _ rfl, HCx.out.c 1 _ rfl⟩) ?_
              clear hK K2
              try simp only [Act.put, List.setIfInBounds_toArray, List.set_cons_zero, List.set_cons_succ]
              refine stage_take (i := 12) (oi := { dst := some 85, op := Go.Op.fieldAddr 28 (Go.Operand.tmp 6) 0, type := 0, pos := "gc.go:102", after := #[{ on := 0, ground := Go.Ground.phase }, { on := 1, ground := Go.Ground.phase }, { on := 2, ground := Go.Ground.phase }, { on := 3, ground := Go.Ground.phase }, { on := 4, ground := Go.Ground.phase }, { on := 5, ground := Go.Ground.phase }, { on := 6, ground := Go.Ground.phase }, { on := 7, ground := Go.Ground.phase }, { on := 8, ground := Go.Ground.textOnly Go.Departure.lateStores }, { on := 9, ground := Go.Ground.textOnly Go.Departure.lateStores }, { on := 10, ground := Go.Ground.textOnly Go.Departure.lateStores }, { on := 11, ground := Go.Ground.textOnly Go.Departure.lateStoresUnsure }], guard := none }) (v := ?_) (T := fun _ => True) rfl (by kernel_rfl) (by kernel_rfl) (by kernel_rfl) (by kernel_rfl) (fun _ _ _ h => h) (fun L' w' hW hS => trivial) (fun L' w' hS => fun h => hS (by rw [getD_set_ne false (by decide)]; exact h)) (Or.inl ⟨by rfl, ?_⟩) trivial (fun _ => ⟨HCx.out.c 0 _ rfl, HCx.out.c 1 _ rfl⟩) ?_
              rotate_left 1
              · intro w9 _; go_simp; (try with_reducible rfl)
              try simp only [Act.put, List.setIfInBounds_toArray, List.set_cons_zero, List.set_cons_succ]
              refine stage_all (rs := [11]) (by kernel_rfl) (by simp) (fun i0 hi0 => ?_)
              obtain rfl : i0 = 11 := by simpa using hi0
              refine stage_step (S := fun (L' : Array Bool) (w' : World) => (L'.getD 13 false = false → w'.cell? ⟨w.heap.size, 0, none⟩ = some (.slice Ak ks.length ckk) ∧ w'.cell? ⟨w.heap.size, 1, none⟩ = some (.slice Al ls.length cll))) (o := { dst := some 84, op := Go.Op.call { callee := Go.Callee.value (Go.Operand.func 29), args := #[Go.Operand.tmp 80, Go.Operand.tmp 81, Go.Operand.tmp 83], argTypes := #[26, 3, 26] }, type := 26, pos := "gc.go:102", after := #[{ on := 7, ground := Go.Ground.data }, { on := 8, ground := Go.Ground.data }, { on := 10, ground := Go.Ground.data }, { on := 5, ground := Go.Ground.chain }], guard := none }) (by rfl) (fun K2 hK => ?_)
              go_simp
              have hvl : vs.length = ls.length := by have := HWx.out.ol.1; simpa using this
              have hin := insR_any (w.heap.size + 2) g10 i (.slice Al ls.length cll) vs (.slice A4 r.1.length c4) wd1045 HWx.out.one rfl (by rw [hvl]; have := HLEN.out; omega) (by rw [hvl]; exact hil) (by rw [hvl]; exact HWx.out.ol) N10.out q10m hz3
              rw [hvl] at hin
              go_wp2_with (go_at_call 29; (with_reducible refine hin.mono ?_); rintro e wd104511 ⟨vl2, rfl, hown, hgrow, hat⟩)
              have qb : (Value.slice Al ls.length cll).ownBlock ≠ some w.heap.size := fun q => by have := (HWx.out.ol.lt w.heap.size q).1; omega
              have qr : (Value.slice Al ls.length cll).ownBlock ≠ some (w.heap.size + 1) := fun q => by have := (HWx.out.ol.lt (w.heap.size + 1) q).1; omega
              replace HFx := Lib.hid (HFx.out.grown hgrow (by omega) (fun k hk => by have := (HWx.out.ol.lt k hk).1; omega))
              replace HCx := Lib.hid (HCx.out.grown hgrow (Ne.symm qb))
              replace HRx := Lib.hid (HRx.out.grown hgrow (Ne.symm qr))
              obtain ⟨Al2, cl2, rfl, _, _⟩ := own_slice hown
              replace HWx := Lib.hid (HWx.out.insl i hil HNN HNx.out hown hgrow hat)
              replace hz3 : w.heap.size + 2 ≤ wd104511.heap.size := HRx.out.lt
              clear hin hown hgrow hat qb qr N10 HNx
              refine hK.out _ _ (fun _ => ⟨HCx.out.c 0 _ rfl, HCx.out.c 1 _ rfl⟩) ?_
              clear hK K2
              try simp only [Act.put, List.setIfInBounds_toArray, List.set_cons_zero, List.set_cons_succ]
              refine stage_all (rs := [13]) (by kernel_rfl) (by simp) (fun i0 hi0 => ?_)
              obtain rfl : i0 = 13 := by simpa using hi0
              refine stage_step (S := fun (L' : Array Bool) (w' : World) => (L'.getD 13 false = false → w'.cell? ⟨w.heap.size, 0, none⟩ = some (.slice Ak ks.length ckk) ∧ w'.cell? ⟨w.heap.size, 1, none⟩ = some (.slice Al ls.length cll))) (o := { dst := none, op := Go.Op.store 22 (Go.Operand.tmp 85) (Go.Operand.tmp 78), type := 0, pos := "gc.go:102", after := #[{ on := 12, ground := Go.Ground.data }, { on := 5, ground := Go.Ground.data }, { on := 11, ground := Go.Ground.chain }, { on := 0, ground := Go.Ground.phase }, { on := 1, ground := Go.Ground.phase }, { on := 2, ground := Go.Ground.phase }, { on := 3, ground := Go.Ground.phase }, { on := 4, ground := Go.Ground.phase }, { on := 5, ground := Go.Ground.phase }, { on := 6, ground := Go.Ground.phase }, { on := 7, ground := Go.Ground.phase }, { on := 8, ground := Go.Ground.textOnly Go.Departure.lateStores }, { on := 9, ground := Go.Ground.textOnly Go.Departure.lateStores }, { on := 10, ground := Go.Ground.textOnly Go.Departure.lateStores }, { on := 11, ground := Go.Ground.textOnly Go.Departure.lateStoresUnsure }], guard := none }) (by rfl) (fun K2 hK => ?_)
              have cHCx0 := HCx.out.c 0 _ rfl; have fHCx0 := HCx.out.f 0 (by simp); have cHCx1 := HCx.out.c 1 _ rfl; have fHCx1 := HCx.out.f 1 (by simp); have lHCx := HCx.out.lt
              go_simp
              clear cHCx0 fHCx0 cHCx1 fHCx1 lHCx
              replace HFx := Lib.hid (below_set (g := w.heap.size) (j := 0) (v := (.slice Ak2 (putV ks i key).length ck2)) HFx.out (Nat.le_refl _))
              replace HCx : Hid (Box (wd104511.setCell ⟨w.heap.size, 0, none⟩ (.slice Ak2 (putV ks i key).length ck2)) w.heap.size [.slice Ak2 (putV ks i key).length ck2, .slice Al ls.length cll]) := Lib.hid (HCx.out.set 0 _ (by simp))
              replace HWx := Lib.hid (HWx.out.set ⟨w.heap.size, 0, none⟩ (.slice Ak2 (putV ks i key).length ck2) (by show w.heap.size < w.heap.size + 2; omega))
              replace HRx := Lib.hid (HRx.out.other ⟨w.heap.size, 0, none⟩ (.slice Ak2 (putV ks i key).length ck2) (by show w.heap.size ≠ w.heap.size + 1; omega))
              refine hK.out _ _ (fun h => by simp at h) ?_
              clear hK K2
              try simp only [Act.put, List.setIfInBounds_toArray, List.set_cons_zero, List.set_cons_succ]
              generalize wd104511.setCell ⟨w.heap.size, 0, none⟩ (.slice Ak2 (putV ks i key).length ck2) = wd10451113 at *
              (try clear wd104511)
              refine stage_take (i := 14) (oi := { dst := some 86, op := Go.Op.fieldAddr 28 (Go.Operand.tmp 6) 1, type := 0, pos := "gc.go:102", after := #[{ on := 0, ground := Go.Ground.phase }, { on := 1, ground := Go.Ground.phase }, { on := 2, ground := Go.Ground.phase }, { on := 3, ground := Go.Ground.phase }, { on := 4, ground := Go.Ground.phase }, { on := 5, ground := Go.Ground.phase }, { on := 6, ground := Go.Ground.phase }, { on := 7, ground := Go.Ground.phase }, { on := 8, ground := Go.Ground.phase }, { on := 9, ground := Go.Ground.phase }, { on := 10, ground := Go.Ground.phase }, { on := 11, ground := Go.Ground.phase }, { on := 12, ground := Go.Ground.phase }, { on := 13, ground := Go.Ground.phase }], guard := none }) (v := ?_) (T := fun _ => True) rfl (by kernel_rfl) (by kernel_rfl) (by kernel_rfl) (by kernel_rfl) (fun _ _ _ h => h) (fun L' w' hW hS => trivial) (fun L' w' hS => fun h => hS (by rw [getD_set_ne false (by decide)]; exact h)) (Or.inl ⟨by rfl, ?_⟩) trivial (fun h => by simp at h) ?_
              rotate_left 1
              · intro w9 _; go_simp; (try with_reducible rfl)
              try simp only [Act.put, List.setIfInBounds_toArray, List.set_cons_zero, List.set_cons_succ]
              refine stage_all (rs := [15]) (by kernel_rfl) (by simp) (fun i0 hi0 => ?_)
              obtain rfl : i0 = 15 := by simpa using hi0
              refine stage_step (S := fun (L' : Array Bool) (w' : World) => (L'.getD 13 false = false → w'.cell? ⟨w.heap.size, 0, none⟩ = some (.slice Ak ks.length ckk) ∧ w'.cell? ⟨w.heap.size, 1, none⟩ = some (.slice Al ls.length cll))) (o := { dst := none, op := Go.Op.store 26 (Go.Operand.tmp 86) (Go.Operand.tmp 84), type := 0, pos := "gc.go:102", after := #[{ on := 14, ground := Go.Ground.data }, { on := 11, ground := Go.Ground.data }, { on := 13, ground := Go.Ground.chain }, { on := 0, ground := Go.Ground.phase }, { on := 1, ground := Go.Ground.phase }, { on := 2, ground := Go.Ground.phase }, { on := 3, ground := Go.Ground.phase }, { on := 4, ground := Go.Ground.phase }, { on := 5, ground := Go.Ground.phase }, { on := 6, ground := Go.Ground.phase }, { on := 7, ground := Go.Ground.phase }, { on := 8, ground := Go.Ground.phase }, { on := 9, ground := Go.Ground.phase }, { on := 10, ground := Go.Ground.phase }, { on := 11, ground := Go.Ground.phase }, { on := 12, ground := Go.Ground.phase }, { on := 13, ground := Go.Ground.phase }], guard := none }) (by rfl) (fun K2 hK => ?_)
              have cHCx0 := HCx.out.c 0 _ rfl; have fHCx0 := HCx.out.f 0 (by simp); have cHCx1 := HCx.out.c 1 _ rfl; have fHCx1 := HCx.out.f 1 (by simp); have lHCx := HCx.out.lt
              go_simp
              clear cHCx0 fHCx0 cHCx1 fHCx1 lHCx
              replace HFx := Lib.hid (below_set (g := w.heap.size) (j := 1) (v := (.slice Al2 (ls.length + 1) cl2)) HFx.out (Nat.le_refl _))
              replace HCx : Hid (Box (wd10451113.setCell ⟨w.heap.size, 1, none⟩ (.slice Al2 (ls.length + 1) cl2)) w.heap.size [.slice Ak2 (putV ks i key).length ck2, .slice Al2 (ls.length + 1) cl2]) := Lib.hid (HCx.out.set 1 _ (by simp))
              replace HWx := Lib.hid (HWx.out.set ⟨w.heap.size, 1, none⟩ (.slice Al2 (ls.length + 1) cl2) (by show w.heap.size < w.heap.size + 2; omega))
              replace HRx := Lib.hid (HRx.out.other ⟨w.heap.size, 1, none⟩ (.slice Al2 (ls.length + 1) cl2) (by show w.heap.size ≠ w.heap.size + 1; omega))
              refine hK.out _ _ (fun h => by simp at h) ?_
              clear hK K2
              try simp only [Act.put, List.setIfInBounds_toArray, List.set_cons_zero, List.set_cons_succ]
              generalize wd10451113.setCell ⟨w.heap.size, 1, none⟩ (.slice Al2 (ls.length + 1) cl2) = wd1045111315 at *
              (try clear wd10451113)
              refine stage_done (by kernel_rfl) ?_ _
              have cHCx0 := HCx.out.c 0 _ rfl; have fHCx0 := HCx.out.f 0 (by simp); have cHCx1 := HCx.out.c 1 _ rfl; have fHCx1 := HCx.out.f 1 (by simp); have lHCx := HCx.out.lt; have cHRx0 := HRx.out.c 0 _ rfl; have fHRx0 := HRx.out.f 0 (by simp); have cHRx1 := HRx.out.c 1 _ rfl; have fHRx1 := HRx.out.f 1 (by simp); have lHRx := HRx.out.lt
              go_wp2_with fail
              clear cHCx0 fHCx0 cHCx1 fHCx1 lHCx; clear cHRx0 fHRx0 cHRx1 fHRx1 lHRx
              have HX := Lib.hid (below_set (g := w.heap.size + 1) (j := 1) (v := .slice Al2 (ls.length + 1) cl2) (below_set (g := w.heap.size + 1) (j := 0) (v := .slice Ak2 (putV ks i key).length ck2) HFx.out (Nat.le_succ _)) (Nat.le_succ _))
              have BX : Hid (Box ((wd1045111315.setCell ⟨w.heap.size + 1, 0, none⟩ (.slice Ak2 (putV ks i key).length ck2)).setCell ⟨w.heap.size + 1, 1, none⟩ (.slice Al2 (ls.length + 1) cl2)) (w.heap.size + 1) [.slice Ak2 (putV ks i key).length ck2, .slice Al2 (ls.length + 1) cl2]) := Lib.hid ((HRx.out.set 0 (.slice Ak2 (putV ks i key).length ck2) (by simp)).set 1 (.slice Al2 (ls.length + 1) cl2) (by simp))
              have HV : Hid (ChB w.heap.size ((wd1045111315.setCell ⟨w.heap.size + 1, 0, none⟩ (.slice Ak2 (putV ks i key).length ck2)).setCell ⟨w.heap.size + 1, 1, none⟩ (.slice Al2 (ls.length + 1) cl2)) (.agg #[.slice Ak2 (putV ks i key).length ck2, .slice Al2 (ls.length + 1) cl2]) g.1 g.2.1) := Lib.hid (by rw [EE.out]; exact ((((HWx.out.set ⟨w.heap.size + 1, 0, none⟩ _ (Nat.lt_succ_self _)).set ⟨w.heap.size + 1, 1, none⟩ _ (Nat.lt_succ_self _)).chb).mono (by omega)))
              generalize (wd1045111315.setCell ⟨w.heap.size + 1, 0, none⟩ (.slice Ak2 (putV ks i key).length ck2)).setCell ⟨w.heap.size + 1, 1, none⟩ (.slice Al2 (ls.length + 1) cl2) = wz at *
              have cBX0 := BX.out.c 0 _ rfl; have fBX0 := BX.out.f 0 (by simp); have cBX1 := BX.out.c 1 _ rfl; have fBX1 := BX.out.f 1 (by simp); have lBX := BX.out.lt
              refine bodyPost_ret (v := .tuple #[.agg #[.slice Ak2 (putV ks i key).length ck2, .slice Al2 (ls.length + 1) cl2], .int .i64 0]) (by simp [results, Try.results10, go_sem, cBX0, cBX1]) rfl ?_
              refine ⟨_, ?_, HV.out, HX.out⟩
              rw [EE.out]
        · have EE : Hid (g = ([], [], r.2)) := Lib.hid (by rw [EW.out, if_pos hr0])
          have hr1 : (r.2 == 0) = false := by simpa using hr0
          clear EW HWS HNEW OW
          generalize r.2 = rr at *
          have cBC30 := BC3.out.c 0 _ rfl; have fBC30 := BC3.out.f 0 (by simp); have cBC31 := BC3.out.c 1 _ rfl; have fBC31 := BC3.out.f 1 (by simp); have lBC3 := BC3.out.lt; have cBR30 := BR3.out.c 0 _ rfl; have fBR30 := BR3.out.f 0 (by simp); have cBR31 := BR3.out.c 1 _ rfl; have fBR31 := BR3.out.f 1 (by simp); have lBR3 := BR3.out.lt
          go_wp2_with fail
          clear cBC30 fBC30 cBC31 fBC31 lBC3; clear cBR30 fBR30 cBR31 fBR31 lBR3
          have HX := Lib.hid (below_set (g := w.heap.size + 1) (j := 1) (v := .slice none 0 0) (below_set (g := w.heap.size + 1) (j := 0) (v := .slice none 0 0) HF3.out (Nat.le_succ _)) (Nat.le_succ _))
          have BX : Hid (Box ((w4.setCell ⟨w.heap.size + 1, 0, none⟩ (.slice none 0 0)).setCell ⟨w.heap.size + 1, 1, none⟩ (.slice none 0 0)) (w.heap.size + 1) [.slice none 0 0, .slice none 0 0]) := Lib.hid ((BR3.out.set 0 (.slice none 0 0) (by simp)).set 1 (.slice none 0 0) (by simp))
          have HV : Hid (ChB w.heap.size ((w4.setCell ⟨w.heap.size + 1, 0, none⟩ (.slice none 0 0)).setCell ⟨w.heap.size + 1, 1, none⟩ (.slice none 0 0)) (.agg #[.slice none 0 0, .slice none 0 0]) g.1 g.2.1) := Lib.hid (by rw [EE.out]; exact ChB.nil _ _)
          generalize (w4.setCell ⟨w.heap.size + 1, 0, none⟩ (.slice none 0 0)).setCell ⟨w.heap.size + 1, 1, none⟩ (.slice none 0 0) = wz at *
          have cBX0 := BX.out.c 0 _ rfl; have fBX0 := BX.out.f 0 (by simp); have cBX1 := BX.out.c 1 _ rfl; have fBX1 := BX.out.f 1 (by simp); have lBX := BX.out.lt
          refine bodyPost_ret (v := .tuple #[.agg #[.slice none 0 0, .slice none 0 0], .int .i64 rr]) (by simp [results, Try.results10, go_sem, cBX0, cBX1]) rfl ?_
          refine ⟨_, ?_, HV.out, HX.out⟩
          rw [EE.out]
  · have EE := Lib.hid (E1.out k0)
    have he1 : (kc == 0) = false := by simpa using k0
    clear E1 E2 E3 CK RK RL
    have cBC0 := BC.out.c 0 _ rfl; have fBC0 := BC.out.f 0 (by simp); have cBC1 := BC.out.c 1 _ rfl; have fBC1 := BC.out.f 1 (by simp); have lBC := BC.out.lt; have cBR0 := BR.out.c 0 _ rfl; have fBR0 := BR.out.f 0 (by simp); have cBR1 := BR.out.c 1 _ rfl; have fBR1 := BR.out.f 1 (by simp); have lBR := BR.out.lt
    go_wp2_with fail
    clear cBC0 fBC0 cBC1 fBC1 lBC; clear cBR0 fBR0 cBR1 fBR1 lBR
    have HX := Lib.hid (below_set (g := w.heap.size + 1) (j := 1) (v := .slice none 0 0) (below_set (g := w.heap.size + 1) (j := 0) (v := .slice none 0 0) HF.out (Nat.le_succ _)) (Nat.le_succ _))
    have BX : Hid (Box ((w1.setCell ⟨w.heap.size + 1, 0, none⟩ (.slice none 0 0)).setCell ⟨w.heap.size + 1, 1, none⟩ (.slice none 0 0)) (w.heap.size + 1) [.slice none 0 0, .slice none 0 0]) := Lib.hid ((BR.out.set 0 (.slice none 0 0) (by simp)).set 1 (.slice none 0 0) (by simp))
    have HV : Hid (ChB w.heap.size ((w1.setCell ⟨w.heap.size + 1, 0, none⟩ (.slice none 0 0)).setCell ⟨w.heap.size + 1, 1, none⟩ (.slice none 0 0)) (.agg #[.slice none 0 0, .slice none 0 0]) g.1 g.2.1) := Lib.hid (by rw [EE.out]; exact ChB.nil _ _)
    generalize (w1.setCell ⟨w.heap.size + 1, 0, none⟩ (.slice none 0 0)).setCell ⟨w.heap.size + 1, 1, none⟩ (.slice none 0 0) = wz at *
    have cBX0 := BX.out.c 0 _ rfl; have fBX0 := BX.out.f 0 (by simp); have cBX1 := BX.out.c 1 _ rfl; have fBX1 := BX.out.f 1 (by simp); have lBX := BX.out.lt
    refine bodyPost_ret (v := .tuple #[.agg #[.slice none 0 0, .slice none 0 0], .int .i64 kc]) (by simp [results, Try.results10, go_sem, cBX0, cBX1]) rfl ?_
    refine ⟨_, ?_, HV.out, HX.out⟩
    rw [EE.out]
end Go.Proofs.Ytpkacnoimdjckaa
