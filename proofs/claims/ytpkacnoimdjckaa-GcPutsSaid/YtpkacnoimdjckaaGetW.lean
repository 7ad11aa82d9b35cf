/- Package gc: Get; SamePairs of the same pairs. -/
import Derived.Test.YtpkacnoimdjckaaRangeW
import Derived.Laws.StructEq
namespace Go.Proofs.Ytpkacnoimdjckaa
open Go.RowKit
open Go.Shelf
set_option linter.unusedVariables false
set_option linter.unusedSimpArgs false
def findK (ks : List ByteArray) (ls : List (List Ver)) (key : ByteArray) : Option (ByteArray × List Ver) := (ks.zip ls).find? (fun p => p.1.toList == key.toList)
/-- gc.Get. -/
def getR (ks : List ByteArray) (ls : List (List Ver)) (key : ByteArray) (snap tx : Int) : ByteArray × Bool × Int × Int :=
  if chkC ks ls ≠ 0 then (⟨#[]⟩, false, 0, chkC ks ls) else match findK ks ls key with | some p => seeR snap tx p.2 | none => (⟨#[]⟩, false, 0, 0)
theorem lt_congr {a b c d : ByteArray} (h1 : a.toList = c.toList) (h2 : b.toList = d.toList) : lt? a b = lt? c d := by unfold lt?; rw [h1, h2]
theorem find_at {ks : List ByteArray} {ls : List (List Ver)} {key y : ByteArray} {l : List Ver} {i : Nat} (hr : Rise ks) (hk : ks[i]? = some y) (hl : ls[i]? = some l) (he : y.toList = key.toList) : findK ks ls key = some (y, l) := by
  unfold findK
  rw [List.find?_eq_some_iff_getElem]
  refine ⟨by simp [he], i, ?_, ?_, fun j hj => ?_⟩
  · have h1 := lt_of_get hk
    have h2 := lt_of_get hl
    rw [List.length_zip]; omega
  · have : (ks.zip ls)[i]? = some (y, l) := List.getElem?_zip_eq_some.2 ⟨hk, hl⟩
    exact (List.getElem?_eq_some_iff.1 this).2
  · have h1 := lt_of_get hk
    have h2 := lt_of_get hl
    have hjk : ks[j]? = some (ks[j]'(by omega)) := List.getElem?_eq_getElem (by omega)
    have hlt := rise_get hr hjk hk hj
    rw [List.getElem_zip]
    simp only [Bool.not_eq_true', beq_eq_false_iff_ne, ne_eq]
    intro e
    have : lt? ks[j] y = lt? y y := lt_congr (e.trans he.symm) rfl
    rw [this, lt_irr] at hlt; cases hlt
theorem find_none {ks : List ByteArray} {ls : List (List Ver)} {key : ByteArray} {i : Nat} (hr : Rise ks) (h1 : ∀ (k : Nat) (y : ByteArray), k < i → ks[k]? = some y → lt? y key = true) (h2 : ∀ (k : Nat) (y : ByteArray), i ≤ k → ks[k]? = some y → lt? y key = false)
    (hn : ¬ ∃ y, ks[i]? = some y ∧ y.toList = key.toList) : findK ks ls key = none := by
  unfold findK
  rw [List.find?_eq_none]
  intro p hp
  obtain ⟨m, hm⟩ := List.mem_iff_getElem?.1 hp
  obtain ⟨a, _⟩ := List.getElem?_zip_eq_some.1 hm
  simp only [beq_iff_eq]
  intro e
  rcases Nat.lt_or_ge m i with q | q
  · have := h1 m _ q a
    rw [lt_congr e rfl, lt_irr] at this; cases this
  · by_cases q2 : m = i
    · subst q2; exact hn ⟨_, a, e⟩
    · obtain ⟨y, hy⟩ : ∃ y, ks[i]? = some y := ⟨_, List.getElem?_eq_getElem (by have := lt_of_get a; omega)⟩
      have h3 := rise_get hr hy a (by omega)
      have h4 := h2 i y (Nat.le_refl _) hy
      rw [lt_congr rfl e, h4] at h3; cases h3
set_option maxHeartbeats 4000000 in
set_option maxRecDepth 100000 in
theorem get_any (AK AL : Option Addr) (ck cl : Nat) (ks : List ByteArray) (ls : List (List Ver)) (key : ByteArray) (snap tx : Int) (w : World) (HK : RowE encS 1 w AK ks) (HL : RowL w AL ls) (hk : ks.length ≤ 140737488355328) (hl : ls.length ≤ 140737488355328) :
    Calls Try.prog 19 #[.agg #[.slice AK ks.length ck, .slice AL ls.length cl], .string key, .int .i64 snap, .int .i64 tx] w fun e w' => e = .returned (.tuple #[.string (getR ks ls key snap tx).1, .bool (getR ks ls key snap tx).2.1, .int .i64 (getR ks ls key snap tx).2.2.1, .int .i64 (getR ks ls key snap tx).2.2.2]) ∧ Below w.heap.size w w' := by
  have hb0 : Below w.heap.size w (w.alloc (.cells #[.slice AK ks.length ck, .slice AL ls.length cl] 28)) := (by (repeat (first | (with_reducible exact Below.refl _ _) | apply below_alloc _ (Nat.le_refl _) | refine below_set ?_ (by first | exact Nat.le_refl _ | omega) | apply below_drewN | refine below_step ?_ HB)))
  have BC := Lib.hid (Box.new w #[.slice AK ks.length ck, .slice AL ls.length cl] 28)
  have RK := Lib.hid (HK.below hb0)
  have RL := Lib.hid (HL.below hb0)
  have HF := Lib.hid hb0
  have hck := gcheck_any AK AL ck cl ks ls _ RK.out RL.out hk hl
  have E1 : Hid (chkC ks ls ≠ 0 → getR ks ls key snap tx = (⟨#[]⟩, false, 0, chkC ks ls)) := Lib.hid (fun h => by unfold getR; rw [if_pos h])
  have E2 : Hid (chkC ks ls = 0 → getR ks ls key snap tx = match findK ks ls key with | some p => seeR snap tx p.2 | none => (⟨#[]⟩, false, 0, 0)) := Lib.hid (fun h => by unfold getR; rw [if_neg (by simp [h])])
  have CK := Lib.hid (fun h => chkC_ok (ks := ks) (ls := ls) h)
  clear HK HL hb0
  generalize chkC ks ls = kc at *
  generalize getR ks ls key snap tx = g at *
  go_enter Try.func19, Try.ntmps19
  go_wp2_with fail
  refine hck.mono ?_; rintro e w1 ⟨rfl, h1⟩
  replace BC := Lib.hid (BC.out.below h1 BC.out.lt); replace RK := Lib.hid (RK.out.below h1); replace RL := Lib.hid (RL.out.below h1); replace HF := Lib.hid (below_step' HF.out h1)
  clear hck h1
  by_cases k0 : kc = 0
  · subst k0
    obtain ⟨hlen, hle, hri, hls⟩ := CK.out (by trivial)
    have EE := Lib.hid (E2.out (by trivial))
    have hbi := bin_any AK ck ks key w1 RK.out hri hle
    have HLS := Lib.hid hls
    have HLEN := Lib.hid hlen
    have HRI := Lib.hid hri
    clear E1 E2 CK hri hls hlen
    have cBC0 := BC.out.c 0 _ rfl; have fBC0 := BC.out.f 0 (by simp); have cBC1 := BC.out.c 1 _ rfl; have fBC1 := BC.out.f 1 (by simp); have lBC := BC.out.lt
    go_wp2_with fail
    refine hbi.mono ?_; rintro e w2 ⟨i, ok, rfl, hi, h1, h2, h3, rfl⟩
    cases ok with
    | true =>
      obtain ⟨y, hy, hye⟩ := h3.1 rfl
      have hil := lt_of_get hy
      obtain ⟨l, hl0⟩ : ∃ l, ls[i]? = some l := ⟨_, List.getElem?_eq_getElem (by have := HLEN.out; omega)⟩
      have EG : Hid (g = seeR snap tx l) := Lib.hid (by rw [EE.out, find_at HRI.out hy hl0 hye])
      obtain ⟨bl, ol, v, rfl, hbl, hcl, Al, c', rfl, hlc, hrl, hnl⟩ := RL.out i l hl0
      have hse := see_any Al c' l snap tx w1 hrl (by have := chk_len (HLS.out l (List.mem_of_getElem? hl0)).2; omega)
      have hji : (i : Int) < (ls.length : Int) := by have := HLEN.out; omega
      rw [← EG.out] at hse
      clear h1 h2 h3 hy hl0 hrl hbi EE
      go_wp2_with fail
      refine hse.mono ?_; rintro e w3 ⟨rfl, h3⟩
      go_wp2
      refine bodyPost_ret (v := .tuple #[.string g.1, .bool g.2.1, .int .i64 g.2.2.1, .int .i64 g.2.2.2]) (by simp [results, Try.results19, go_sem]) rfl ⟨rfl, HF.out.trans (h3.mono HF.out.size)⟩
    | false =>
      have hno : ¬ ∃ y, ks[i]? = some y ∧ y.toList = key.toList := fun h => by have := h3.2 h; cases this
      have EG : Hid (g = (⟨#[]⟩, false, 0, 0)) := Lib.hid (by rw [EE.out, find_none HRI.out h1 h2 hno])
      clear h1 h2 h3 hno hbi EE
      go_wp2
      refine bodyPost_ret (v := .tuple #[.string ⟨#[]⟩, .bool false, .int .i64 0, .int .i64 0]) (by simp [results, Try.results19, go_sem]) rfl ?_
      rw [EG.out]
      exact ⟨rfl, HF.out⟩
  · have EE := Lib.hid (E1.out k0)
    clear E1 E2 CK
    have cBC0 := BC.out.c 0 _ rfl; have fBC0 := BC.out.f 0 (by simp); have cBC1 := BC.out.c 1 _ rfl; have fBC1 := BC.out.f 1 (by simp); have lBC := BC.out.lt
    go_wp2
    refine bodyPost_ret (v := .tuple #[.string ⟨#[]⟩, .bool false, .int .i64 0, .int .i64 kc]) (by simp [results, Try.results19, go_sem]) rfl ?_
    rw [EE.out]
    exact ⟨rfl, HF.out⟩
def samePB (x0 x1 y0 y1 : ByteArray) : Bool := x0.toList == y0.toList && x1.toList == y1.toList
theorem eqPair (d : Nat) (w : World) (x0 y0 x1 y1 : ByteArray) :
    (Op.equalIn (d + 2) 62 (.agg #[.string x0, .string x1]) (.agg #[.string y0, .string y1])).run Try.prog w = .ok (samePB x0 x1 y0 y1) w := by
  refine eqA_of Try.underlying62 (by kernel_rfl) ?_
  refine eqf_cons (by rfl) (by go_simp; rfl) (by go_simp; rfl) (by go_simp) ?_
  exact eqf_last (by rfl) (by go_simp; rfl) (by go_simp; rfl) (by go_simp)
attribute [local go_sem high] eqPair
set_option maxHeartbeats 4000000 in
set_option maxRecDepth 100000 in
theorem samePairs_same (A B : Option Addr) (c d : Nat) (l : List (ByteArray × ByteArray)) (w : World) (HA : RowE encP 2 w A l) (HB : RowE encP 2 w B l) (hl : l.length ≤ 140737488355328) :
    Calls Try.prog 18 #[.slice A l.length c, .slice B l.length d] w fun e w' => e = .returned (.bool true) ∧ Below w.heap.size w w' := by
  have RA := Lib.hid HA
  have RB := Lib.hid HB
  clear HA HB
  go_enter Try.func18, Try.ntmps18
  go_wp2
  go_loopw [5] (fun i wr => ∃ j : Nat, j ≤ l.length ∧ i = .int .i64 j ∧ Hid (Below w.heap.size w wr)) (fun i _ => l.length - (Lib.intOf i).toNat)
  case atStart => exact ⟨0, Nat.zero_le _, rfl, Lib.hid (Below.refl _ _)⟩
  case round =>
    obtain ⟨j, hj, rfl, HF⟩ := hrel
    by_cases hlt : j < l.length
    · obtain ⟨x, hx⟩ : ∃ x, l[j]? = some x := ⟨_, List.getElem?_eq_getElem hlt⟩
      obtain ⟨b0, off, rfl, hb0, hc⟩ := RA.out.atE hx HF.out
      obtain ⟨b1, off1, rfl, hb1, hd⟩ := RB.out.atE hx HF.out
      have g0 := hc 0 _ rfl
      have g1 := hc 1 _ rfl
      have e0 := hd 0 _ rfl
      have e1 := hd 1 _ rfl
      simp only [Nat.add_zero] at g0 e0
      clear hx hc hd
      obtain ⟨x0, x1⟩ := x
      dsimp only at g0 g1 e0 e1
      have hs : samePB x0 x1 x0 x1 = true := by simp [samePB]
      go_wp2_with fail
      go_quiet (fail)
      go_wp2
      go_roundw
      case rel => exact ⟨j + 1, by omega, by go_num, Lib.hid (below_drewN HF.out _)⟩
      case measure => simp [Lib.intOf]; omega
    · obtain rfl : j = l.length := by omega
      go_wp2
      go_ret
      exact ⟨rfl, HF.out⟩
end Go.Proofs.Ytpkacnoimdjckaa
