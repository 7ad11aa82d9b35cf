/- Package gc: Range. -/
import Derived.Test.YtpkacnoimdjckaaSpanW
import Derived.Test.YtpkacnoimdjckaaVerW3
import Derived.Test.YtpkacnoimdjckaaStep
namespace Go.Proofs.Ytpkacnoimdjckaa
open Go.RowKit
open Go.Shelf
set_option linter.unusedVariables false
set_option linter.unusedSimpArgs false
def encP (p : ByteArray × ByteArray) : List Value := [.string p.1, .string p.2]
theorem encP_len (x : ByteArray × ByteArray) : (encP x).length = 2 := rfl
theorem encP_one : ∀ (l : List (ByteArray × ByteArray)), ∀ u ∈ l.flatMap encP, u.oneCell' = true := fun l u hu => by
  obtain ⟨x, _, hx⟩ := List.mem_flatMap.1 hu
  simp [encP] at hx
  rcases hx with rfl | rfl <;> rfl
theorem infoP : ∃ i0, Try.prog.info? 62 = some i0 ∧ i0.zero = some (.agg #[.string ⟨#[]⟩, .string ⟨#[]⟩]) ∧ i0.size = 2 ∧ i0.bytes = 32 :=
  info_parts (show (Try.prog.info? 62).map (fun i => (i.zero, i.size, i.bytes)) = some (some (.agg #[.string ⟨#[]⟩, .string ⟨#[]⟩]), 2, 32) by kernel_rfl)
/-- What a snapshot sees of one key of a span. -/
def tellP (fr tt : ByteArray) (snap tx : Int) (p : ByteArray × List Ver) : List (ByteArray × ByteArray) := if inSpan fr tt p.1 = true ∧ (seeR snap tx p.2).2.1 = true then [(p.1, (seeR snap tx p.2).1)] else []
def rangeL (fr tt : ByteArray) (snap tx : Int) (ks : List ByteArray) (ls : List (List Ver)) : List (ByteArray × ByteArray) := (ks.zip ls).flatMap (tellP fr tt snap tx)
/-- gc.Range. -/
def rangeR (ks : List ByteArray) (ls : List (List Ver)) (fr tt : ByteArray) (snap tx : Int) : List (ByteArray × ByteArray) × Int := if chkC ks ls ≠ 0 then ([], chkC ks ls) else (rangeL fr tt snap tx ks ls, 0)
theorem tell_len (fr tt : ByteArray) (snap tx : Int) : ∀ Z : List (ByteArray × List Ver), (Z.flatMap (tellP fr tt snap tx)).length ≤ Z.length
  | [] => by simp
  | z :: Z => by
    have := tell_len fr tt snap tx Z
    rw [List.flatMap_cons, List.length_append, List.length_cons]
    unfold tellP at *
    split <;> simp at * <;> omega
theorem tell_snoc {fr tt : ByteArray} {snap tx : Int} {Z : List (ByteArray × List Ver)} {j : Nat} {z : ByteArray × List Ver} (h : Z[j]? = some z) : (Z.take (j + 1)).flatMap (tellP fr tt snap tx) = (Z.take j).flatMap (tellP fr tt snap tx) ++ tellP fr tt snap tx z := by
  rw [List.take_add_one, h]; simp
theorem tell_none {fr tt : ByteArray} {snap tx : Int} {Z : List (ByteArray × List Ver)} (h : ∀ z ∈ Z, inSpan fr tt z.1 = false) : Z.flatMap (tellP fr tt snap tx) = [] := by
  rw [List.flatMap_eq_nil_iff]
  intro z hz
  unfold tellP
  rw [if_neg (by simp [h z hz])]
theorem chkCFrom_rise : ∀ (ks : List ByteArray) (ls : List (List Ver)) (p : Option ByteArray), ks.length = ls.length → chkCFrom p ks ls = true → Rise ks ∧ (∀ q, p = some q → ∀ k ∈ ks, lt? q k = true) ∧ ∀ l ∈ ls, l ≠ [] ∧ chk l = 0
  | [], [], p, _, _ => ⟨List.Pairwise.nil, by simp, by simp⟩
  | [], _ :: _, _, h, _ => by simp at h
  | _ :: _, [], _, h, _ => by simp at h
  | k :: ks, l :: ls, p, h, hc => by
    rw [chkC_cons, Bool.and_eq_true, Bool.and_eq_true, Bool.and_eq_true] at hc
    obtain ⟨⟨⟨h1, h2⟩, h3⟩, h4⟩ := hc
    obtain ⟨r1, r2, r3⟩ := chkCFrom_rise ks ls (some k) (by simpa using h) h4
    refine ⟨List.pairwise_cons.2 ⟨r2 k rfl, r1⟩, fun q hq x hx => ?_, fun x hx => ?_⟩
    · subst hq
      rcases List.mem_cons.1 hx with rfl | hx
      · exact h1
      · exact lt_trans' h1 (r2 k rfl x hx)
    · rcases List.mem_cons.1 hx with rfl | hx
      · exact ⟨by simpa using h2, by simpa using h3⟩
      · exact r3 x hx
theorem chkC_ok {ks : List ByteArray} {ls : List (List Ver)} (h : chkC ks ls = 0) : ks.length = ls.length ∧ ks.length ≤ 2048 ∧ Rise ks ∧ ∀ l ∈ ls, l ≠ [] ∧ chk l = 0 := by
  unfold chkC at h
  split at h
  · cases h
  · rename_i q
    split at h
    · rename_i r
      obtain ⟨r1, _, r3⟩ := chkCFrom_rise ks ls none (by omega) r
      exact ⟨by omega, by omega, r1, r3⟩
    · cases h
set_option maxHeartbeats 8000000 in
set_option maxRecDepth 100000 in
theorem range_any (AK AL : Option Addr) (ck cl : Nat) (ks : List ByteArray) (ls : List (List Ver)) (fr tt : ByteArray) (snap tx : Int) (w : World) (HK : RowE encS 1 w AK ks) (HL : RowL w AL ls) (hk : ks.length ≤ 140737488355328) (hl : ls.length ≤ 140737488355328) :
    Calls Try.prog 16 #[.agg #[.slice AK ks.length ck, .slice AL ls.length cl], .string fr, .string tt, .int .i64 snap, .int .i64 tx] w fun e w' => ∃ v, e = .returned (.tuple #[v, .int .i64 (rangeR ks ls fr tt snap tx).2]) ∧ SlB encP 2 w.heap.size w' v (rangeR ks ls fr tt snap tx).1 ∧ Below w.heap.size w w' := by
  obtain ⟨i0, hi0, hz0, hz1, hz2⟩ := infoP
  have hb0 : Below w.heap.size w (w.alloc (.cells #[.slice AK ks.length ck, .slice AL ls.length cl] 28)) := (by (repeat (first | (with_reducible exact Below.refl _ _) | apply below_alloc _ (Nat.le_refl _) | refine below_set ?_ (by first | exact Nat.le_refl _ | omega) | apply below_drewN | refine below_step ?_ HB)))
  have BC := Lib.hid (Box.new w #[.slice AK ks.length ck, .slice AL ls.length cl] 28)
  have RK := Lib.hid (HK.below hb0)
  have RL := Lib.hid (HL.below hb0)
  have HF := Lib.hid hb0
  have hck := gcheck_any AK AL ck cl ks ls _ RK.out RL.out hk hl
  have E1 : Hid (chkC ks ls ≠ 0 → rangeR ks ls fr tt snap tx = ([], chkC ks ls)) := Lib.hid (fun h => by unfold rangeR; rw [if_pos h])
  have E2 : Hid (chkC ks ls = 0 → rangeR ks ls fr tt snap tx = (rangeL fr tt snap tx ks ls, 0)) := Lib.hid (fun h => by unfold rangeR; rw [if_neg (by simp [h])])
  have CK := Lib.hid (fun h => chkC_ok (ks := ks) (ls := ls) h)
  clear HK HL hb0
  generalize chkC ks ls = kc at *
  go_enter Try.func16, Try.ntmps16
  go_wp2_with fail
  refine hck.mono ?_; rintro e w1 ⟨rfl, h1⟩
  replace BC := Lib.hid (BC.out.below h1 BC.out.lt); replace RK := Lib.hid (RK.out.below h1); replace RL := Lib.hid (RL.out.below h1); replace HF := Lib.hid (below_step' HF.out h1)
  clear hck h1
  by_cases k0 : kc = 0
  · subst k0
    obtain ⟨hlen, hle, hri, hls⟩ := CK.out (by trivial)
    have EE := Lib.hid (E2.out (by trivial))
    have hsp := span_any AK AL ck cl ls.length ks fr tt w1 RK.out hri hle
    have HLS := Lib.hid hls
    have HLEN := Lib.hid hlen
    have hle2 : ls.length ≤ 2048 := by omega
    clear E1 E2 CK hri hls hlen
    have cBC0 := BC.out.c 0 _ rfl; have fBC0 := BC.out.f 0 (by simp); have cBC1 := BC.out.c 1 _ rfl; have fBC1 := BC.out.f 1 (by simp); have lBC := BC.out.lt
    go_wp2_with fail
    refine hsp.mono ?_; rintro e w2 ⟨i, k, rfl, hik, hkl, hin, h2⟩
    clear cBC0 fBC0 cBC1 fBC1 lBC
    replace BC := Lib.hid (BC.out.below h2 BC.out.lt); replace RK := Lib.hid (RK.out.below h2); replace RL := Lib.hid (RL.out.below h2); replace HF := Lib.hid (below_step' HF.out h2)
    have HIN := Lib.hid hin
    clear hsp h2 hin
    have hkl2 : k ≤ ls.length := by have := HLEN.out; omega
    have START : Hid (((ks.zip ls).take i).flatMap (tellP fr tt snap tx) = []) := Lib.hid (tell_none (fun z hz => by
      obtain ⟨m, hm⟩ := List.mem_iff_getElem?.1 hz
      rw [List.getElem?_take] at hm
      split at hm
      · rename_i q
        obtain ⟨a, b⟩ := List.getElem?_zip_eq_some.1 hm
        cases hh : inSpan fr tt z.1 with
        | false => rfl
        | true => have := (HIN.out m z.1 a).1 hh; omega
      · cases hm))
    have STOP : Hid (rangeL fr tt snap tx ks ls = ((ks.zip ls).take k).flatMap (tellP fr tt snap tx)) := Lib.hid (by
      unfold rangeL
      conv => lhs; rw [← List.take_append_drop k (ks.zip ls)]
      rw [List.flatMap_append, tell_none (Z := (ks.zip ls).drop k), List.append_nil]
      intro z hz
      obtain ⟨m, hm⟩ := List.mem_iff_getElem?.1 hz
      rw [List.getElem?_drop] at hm
      obtain ⟨a, b⟩ := List.getElem?_zip_eq_some.1 hm
      cases hh : inSpan fr tt z.1 with
      | false => rfl
      | true => have := (HIN.out (k + m) z.1 a).1 hh; omega)
    have hzl : (ks.zip ls).length ≤ 2048 := by rw [List.length_zip]; omega
    have hz2w := HF.out.size
    go_wp2_with fail
    go_loopw [13, 14] (fun s13 s14 wr => ∃ j : Nat, i ≤ j ∧ j ≤ k ∧ s14 = .int .i64 j ∧ Hid (Below w2.heap.size w2 wr) ∧ Hid (wr.ownsRow w2.heap.size 62 2 s13 (((ks.zip ls).take j).flatMap (tellP fr tt snap tx)).length ((((ks.zip ls).take j).flatMap (tellP fr tt snap tx)).flatMap encP))) (fun _ s14 _ => k - (Lib.intOf s14).toNat)
    case atStart => exact ⟨i, Nat.le_refl _, hik, rfl, Lib.hid (Below.refl _ _), Lib.hid (by rw [START.out]; simpa using World.ownsRow_nil _ _ _ _)⟩
    case round =>
      obtain ⟨j, hij, hj, rfl, HB, HO⟩ := hrel
      by_cases hlt : j < k
      · obtain ⟨l, hl0⟩ : ∃ l, ls[j]? = some l := ⟨_, List.getElem?_eq_getElem (by omega)⟩
        obtain ⟨y, hk0⟩ : ∃ y, ks[j]? = some y := ⟨_, List.getElem?_eq_getElem (by omega)⟩
        obtain ⟨bl, ol, v, rfl, hbl, hcl, Al, c', rfl, hlc, hrl, hnl⟩ := RL.out j l hl0
        obtain ⟨bk, ok, rfl, hbk, hck⟩ := RK.out.atE hk0 HB.out
        have gk : wr.cell? ⟨bk, ok + j, none⟩ = some (.string y) := by simpa using hck 0 _ rfl
        have gl : wr.cell? ⟨bl, ol + j, none⟩ = some (.slice Al l.length c') := (HB.out.cell (p := ⟨bl, ol + j, none⟩) hbl).trans hcl
        have hse := see_any Al c' l snap tx wr (hrl.below HB.out) (by
          have := chk_len (HLS.out l (List.mem_of_getElem? hl0)).2; omega)
        have BCr := Lib.hid (BC.out.step HB.out)
        have TS := Lib.hid (tell_snoc (fr := fr) (tt := tt) (snap := snap) (tx := tx) (List.getElem?_zip_eq_some.2 ⟨hk0, hl0⟩ : (ks.zip ls)[j]? = some (y, l)))
        have hsin := (HIN.out j y hk0).2 ⟨hij, hlt⟩
        have TP : Hid (tellP fr tt snap tx (y, l) = if (seeR snap tx l).2.1 = true then [(y, (seeR snap tx l).1)] else []) := Lib.hid (by unfold tellP; simp [hsin])
        have hol : (((ks.zip ls).take j).flatMap (tellP fr tt snap tx)).length ≤ 2048 := Nat.le_trans (tell_len _ _ _ _ _) (by rw [List.length_take]; omega)
        have lbk : bk < w2.heap.size := hbk
        clear hk0 hl0 hck hcl hrl hsin
        generalize seeR snap tx l = sr at *
        obtain ⟨sv, sok, sst, ser⟩ := sr
        dsimp only at hse TP
        have cBCr0 := BCr.out.c 0 _ rfl; have fBCr0 := BCr.out.f 0 (by simp); have cBCr1 := BCr.out.c 1 _ rfl; have fBCr1 := BCr.out.f 1 (by simp); have lBCr := BCr.out.lt
        go_wp2_with fail
        refine hse.mono ?_; rintro e w3 ⟨rfl, h3⟩
        have HB3 := Lib.hid (below_step' HB.out h3)
        have HO3 := Lib.hid (own_below HO.out h3)
        have BC3 := Lib.hid (BCr.out.step h3)
        have gk3 : w3.cell? ⟨bk, ok + j, none⟩ = some (.string y) := (h3.cell (p := ⟨bk, ok + j, none⟩) (World.block_lt_of_cell? _ _ gk)).trans gk
        have hz3 := HB3.out.size
        clear cBCr0 fBCr0 cBCr1 fBCr1 lBCr
        clear h3 hse gl gk
        generalize ((ks.zip ls).take j).flatMap (tellP fr tt snap tx) = X at *
        cases sok with
        | false =>
          have TS2 : Hid (((ks.zip ls).take (j + 1)).flatMap (tellP fr tt snap tx) = X) := Lib.hid (by rw [TS.out, TP.out]; simp)
          clear TS TP
          go_wp2_with fail
          go_roundw
          case rel => exact ⟨j + 1, by omega, by omega, by go_num, HB3, by rw [TS2.out]; exact HO3⟩
          case measure => simp [Lib.intOf]; omega
        | true =>
          have TS2 : Hid (((ks.zip ls).take (j + 1)).flatMap (tellP fr tt snap tx) = X ++ [(y, sv)]) := Lib.hid (by rw [TS.out, TP.out]; simp)
          clear TS TP
          have hji : (j : Int) < (ks.length : Int) := by omega
          have cBC30 := BC3.out.c 0 _ rfl; have fBC30 := BC3.out.f 0 (by simp); have cBC31 := BC3.out.c 1 _ rfl; have fBC31 := BC3.out.f 1 (by simp); have lBC3 := BC3.out.lt
          go_wp2_with (at_builtin; refine wpList_append_own _ rfl _ _ 47 rfl w2.heap.size 62 i0 (.agg #[.string ⟨#[]⟩, .string ⟨#[]⟩]) 2 32 Try.underlying47 hi0 hz0 hz1 hz2 rfl (by decide) _ _ _ rfl (HO3.out.alloc _) ⟨w3.heap.size, 0, none⟩ 1 1 [.string y, .string sv] rfl rfl ?_ ?_ ?_ ?_ ?_ ?_)
          all_goals first | (intro jj u hjj; exact cell_new (by simp) hjj) | (intro u hu; simp at hu; rcases hu with rfl | rfl <;> rfl) | (unfold maxLen; omega) | omega | (simp; done) | (simp; omega) | skip
          intro v' w4 hown' hgrow hnil
          have HB4 : Hid (Below w2.heap.size w2 w4) := Lib.hid ((HB3.out.alloc hz3 (.cells #[.string y, .string sv] 62)).grown hgrow (by simp; omega) (fun q hq => (HO3.out.lt q hq).1))
          have HO4 : Hid (w4.ownsRow w2.heap.size 62 2 v' (X ++ [(y, sv)]).length ((X ++ [(y, sv)]).flatMap encP)) := Lib.hid (by rw [List.flatMap_append]; simpa [encP] using hown')
          clear hown' hgrow hnil
          go_wp2
          go_roundw
          case rel => exact ⟨j + 1, by omega, by omega, by go_num, HB4, by rw [TS2.out]; exact HO4⟩
          case measure => simp [Lib.intOf]; omega
      · obtain rfl : j = k := by omega
        obtain ⟨A9, c9, rfl, _, _⟩ := own_slice HO.out
        have HFE := Lib.hid (HF.out.trans (HB.out.mono hz2w))
        go_wp2
        go_ret2
        rw [EE.out]
        refine ⟨_, rfl, ?_, HFE.out⟩
        dsimp only
        rw [STOP.out]
        exact SlB.of_own encP_len (by decide) hz2w HO.out
  · have EE := Lib.hid (E1.out k0)
    clear E1 E2 CK
    have cBC0 := BC.out.c 0 _ rfl; have fBC0 := BC.out.f 0 (by simp); have cBC1 := BC.out.c 1 _ rfl; have fBC1 := BC.out.f 1 (by simp); have lBC := BC.out.lt
    go_wp2
    go_ret2
    rw [EE.out]
    exact ⟨_, rfl, SlB.nil _, HF.out⟩
end Go.Proofs.Ytpkacnoimdjckaa
