/- The laws of layer 2: KeycodeJoins. -/
import Derived.Test.YtinkmcbcfdlnjaaLawD
import Derived.Laws.AppendOwnNone
namespace Go.Proofs.Ytinkmcbcfdlnjaa
open Go.RowKit
set_option linter.unusedVariables false
set_option linter.unusedSimpArgs false
theorem encode_app {l m : List V} (hl : l.length ≤ 32) (hm : m.length ≤ 32) :
    (encode (l ++ m)).2 = 0 ∧ (encode l).2 = 0 ∧ (encode m).2 = 0 ∧ (encode (l ++ m)).1 = (encode l).1 ++ (encode m).1 ∨ (encode (l ++ m)).2 ≠ 0 ∧ (encode (l ++ m)).1 = [] ∧ ((encode l).2 ≠ 0 ∨ (encode m).2 ≠ 0) := by
  unfold encode
  have h1 : ¬ 64 < (l ++ m).length := by rw [List.length_append]; omega
  have h2 : ¬ 64 < l.length := by omega
  have h3 : ¬ 64 < m.length := by omega
  simp only [if_neg h1, if_neg h2, if_neg h3, List.all_append]
  by_cases h : l.all okV = true
  · by_cases g : m.all okV = true
    · left; simp only [h, g, Bool.and_self, if_true]; simp [encL]
    · right; simp [h, g]
  · right; simp [h]
theorem enc_size {l : List V} (h : ∀ v ∈ l, InR v.n) : (encode l).1.length ≤ 12800 := by
  unfold encode
  split
  · simp
  · split
    · rename_i q g
      have := encL_len l h (fun x hx => by have := List.all_eq_true.1 g x hx; simpa [okV] using this)
      simp only; omega
    · simp
theorem flat_len {α : Type} {enc : α → List Value} {k : Nat} (hk : ∀ x, (enc x).length = k) : ∀ l : List α, (l.flatMap enc).length = l.length * k
  | [] => by simp
  | a :: l => by rw [List.flatMap_cons, List.length_append, hk, flat_len hk l, List.length_cons, Nat.add_mul]; omega
theorem encVal_one : ∀ (l : List V), ∀ u ∈ l.flatMap encVal, u.oneCell' = true := fun l u hu => by
  obtain ⟨x, _, hx⟩ := List.mem_flatMap.1 hu
  simp [encVal] at hx
  rcases hx with rfl | rfl | rfl <;> rfl
/-- The cells of a slice that is not empty. -/
theorem RowE.cells {w : World} {A : Option Addr} {l : List V} (h : RowE encVal 3 w A l) (h0 : l ≠ []) : ∃ b off, A = some ⟨b, off, none⟩ ∧ b < w.heap.size ∧ ∀ j u, (l.flatMap encVal)[j]? = some u → w.cell? ⟨b, off + j, none⟩ = some u := by
  obtain ⟨x, hx⟩ : ∃ x, l[0]? = some x := ⟨_, List.getElem?_eq_getElem (List.length_pos_iff.2 h0)⟩
  obtain ⟨b, off, hA, hlt, hc⟩ := h 0 x hx
  refine ⟨b, off, hA, hlt, fun j u hu => ?_⟩
  have hj : j < (l.flatMap encVal).length := by
    rcases Nat.lt_or_ge j (l.flatMap encVal).length with h' | h'
    · exact h'
    · rw [List.getElem?_eq_none h'] at hu; cases hu
  rw [flat_len encVal_len] at hj
  obtain ⟨y, hy⟩ : ∃ y, l[j / 3]? = some y := ⟨_, List.getElem?_eq_getElem (by omega)⟩
  have e : j = j / 3 * 3 + j % 3 := by omega
  have hq : j % 3 < (encVal y).length := by rw [encVal_len]; omega
  obtain ⟨v, hv⟩ : ∃ v, (encVal y)[j % 3]? = some v := ⟨_, List.getElem?_eq_getElem hq⟩
  have h1 := flat_get encVal_len l (j / 3) y (j % 3) v hy hv
  rw [← e, hu] at h1
  obtain rfl := Option.some.inj h1
  have h2 := hc (j / 3) y hy (j % 3) u hv
  rw [e, ← Nat.add_assoc]; exact h2
theorem RowE.of_own {w : World} {base n : Nat} {e : TypeId} {v : Value} {l : List V} (h : w.ownsRow base e 3 v n (l.flatMap encVal)) : n = l.length ∧ ∃ A c, v = .slice A l.length c ∧ l.length ≤ c ∧ RowE encVal 3 w A l := by
  have hn : n = l.length := by have := h.1; rw [flat_len encVal_len] at this; omega
  refine ⟨hn, ?_⟩
  rcases h.2 with ⟨rfl, h0⟩ | ⟨g, cap, cur, rfl, _, _, hle, _⟩
  · have : l = [] := List.eq_nil_of_length_eq_zero (by omega)
    subst this
    exact ⟨none, 0, rfl, Nat.le_refl _, RowE.nil⟩
  · exact ⟨_, cap, by rw [hn], by omega, RowE.owned encVal_len h⟩
set_option maxHeartbeats 2000000 in
set_option maxRecDepth 100000 in
/-- CopyRow: a row of the call's own. -/
theorem copyRow_any (A : Option Addr) (c : Nat) (l : List V) (w : World) (HA : RowE encVal 3 w A l) (hl : l.length ≤ 32) :
    Calls Try.prog 11 #[.slice A l.length c] w fun e w' => ∃ v, e = .returned v ∧ w'.ownsRow w.heap.size 31 3 v l.length (l.flatMap encVal) ∧ Below w.heap.size w w' := by
  obtain ⟨i0, hi, hz0, hz1, hz2⟩ := info_parts (show (Try.prog.info? 31).map (fun i => (i.zero, i.size, i.bytes)) = some (some (.agg #[.int .i64 0, .int .i64 0, .string ⟨#[]⟩]), 3, 32) by kernel_rfl)
  by_cases h0 : l = []
  · subst h0
    cases A with
    | none =>
      go_enter Try.func11, Try.ntmps11
      go_wp2
      go_ret
      exact ⟨_, rfl, World.ownsRow_nil _ _ _ _, Below.refl _ _⟩
    | some ad =>
      go_enter Try.func11, Try.ntmps11
      go_wp2_with (at_builtin; refine wpList_append_own _ rfl _ _ 22 rfl w.heap.size 31 i0 (.agg #[.int .i64 0, .int .i64 0, .string ⟨#[]⟩]) 3 32 Try.underlying22 hi hz0 hz1 hz2 rfl (by decide) _ _ _ rfl (World.ownsRow_nil _ _ _ _) ad 0 c [] rfl ?c1 ?c2 ?c3 ?c4 ?c5 ?c6 ?_)
      case c1 => rfl
      case c2 =>
        intro j u hj
        simp at hj
      case c3 => intro u hu; simp at hu
      case c4 => unfold maxLen; omega
      case c5 => omega
      case c6 => exact Nat.le_refl _
      intro v' w1 hown hgrow hnil
      go_wp2
      go_ret
      refine ⟨v', rfl, by simpa using hown, ?_⟩
      exact (Below.refl _ w).grown hgrow (by simp) (by intro k hk; simp [Value.ownBlock] at hk)
  · obtain ⟨b, off, rfl, hlt, hc⟩ := HA.cells h0
    have HC := Lib.hid hc
    clear hc HA
    go_enter Try.func11, Try.ntmps11
    go_wp2_with (at_builtin; refine wpList_append_own _ rfl _ _ 22 rfl w.heap.size 31 i0 (.agg #[.int .i64 0, .int .i64 0, .string ⟨#[]⟩]) 3 32 Try.underlying22 hi hz0 hz1 hz2 rfl (by decide) _ _ _ rfl (World.ownsRow_nil _ _ _ _) ⟨b, off, none⟩ l.length c (l.flatMap encVal) rfl ?c1 ?c2 ?c3 ?c4 ?c5 ?c6 ?_)
    case c1 => exact flat_len encVal_len l
    case c2 =>
      intro j u hj
      rw [Addr.add_lit]
      exact HC.out j u hj
    case c3 => exact encVal_one l
    case c4 => unfold maxLen; omega
    case c5 => omega
    case c6 => exact Nat.le_refl _
    intro v' w1 hown hgrow hnil
    go_wp2
    go_ret
    refine ⟨v', rfl, by simpa using hown, ?_⟩
    exact (Below.refl _ w).grown hgrow (by simp) (by intro k hk; simp [Value.ownBlock] at hk)
set_option maxHeartbeats 2000000 in
set_option maxRecDepth 100000 in
theorem keyJoins_any (A B : Option Addr) (c d : Nat) (l m : List V) (w : World) (HA : RowE encVal 3 w A l) (HM : RowE encVal 3 w B m) (hl : l.length ≤ 140737488355328) (hm : m.length ≤ 140737488355328) (hlc : l.length ≤ c) (hmd : m.length ≤ d) (hnd : B = none → d = 0) (hok : ∀ v ∈ l, InR v.n) (hom : ∀ v ∈ m, InR v.n) :
    Calls Try.prog 3 #[.slice A l.length c, .slice B m.length d] w fun e w' => e = .returned (.bool true) ∧ Below w.heap.size w w' := by
  have HF := Below.refl w.heap.size w
  go_enter Try.func3, Try.ntmps3
  go_wp2_with fail
  refine (alive_any _).mono ?_; rintro e w1 ⟨rfl, h⟩
  replace HF := below_step HF h
  replace HA := HA.below h
  replace HM := HM.below h
  clear h
  go_wp2_with fail
  go_quiet (fail)
  go_wp2_with fail
  have e1 : (min (l.length : Int) 32).toNat = (l.take 32).length := by rw [List.length_take]; omega
  have e2 : (min (m.length : Int) 32).toNat = (m.take 32).length := by rw [List.length_take]; omega
  rw [e1, e2]
  replace HF := below_drewN HF nq
  replace HA := (HA.take 32).below (below_drewN (Below.refl _ _) nq)
  replace HM := (HM.take 32).below (below_drewN (Below.refl _ _) nq)
  have l32 : (l.take 32).length ≤ 32 := by rw [List.length_take]; omega
  have m32 : (m.take 32).length ≤ 32 := by rw [List.length_take]; omega
  replace hok : ∀ v ∈ l.take 32, InR v.n := fun v hv => hok v (List.mem_of_mem_take hv)
  replace hom : ∀ v ∈ m.take 32, InR v.n := fun v hv => hom v (List.mem_of_mem_take hv)
  clear e1 e2 hlc hmd hl hm
  generalize l.take 32 = l' at *
  generalize m.take 32 = m' at *
  generalize w1.drewN nq = w2 at *
  refine (encode_any A c l' w2 HA hok).mono ?_; rintro e w3 ⟨rfl, h⟩
  replace HF := below_step HF h
  replace HA := HA.below h
  replace HM := HM.below h
  clear h
  go_wp2_with fail
  refine (encode_any B d m' w3 HM hom).mono ?_; rintro e w4 ⟨rfl, h⟩
  replace HF := below_step HF h
  replace HA := HA.below h
  replace HM := HM.below h
  clear h
  go_wp2_with fail
  refine (copyRow_any A c l' w4 HA l32).mono ?_; rintro e w5 ⟨v, rfl, hown, h⟩
  replace HM := HM.below h
  have hs4 := h.size
  have HF5 := below_step HF h
  obtain ⟨i0, hi, hz0, hz1, hz2⟩ := info_parts (show (Try.prog.info? 31).map (fun i => (i.zero, i.size, i.bytes)) = some (some (.agg #[.int .i64 0, .int .i64 0, .string ⟨#[]⟩]), 3, 32) by kernel_rfl)
  have HM' := Lib.hid HM
  clear HA HM
  have hok2 : ∀ v ∈ l' ++ m', InR v.n := fun v hv => by
    rcases List.mem_append.1 hv with h | h
    · exact hok v h
    · exact hom v h
  by_cases h0 : m' = []
  · subst h0
    cases B with
    | none =>
      obtain rfl := hnd rfl
      go_wp2_with (at_builtin; refine wpList_append_own_none rfl _ _ 22 rfl w4.heap.size 31 i0 3 Try.underlying22 hi _ _ _ rfl hown rfl ?_)
      have hown2 : w5.ownsRow w4.heap.size 31 3 v l'.length ((l' ++ []).flatMap encVal) := by simpa using hown
      clear hown
      have HF6 := HF5
      obtain ⟨_, A1, c1, hv, hcap, HR⟩ := RowE.of_own (l := l' ++ []) hown2
      have HE := encode_app l32 m32
      generalize l' ++ [] = lm at *
      subst hv
      clear hown2 hcap
      go_wp2_with fail
      refine (encode_any A1 c1 lm _ HR hok2).mono ?_; rintro e w7 ⟨rfl, h7⟩
      have HF7 := below_step HF6 h7
      clear HR h7
      obtain ⟨ta, hta, htl, hts⟩ := text_of (encode l').1
      obtain ⟨tb, htb, htl2, hts2⟩ := text_of (encode []).1
      obtain ⟨tc, htc, htl3, hts3⟩ := text_of (encode lm).1
      rw [hta, htb, htc]
      rw [← htl, ← htl2, ← htl3] at HE
      have hsa : ta.size ≤ 12800 := by rw [hts]; exact enc_size hok
      have hsb : tb.size ≤ 12800 := by rw [hts2]; exact enc_size hom
      clear hta htb htc htl htl2 htl3 hts hts2 hts3
      generalize (encode l').2 = ea at *
      generalize (encode []).2 = eb at *
      generalize (encode lm).2 = ec at *
      rcases HE with ⟨r1, r2, r3, r4⟩ | ⟨r1, r2, r3⟩
      · subst r1 r2 r3
        have hcat : (ta ++ tb).toList = tc.toList := by
          rw [r4, ByteArray.toList_eq, ByteArray.toList_eq, ByteArray.toList_eq]; simp
        have R4 := Lib.hid hcat
        clear r4 hcat
        go_wp2_with (go_at_call 12; refine (num_any _ _).mono ?_; rintro e w' ⟨rfl, rfl⟩)
        all_goals (go_ret; exact ⟨ret_bool (by have := R4.out; simp_all), HF7⟩)
      · by_cases q : ea = 0
        · have q2 : eb ≠ 0 := by rcases r3 with r3 | r3; exact absurd q r3; exact r3
          go_wp2_with (go_at_call 12; refine (num_any _ _).mono ?_; rintro e w' ⟨rfl, rfl⟩)
          all_goals (go_ret; exact ⟨ret_bool (by simp_all), HF7⟩)
        · go_wp2_with (go_at_call 12; refine (num_any _ _).mono ?_; rintro e w' ⟨rfl, rfl⟩)
          all_goals (go_ret; exact ⟨ret_bool (by simp_all), HF7⟩)
    | some ad =>
      go_wp2_with (at_builtin; refine wpList_append_own _ rfl _ _ 22 rfl w4.heap.size 31 i0 (.agg #[.int .i64 0, .int .i64 0, .string ⟨#[]⟩]) 3 32 Try.underlying22 hi hz0 hz1 hz2 rfl (by decide) _ _ _ rfl hown ad 0 d [] rfl ?c1 ?c2 ?c3 ?c4 ?c5 ?c6 ?_)
      case c1 => rfl
      case c2 =>
        intro j u hj
        simp at hj
      case c3 => intro u hu; simp at hu
      case c4 => unfold maxLen; (first | omega | (simp; omega))
      case c5 => (first | omega | (simp; omega))
      case c6 => exact hs4
      intro v2 w6 hown2 hgrow hnil
      have HF6 : Below w.heap.size w w6 := HF5.grown hgrow (by have := HF.size; omega) (fun k hk => by have := (hown.lt k hk).1; have := HF.size; omega)
      clear hown hgrow hnil
      obtain ⟨_, A1, c1, hv, hcap, HR⟩ := RowE.of_own (l := l' ++ []) (by simpa using hown2)
      have HE := encode_app l32 m32
      generalize l' ++ [] = lm at *
      subst hv
      clear hown2 hcap
      go_wp2_with fail
      refine (encode_any A1 c1 lm _ HR hok2).mono ?_; rintro e w7 ⟨rfl, h7⟩
      have HF7 := below_step HF6 h7
      clear HR h7
      obtain ⟨ta, hta, htl, hts⟩ := text_of (encode l').1
      obtain ⟨tb, htb, htl2, hts2⟩ := text_of (encode []).1
      obtain ⟨tc, htc, htl3, hts3⟩ := text_of (encode lm).1
      rw [hta, htb, htc]
      rw [← htl, ← htl2, ← htl3] at HE
      have hsa : ta.size ≤ 12800 := by rw [hts]; exact enc_size hok
      have hsb : tb.size ≤ 12800 := by rw [hts2]; exact enc_size hom
      clear hta htb htc htl htl2 htl3 hts hts2 hts3
      generalize (encode l').2 = ea at *
      generalize (encode []).2 = eb at *
      generalize (encode lm).2 = ec at *
      rcases HE with ⟨r1, r2, r3, r4⟩ | ⟨r1, r2, r3⟩
      · subst r1 r2 r3
        have hcat : (ta ++ tb).toList = tc.toList := by
          rw [r4, ByteArray.toList_eq, ByteArray.toList_eq, ByteArray.toList_eq]; simp
        have R4 := Lib.hid hcat
        clear r4 hcat
        go_wp2_with (go_at_call 12; refine (num_any _ _).mono ?_; rintro e w' ⟨rfl, rfl⟩)
        all_goals (go_ret; exact ⟨ret_bool (by have := R4.out; simp_all), HF7⟩)
      · by_cases q : ea = 0
        · have q2 : eb ≠ 0 := by rcases r3 with r3 | r3; exact absurd q r3; exact r3
          go_wp2_with (go_at_call 12; refine (num_any _ _).mono ?_; rintro e w' ⟨rfl, rfl⟩)
          all_goals (go_ret; exact ⟨ret_bool (by simp_all), HF7⟩)
        · go_wp2_with (go_at_call 12; refine (num_any _ _).mono ?_; rintro e w' ⟨rfl, rfl⟩)
          all_goals (go_ret; exact ⟨ret_bool (by simp_all), HF7⟩)
  · obtain ⟨b, off, rfl, hlt, hc⟩ := HM'.out.cells h0
    have HC := Lib.hid hc
    clear hc HM'
    go_wp2_with (at_builtin; refine wpList_append_own _ rfl _ _ 22 rfl w4.heap.size 31 i0 (.agg #[.int .i64 0, .int .i64 0, .string ⟨#[]⟩]) 3 32 Try.underlying22 hi hz0 hz1 hz2 rfl (by decide) _ _ _ rfl hown ⟨b, off, none⟩ m'.length d (m'.flatMap encVal) rfl ?c1 ?c2 ?c3 ?c4 ?c5 ?c6 ?_)
    case c1 => exact flat_len encVal_len m'
    case c2 =>
      intro j u hj
      rw [Addr.add_lit]
      exact HC.out j u hj
    case c3 => exact encVal_one m'
    case c4 => unfold maxLen; omega
    case c5 => omega
    case c6 => exact hs4
    intro v2 w6 hown2 hgrow hnil
    have HF6 : Below w.heap.size w w6 := HF5.grown hgrow (by have := HF.size; omega) (fun k hk => by have := (hown.lt k hk).1; have := HF.size; omega)
    clear hown hgrow hnil
    obtain ⟨_, A1, c1, hv, hcap, HR⟩ := RowE.of_own (l := l' ++ m') (by rw [List.flatMap_append]; exact hown2)
    have HE := encode_app l32 m32
    generalize l' ++ m' = lm at *
    subst hv
    clear hown2 hcap
    go_wp2_with fail
    refine (encode_any A1 c1 lm _ HR hok2).mono ?_; rintro e w7 ⟨rfl, h7⟩
    have HF7 := below_step HF6 h7
    clear HR h7
    obtain ⟨ta, hta, htl, hts⟩ := text_of (encode l').1
    obtain ⟨tb, htb, htl2, hts2⟩ := text_of (encode m').1
    obtain ⟨tc, htc, htl3, hts3⟩ := text_of (encode lm).1
    rw [hta, htb, htc]
    rw [← htl, ← htl2, ← htl3] at HE
    have hsa : ta.size ≤ 12800 := by rw [hts]; exact enc_size hok
    have hsb : tb.size ≤ 12800 := by rw [hts2]; exact enc_size hom
    clear hta htb htc htl htl2 htl3 hts hts2 hts3
    generalize (encode l').2 = ea at *
    generalize (encode m').2 = eb at *
    generalize (encode lm).2 = ec at *
    rcases HE with ⟨r1, r2, r3, r4⟩ | ⟨r1, r2, r3⟩
    · subst r1 r2 r3
      have hcat : (ta ++ tb).toList = tc.toList := by
        rw [r4, ByteArray.toList_eq, ByteArray.toList_eq, ByteArray.toList_eq]; simp
      have R4 := Lib.hid hcat
      clear r4 hcat
      go_wp2_with (go_at_call 12; refine (num_any _ _).mono ?_; rintro e w' ⟨rfl, rfl⟩)
      all_goals (go_ret; exact ⟨ret_bool (by have := R4.out; simp_all), HF7⟩)
    · by_cases q : ea = 0
      · have q2 : eb ≠ 0 := by rcases r3 with r3 | r3; exact absurd q r3; exact r3
        go_wp2_with (go_at_call 12; refine (num_any _ _).mono ?_; rintro e w' ⟨rfl, rfl⟩)
        all_goals (go_ret; exact ⟨ret_bool (by simp_all), HF7⟩)
      · go_wp2_with (go_at_call 12; refine (num_any _ _).mono ?_; rintro e w' ⟨rfl, rfl⟩)
        all_goals (go_ret; exact ⟨ret_bool (by simp_all), HF7⟩)
end Go.Proofs.Ytinkmcbcfdlnjaa
