/- slices.BinarySearch of texts; package btree: way. -/
import Derived.Test.YtkecbghnapjecaaCloneS
import Derived.Test.YtkecbghnapjecaaTail
import Derived.Lib.Hide
import Derived.Deep.QuietTactic
import Derived.BigQuiet
import Derived.WideShapes
namespace Go.Proofs.Ytkecbghnapjecaa
open Go.RowKit
set_option linter.unusedVariables false
set_option linter.unusedSimpArgs false
abbrev lt? (a b : ByteArray) : Bool := sless a b
theorem less_asym (a b : List UInt8) (h : Op.bytesLess a b = true) : Op.bytesLess b a = false := by rw [← less_total a b]; simp [h]
theorem less_trans : ∀ a b c : List UInt8, Op.bytesLess a b = true → Op.bytesLess b c = true → Op.bytesLess a c = true
  | [], [], _, h, _ => by simp [Op.bytesLess] at h
  | [], _ :: _, [], _, h => by simp [Op.bytesLess] at h
  | [], _ :: _, _ :: _, _, _ => by simp [Op.bytesLess]
  | _ :: _, [], _, h, _ => by simp [Op.bytesLess] at h
  | _ :: _, _ :: _, [], _, h => by simp [Op.bytesLess] at h
  | a :: l, b :: m, c :: n, h, g => by
    have ih := less_trans l m n
    simp only [Op.bytesLess, Bool.or_eq_true, decide_eq_true_eq, Bool.and_eq_true, beq_iff_eq] at *
    rcases h with h | ⟨rfl, h⟩
    · rcases g with g | ⟨rfl, g⟩
      · exact .inl (by rw [UInt8.lt_iff_toNat_lt] at *; omega)
      · exact .inl h
    · rcases g with g | ⟨rfl, g⟩
      · exact .inl g
      · exact .inr ⟨rfl, ih h g⟩
theorem lt_irr (a : ByteArray) : lt? a a = false := less_irrefl _
theorem lt_asym {a b : ByteArray} (h : lt? a b = true) : lt? b a = false := less_asym _ _ h
theorem lt_trans' {a b c : ByteArray} (h : lt? a b = true) (g : lt? b c = true) : lt? a c = true := less_trans _ _ _ h g
/-- Keys that rise. -/
def Rise (ks : List ByteArray) : Prop := ks.Pairwise (fun a b => lt? a b = true)
theorem rise_get {ks : List ByteArray} (h : Rise ks) {i j : Nat} {a b : ByteArray} (hi : ks[i]? = some a) (hj : ks[j]? = some b) (hij : i < j) : lt? a b = true := by
  obtain ⟨hi1, rfl⟩ := List.getElem?_eq_some_iff.1 hi
  obtain ⟨hj1, rfl⟩ := List.getElem?_eq_some_iff.1 hj
  exact List.pairwise_iff_getElem.1 h i j hi1 hj1 hij
theorem nanS_any (a : ByteArray) (w : World) : Calls Try.prog 64 #[.string a] w fun e w' => e = .returned (.bool false) ∧ w = w' := by
  go_enter Try.func64, Try.ntmps64
  go_wp2
  go_ret
  exact ⟨ret_bool (by simp), rfl⟩
theorem nanT_any (a : ByteArray) (w : World) : Calls Try.prog 54 #[.string a] w fun e w' => e = .returned (.bool false) ∧ w = w' := by
  go_enter Try.func54, Try.ntmps54
  go_wp2
  go_ret
  exact ⟨ret_bool (by simp), rfl⟩
theorem lessS_any (a b : ByteArray) (w : World) : Calls Try.prog 53 #[.string a, .string b] w fun e w' => e = .returned (.bool (lt? a b)) ∧ w = w' := by
  go_enter Try.func53, Try.ntmps53
  go_wp2_with (go_at_call 64; refine (nanS_any _ _).mono ?_; rintro e w' ⟨rfl, rfl⟩)
  go_ret
  exact ⟨ret_bool (by simp [lt?, sless]), rfl⟩
set_option maxHeartbeats 4000000 in
set_option maxRecDepth 100000 in
/-- Where a key stands, or would stand. -/
theorem bin_any (A : Option Addr) (c : Nat) (ks : List ByteArray) (t : ByteArray) (w : World) (HR : RowE encS 1 w A ks) (hs : Rise ks) (hl : ks.length ≤ 2048) :
    Calls Try.prog 39 #[.slice A ks.length c, .string t] w fun e w' => ∃ i : Nat, ∃ ok : Bool, e = .returned (.tuple #[.int .i64 i, .bool ok]) ∧ i ≤ ks.length ∧ (∀ (k : Nat) (y : ByteArray), k < i → ks[k]? = some y → lt? y t = true) ∧ (∀ (k : Nat) (y : ByteArray), i ≤ k → ks[k]? = some y → lt? y t = false) ∧ (ok = true ↔ ∃ y, ks[i]? = some y ∧ y.toList = t.toList) ∧ w = w' := by
  have RK := Lib.hid HR
  have HS := Lib.hid hs
  clear HR hs
  go_enter Try.func39, Try.ntmps39
  go_wp2_with fail
  go_loopw [7, 8] (fun s7 s8 wr => ∃ lo hi : Nat, s7 = .int .i64 lo ∧ s8 = .int .i64 hi ∧ lo ≤ hi ∧ hi ≤ ks.length ∧ Hid ((∀ (k : Nat) (y : ByteArray), k < lo → ks[k]? = some y → lt? y t = true) ∧ (∀ (k : Nat) (y : ByteArray), hi ≤ k → ks[k]? = some y → lt? y t = false)) ∧ wr = w) (fun s7 s8 _ => (Lib.intOf s8).toNat - (Lib.intOf s7).toNat)
  case atStart => exact ⟨0, ks.length, rfl, rfl, Nat.zero_le _, Nat.le_refl _, Lib.hid ⟨fun k y h => absurd h (Nat.not_lt_zero _), fun k y h h2 => absurd (lt_of_get h2) (by omega)⟩, rfl⟩
  case round =>
    obtain ⟨lo, hi, rfl, rfl, hlh, hin, HE, rfl⟩ := hrel
    by_cases hlt : lo < hi
    · obtain ⟨y, hy⟩ : ∃ y, ks[(lo + hi) / 2]? = some y := ⟨_, List.getElem?_eq_getElem (by omega)⟩
      obtain ⟨b0, off, rfl, hb0, hc⟩ := RK.out.atE hy (Below.refl _ _)
      have g0 : wr.cell? ⟨b0, off + (lo + hi) / 2, none⟩ = some (.string y) := by simpa using hc 0 _ rfl
      have HX := Lib.hid hy
      have LS := lessS_any y t
      clear hy hc
      cases q : lt? y t with
      | true =>
        rw [q] at LS
        have LO : Hid (∀ (k : Nat) (z : ByteArray), k < (lo + hi) / 2 + 1 → ks[k]? = some z → lt? z t = true) := Lib.hid (fun k z hk hz => by
          by_cases e : k = (lo + hi) / 2
          · subst e; rw [HX.out] at hz; cases hz; exact q
          · exact lt_trans' (rise_get HS.out hz HX.out (by omega)) q)
        go_wp2_with (refine (LS _).mono ?_; rintro e w' ⟨rfl, rfl⟩)
        go_roundw
        case rel => exact ⟨(lo + hi) / 2 + 1, hi, by rw [show ((lo : Int) + (hi : Int)) / 2 + 1 = (((lo + hi) / 2 + 1 : Nat) : Int) by omega], rfl, by omega, hin, Lib.hid ⟨LO.out, HE.out.2⟩, by trivial⟩
        case measure => simp [Lib.intOf]; omega
      | false =>
        rw [q] at LS
        have LO : Hid (∀ (k : Nat) (z : ByteArray), (lo + hi) / 2 ≤ k → ks[k]? = some z → lt? z t = false) := Lib.hid (fun k z hk hz => by
          by_cases e : k = (lo + hi) / 2
          · subst e; rw [HX.out] at hz; cases hz; exact q
          · cases hz2 : lt? z t with
            | false => rfl
            | true => rw [lt_trans' (rise_get HS.out HX.out hz (by omega)) hz2] at q; cases q)
        go_wp2_with (refine (LS _).mono ?_; rintro e w' ⟨rfl, rfl⟩)
        go_roundw
        case rel => exact ⟨lo, (lo + hi) / 2, rfl, by rw [show ((lo : Int) + (hi : Int)) / 2 = (((lo + hi) / 2 : Nat) : Int) by omega], by omega, by omega, Lib.hid ⟨HE.out.1, LO.out⟩, by trivial⟩
        case measure => simp [Lib.intOf]; omega
    · obtain rfl : hi = lo := by omega
      by_cases hn : hi < ks.length
      · obtain ⟨y, hy⟩ : ∃ y, ks[hi]? = some y := ⟨_, List.getElem?_eq_getElem hn⟩
        obtain ⟨b0, off, rfl, hb0, hc⟩ := RK.out.atE hy (Below.refl _ _)
        have g0 : wr.cell? ⟨b0, off + hi, none⟩ = some (.string y) := by simpa using hc 0 _ rfl
        have HX := Lib.hid hy
        clear hy hc
        cases q : y.toList == t.toList with
        | true =>
          have q' : y.toList = t.toList := by simpa using q
          have HQ : Hid (∃ z, ks[hi]? = some z ∧ z.toList = t.toList) := Lib.hid ⟨y, HX.out, q'⟩
          go_wp2_with (refine (nanT_any _ _).mono ?_; rintro e w' ⟨rfl, rfl⟩)
          go_ret2
          exact ⟨hi, true, by simp [q'], hin, HE.out.1, HE.out.2, ⟨fun _ => HQ.out, fun _ => rfl⟩, rfl⟩
        | false =>
          have q' : ¬ y.toList = t.toList := by simpa using q
          have HQ : Hid (¬ ∃ z, ks[hi]? = some z ∧ z.toList = t.toList) := Lib.hid (by rintro ⟨z, hz, hzt⟩; rw [HX.out] at hz; cases hz; exact q' hzt)
          go_wp2_with (refine (nanT_any _ _).mono ?_; rintro e w' ⟨rfl, rfl⟩)
          go_ret2
          exact ⟨hi, false, rfl, hin, HE.out.1, HE.out.2, ⟨fun h => (by cases h), fun h => absurd h HQ.out⟩, rfl⟩
      · have HQ : Hid (¬ ∃ z, ks[hi]? = some z ∧ z.toList = t.toList) := Lib.hid (by rintro ⟨z, hz, _⟩; exact hn (lt_of_get hz))
        go_wp2
        go_ret2
        exact ⟨hi, false, rfl, hin, HE.out.1, HE.out.2, ⟨fun h => (by cases h), fun h => absurd h HQ.out⟩, rfl⟩
theorem bytes_ext {a b : ByteArray} (h : a.toList = b.toList) : a = b := by
  rw [ByteArray.toList_eq, ByteArray.toList_eq] at h
  exact Go.WideShapes.bytes_inj h
/-- Where a key stands, or would stand. -/
def bsI (ks : List ByteArray) (t : ByteArray) : Nat := (ks.takeWhile (fun k => sless k t)).length
def bsF (ks : List ByteArray) (t : ByteArray) : Bool := ks.any (fun k => k.toList == t.toList)
theorem bsF_iff {ks : List ByteArray} {t : ByteArray} : bsF ks t = true ↔ t ∈ ks := by
  unfold bsF
  rw [List.any_eq_true]
  constructor
  · rintro ⟨y, hy, e⟩
    have e' : y = t := bytes_ext (by simpa using e)
    exact e' ▸ hy
  · intro h
    exact ⟨t, h, by simp⟩
theorem takeWhile_at {α : Type} {p : α → Bool} : ∀ {l : List α} {i : Nat}, i ≤ l.length → (∀ (k : Nat) (y : α), k < i → l[k]? = some y → p y = true) → (∀ (y : α), l[i]? = some y → p y = false) → (l.takeWhile p).length = i
  | [], i, hi, _, _ => by simp at hi; simp [hi]
  | x :: l, 0, _, _, h2 => by
    have := h2 x rfl
    simp [List.takeWhile_cons, this]
  | x :: l, i + 1, hi, h1, h2 => by
    have hx := h1 0 x (by omega) rfl
    have := takeWhile_at (p := p) (l := l) (i := i) (by simpa using hi) (fun k y hk hy => h1 (k + 1) y (by omega) (by simpa using hy)) (fun y hy => h2 y (by simpa using hy))
    rw [List.takeWhile_cons, hx]
    simp [this]
theorem bsI_le (ks : List ByteArray) (t : ByteArray) : bsI ks t ≤ ks.length := (List.takeWhile_prefix _).length_le
theorem bin_fun (A : Option Addr) (c : Nat) (ks : List ByteArray) (t : ByteArray) (w : World) (HR : RowE encS 1 w A ks) (hs : Rise ks) (hl : ks.length ≤ 2048) :
    Calls Try.prog 39 #[.slice A ks.length c, .string t] w fun e w' => e = .returned (.tuple #[.int .i64 (bsI ks t), .bool (bsF ks t)]) ∧ w = w' := by
  refine (bin_any A c ks t w HR hs hl).mono ?_
  rintro e w' ⟨i, ok, rfl, hi, h1, h2, h3, rfl⟩
  have hI : bsI ks t = i := takeWhile_at hi h1 (fun y hy => h2 i y (Nat.le_refl _) hy)
  have hF : bsF ks t = ok := by
    rw [Bool.eq_iff_iff]
    rw [h3]
    rw [bsF_iff]
    constructor
    · intro hm
      obtain ⟨j, hj⟩ := List.mem_iff_getElem?.1 hm
      have hij : i ≤ j := by
        rcases Nat.lt_or_ge j i with h | h
        · have := h1 j t h hj; rw [lt_irr] at this; cases this
        · exact h
      rcases Nat.lt_or_ge i j with h | h
      · obtain ⟨y, hy⟩ : ∃ y, ks[i]? = some y := ⟨_, List.getElem?_eq_getElem (by have := lt_of_get hj; omega)⟩
        have h4 := rise_get hs hy hj h
        rw [h2 i y (Nat.le_refl _) hy] at h4; cases h4
      · obtain rfl : j = i := by omega
        exact ⟨t, hj, rfl⟩
    · rintro ⟨y, hy, e⟩
      rw [← bytes_ext e]
      exact List.mem_of_getElem? hy
  rw [hI, hF]
  exact ⟨rfl, rfl⟩
/-- Which kid a key is in. -/
def wayS (ks : List ByteArray) (t : ByteArray) : Nat := bsI ks t + if bsF ks t then 1 else 0
theorem wayS_le {ks : List ByteArray} {t : ByteArray} (hs : Rise ks) : wayS ks t ≤ ks.length := by
  unfold wayS
  have h0 := bsI_le ks t
  by_cases h : bsF ks t = true
  · rw [if_pos h]
    have hm : t ∈ ks := bsF_iff.1 h
    rcases Nat.lt_or_ge (bsI ks t) ks.length with h1 | h1
    · omega
    · exfalso
      have e : bsI ks t = ks.length := by omega
      unfold bsI at e
      have ht : ks.takeWhile (fun k => sless k t) = ks := by
        have h2 := List.takeWhile_prefix (l := ks) (fun k => sless k t)
        exact h2.eq_of_length e
      have this := List.all_eq_true.1 (List.all_takeWhile (p := fun k => sless k t) (l := ks)) t (by rw [ht]; exact hm)
      rw [show sless t t = false from lt_irr t] at this
      cases this
  · rw [if_neg h]; omega
set_option maxRecDepth 100000 in
theorem way_any (g : Nat) (A : Option Addr) (c : Nat) (v2 v3 : Value) (ks : List ByteArray) (t : ByteArray) (w : World) (HB : Box w g [.slice A ks.length c, v2, v3]) (HR : RowE encS 1 w A ks) (hs : Rise ks) (hl : ks.length ≤ 2048) :
    Calls Try.prog 46 #[.pointer (some ⟨g, 0, none⟩), .string t] w fun e w' => e = .returned (.int .i64 (wayS ks t)) ∧ w = w' := by
  have hb := bin_fun A c ks t w HR hs hl
  have hle := bsI_le ks t
  have c0 := HB.c 0 _ rfl
  have HW : Hid (wayS ks t = bsI ks t + if bsF ks t then 1 else 0) := Lib.hid rfl
  generalize bsI ks t = i at *
  generalize bsF ks t = f at *
  generalize wayS ks t = r at *
  clear HB HR hs
  go_enter Try.func46, Try.ntmps46
  cases f with
  | true =>
    obtain rfl : r = i + 1 := by simpa using HW.out
    go_wp2_with (refine hb.mono ?_; rintro e w' ⟨rfl, rfl⟩)
    go_ret
    exact ⟨by simp, rfl⟩
  | false =>
    obtain rfl : r = i := by simpa using HW.out
    go_wp2_with (refine hb.mono ?_; rintro e w' ⟨rfl, rfl⟩)
    go_ret
    exact ⟨by simp, rfl⟩
end Go.Proofs.Ytkecbghnapjecaa
