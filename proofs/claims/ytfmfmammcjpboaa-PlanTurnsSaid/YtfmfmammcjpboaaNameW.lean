/- lex.Keyword, syntax.Name. -/
import Derived.Test.YtfmfmammcjpboaaLowW
import Derived.Shelf.Abstract
namespace Go.Proofs.Ytfmfmammcjpboaa
open Go.RowKit
set_option linter.unusedVariables false
set_option linter.unusedSimpArgs false
/-- bytealg's one variable holds a number. -/
def MaxL (w : World) : Prop := ∃ m : Int, w.cell? ⟨0, 0, none⟩ = some (.int .i64 m)
theorem MaxL.below {w w' : World} (h : MaxL w) (hb : Below w.heap.size w w') : MaxL w' := by
  obtain ⟨m, hm⟩ := h
  exact ⟨m, (hb.cell (p := ⟨0, 0, none⟩) (World.block_lt_of_cell? _ _ hm)).trans hm⟩
theorem contains_any (s sub : ByteArray) (w : World) (hs : s.size < 4294967281) (hm : MaxL w) :
    Calls Try.prog 72 #[.string s, .string sub] w fun e w' => e = .returned (.bool (Lib.contains s.toList sub.toList)) ∧ w = w' := by
  obtain ⟨m, hm⟩ := hm
  have h := Any.strings_Contains { Try.lays144 with } s sub m w hs hm
  refine h.mono ?_
  rintro e w' ⟨rfl, rfl⟩
  rw [ByteArray.toList_eq, ByteArray.toList_eq]
  exact ⟨rfl, rfl⟩
def words : ByteArray := ⟨#[32, 99, 114, 101, 97, 116, 101, 32, 116, 97, 98, 108, 101, 32, 105, 110, 100, 101, 120, 32, 111, 110, 32, 100, 114, 111, 112, 32, 105, 110, 115, 101, 114, 116, 32, 105, 110, 116, 111, 32, 118, 97, 108, 117, 101, 115, 32, 117, 112, 100, 97, 116, 101, 32, 115, 101, 116, 32, 100, 101, 108, 101, 116, 101, 32, 102, 114, 111, 109, 32, 119, 104, 101, 114, 101, 32, 115, 101, 108, 101, 99, 116, 32, 106, 111, 105, 110, 32, 103, 114, 111, 117, 112, 32, 98, 121, 32, 111, 114, 100, 101, 114, 32, 100, 101, 115, 99, 32, 108, 105, 109, 105, 116, 32, 98, 101, 103, 105, 110, 32, 99, 111, 109, 109, 105, 116, 32, 114, 111, 108, 108, 98, 97, 99, 107, 32, 112, 114, 105, 109, 97, 114, 121, 32, 107, 101, 121, 32, 110, 111, 116, 32, 110, 117, 108, 108, 32, 105, 115, 32, 97, 110, 100, 32, 111, 114, 32, 116, 114, 117, 101, 32, 102, 97, 108, 115, 101, 32, 105, 110, 116, 32, 98, 111, 111, 108, 32, 116, 101, 120, 116, 32, 99, 111, 117, 110, 116, 32, 115, 117, 109, 32, 109, 105, 110, 32, 109, 97, 120, 32]⟩
def sp : ByteArray := ⟨#[32]⟩
def keyB (t : ByteArray) : Bool := !(t.toList == []) && (!Lib.contains t.toList sp.toList && Lib.contains words.toList (sp ++ t ++ sp).toList)
set_option maxHeartbeats 2000000 in
set_option maxRecDepth 100000 in
theorem keyword_any (s : ByteArray) (w : World) (hs : s.size ≤ 1000000) (hm : MaxL w) :
    Calls Try.prog 61 #[.string s] w fun e w' => e = .returned (.bool (keyB ⟨(low s.toList).toArray⟩)) ∧ Below w.heap.size w w' := by
  have hts : (⟨(low s.toList).toArray⟩ : ByteArray).size = s.size := by
    show (low s.toList).toArray.size = _
    simp [low, tl_len]
  have hlow := lower_any s w hs
  generalize (⟨(low s.toList).toArray⟩ : ByteArray) = t at *
  have hw : words.size < 4294967281 := by decide
  have hwt : t.size < 4294967281 := by omega
  have hc1 := fun w hm => contains_any t sp w hwt hm
  have hc2 := fun w hm => contains_any words (sp ++ t ++ sp) w hw hm
  have hk : keyB t = (!(t.toList == []) && (!Lib.contains t.toList sp.toList && Lib.contains words.toList (sp ++ t ++ sp).toList)) := rfl
  generalize Lib.contains t.toList sp.toList = x at *
  generalize Lib.contains words.toList (sp ++ t ++ sp).toList = y at *
  rw [hk]
  clear hk
  unfold words sp at hc2
  unfold sp at hc1
  by_cases h0 : t.toList = []
  · have e : (!(t.toList == []) && (!x && y)) = false := by rw [h0]; rfl
    rw [e]
    clear e hc1 hc2
    go_enter Try.func61, Try.ntmps61
    go_wp2_with fail
    refine hlow.mono ?_; rintro e w1 ⟨rfl, h1⟩
    go_wp2
    go_ret
    exact ⟨rfl, h1⟩
  · have e : (!(t.toList == []) && (!x && y)) = (!x && y) := by
      have : (t.toList == []) = false := by rw [beq_eq_false_iff_ne]; exact h0
      rw [this]; simp
    rw [e]
    clear e
    go_enter Try.func61, Try.ntmps61
    go_wp2_with fail
    refine hlow.mono ?_; rintro e w1 ⟨rfl, h1⟩
    have hm1 := hm.below h1
    clear hlow
    go_wp2_with fail
    refine (hc1 _ hm1).mono ?_; rintro e w2 ⟨rfl, rfl⟩
    cases x
    · go_wp2_with fail
      refine (hc2 _ hm1).mono ?_; rintro e w2 ⟨rfl, rfl⟩
      go_wp2
      go_ret
      exact ⟨ret_bool (by simp [h0]), h1⟩
    · go_wp2
      go_ret
      exact ⟨ret_bool (by simp), h1⟩
/-- No letter of a name. -/
def badc (c : UInt8) : Bool := decide (26 ≤ ((c.toNat : Int) - 97) % 256) && (decide (10 ≤ ((c.toNat : Int) - 48) % 256) && (c.toNat : Int) != 95)
set_option maxRecDepth 100000 in
theorem name1_any (c : UInt8) (w : World) : Calls Try.prog 63 #[.int .u8 c.toNat] w fun e w' => e = .returned (.bool (badc c)) ∧ w = w' := by
  have hcn := c.toNat_lt
  have hb : badc c = (decide (26 ≤ ((c.toNat : Int) - 97) % 256) && (decide (10 ≤ ((c.toNat : Int) - 48) % 256) && (c.toNat : Int) != 95)) := rfl
  rw [hb]
  generalize (c.toNat : Int) = n at *
  go_enter Try.func63, Try.ntmps63
  go_wp2
  all_goals (go_ret; exact ⟨ret_bool (by first | (simp_all; done) | (simp_all; omega)), rfl⟩)
/-- The first place of one. -/
def idxB (p : UInt8 → Bool) : List UInt8 → Option Nat
  | [] => none
  | c :: l => if p c then some 0 else (idxB p l).map (· + 1)
theorem idxB_step {p : UInt8 → Bool} : ∀ (l : List UInt8) (j : Nat), (∀ i c, i < j → l[i]? = some c → p c = false) → ∀ c, l[j]? = some c → p c = true → l.any p = true
  | l, j, _, c, hc, hp => List.any_eq_true.2 ⟨c, List.mem_of_getElem? hc, hp⟩
set_option maxRecDepth 100000 in
theorem idxName_any (g cap : Nat) (l : List UInt8) (w : World) (HB : BRow w g l) (hl : l.length ≤ 1000000) :
    Calls Try.prog 73 #[.slice (some ⟨g, 0, none⟩) l.length cap, .func (Fn.func 63) #[] #[]] w fun e w' => (∃ i : Int, e = .returned (.int .i64 i) ∧ (decide (0 ≤ i) = l.any badc)) ∧ w = w' := by
  go_enter Try.func73, Try.ntmps73
  go_wp2
  go_loopw [8] (fun i wr => ∃ j : Nat, j ≤ l.length ∧ i = .int .i64 j ∧ Hid (∀ i c, i < j → l[i]? = some c → badc c = false) ∧ w = wr) (fun i _ => l.length - (Lib.intOf i).toNat)
  case atStart => exact ⟨0, Nat.zero_le _, rfl, Lib.hid (fun i c h => by omega), rfl⟩
  case round =>
    obtain ⟨j, hj, rfl, HJ, rfl⟩ := hrel
    by_cases hlt : j < l.length
    · obtain ⟨c, hc⟩ : ∃ c, l[j]? = some c := ⟨_, List.getElem?_eq_getElem hlt⟩
      have hcell := HB.c j c hc
      have hcc := name1_any c w
      have HC := Lib.hid hc
      clear hc
      cases hb : badc c
      · rw [hb] at hcc
        go_wp2_with fail
        refine hcc.mono ?_; rintro e w' ⟨rfl, rfl⟩
        go_wp2
        go_roundw
        case rel =>
          refine ⟨j + 1, by omega, by go_num, Lib.hid (fun i d hi hd => ?_), by first | rfl | trivial⟩
          by_cases e : i = j
          · subst e
            rw [HC.out] at hd
            obtain rfl := Option.some.inj hd
            exact hb
          · exact HJ.out i d (by omega) hd
        case measure => simp [Lib.intOf]; omega
      · rw [hb] at hcc
        go_wp2_with fail
        refine hcc.mono ?_; rintro e w' ⟨rfl, rfl⟩
        go_wp2
        go_ret
        refine ⟨⟨j, rfl, ?_⟩, rfl⟩
        have : l.any badc = true := List.any_eq_true.2 ⟨c, List.mem_of_getElem? HC.out, hb⟩
        rw [this]; simp
    · obtain rfl : j = l.length := by omega
      go_wp2
      go_ret
      refine ⟨⟨-1, rfl, ?_⟩, rfl⟩
      have : l.any badc = false := by
        rw [List.any_eq_false]
        intro c hc
        obtain ⟨i, hi, e⟩ := List.mem_iff_getElem.1 hc
        rw [HJ.out i c hi (by rw [List.getElem?_eq_getElem hi, e])]; simp
      rw [this]; simp
def nameB (s : ByteArray) : Bool := match s.toList with
  | [] => false
  | c :: l => decide (s.size ≤ 16) && (decide (10 ≤ ((c.toNat : Int) - 48) % 256) && (!keyB ⟨(low s.toList).toArray⟩ && !(s.toList.any badc)))
set_option maxRecDepth 100000 in
theorem containsName_any (g cap : Nat) (l : List UInt8) (w : World) (HB : BRow w g l) (hl : l.length ≤ 1000000) :
    Calls Try.prog 62 #[.slice (some ⟨g, 0, none⟩) l.length cap, .func (Fn.func 63) #[] #[]] w fun e w' => e = .returned (.bool (l.any badc)) ∧ w = w' := by
  have hc := idxName_any g cap l w HB hl
  go_enter Try.func62, Try.ntmps62
  go_wp2_with fail
  refine hc.mono ?_; rintro e w' ⟨⟨i, rfl, hi⟩, rfl⟩
  go_wp2
  go_ret
  exact ⟨ret_bool (by simp_all), rfl⟩
set_option maxHeartbeats 2000000 in
set_option maxRecDepth 100000 in
theorem name_any (s : ByteArray) (w : World) (hm : MaxL w) : Calls Try.prog 49 #[.string s] w fun e w' => e = .returned (.bool (nameB s)) ∧ Below w.heap.size w w' := by
  have hl := tl_len s
  cases hs : s.toList with
  | nil =>
    have e : nameB s = false := by unfold nameB; rw [hs]
    rw [e]
    go_enter Try.func49, Try.ntmps49
    go_wp2
    go_ret
    exact ⟨rfl, Below.refl _ _⟩
  | cons c l =>
    have e : nameB s = (decide (s.size ≤ 16) && (decide (10 ≤ ((c.toNat : Int) - 48) % 256) && (!keyB ⟨(low s.toList).toArray⟩ && !(s.toList.any badc)))) := by unfold nameB; rw [hs]
    have hne : ¬ s.toList = [] := by rw [hs]; simp
    have h0 : ∀ h : 0 < s.size, s[0] = c := fun h => by
      have e1 : s.toList[0]? = some c := by rw [hs]; rfl
      rw [ByteArray.toList_eq] at e1
      have e2 := (List.getElem?_eq_some_iff.1 e1).2
      exact e2
    have hpos : 0 < s.size := by rw [hs] at hl; simp at hl; omega
    by_cases h16 : s.size ≤ 16
    · by_cases hd : 10 ≤ ((c.toNat : Int) - 48) % 256
      · have hk := keyword_any s w (by omega) hm
        rw [show decide (s.size ≤ 16) = true from decide_eq_true h16, show decide (10 ≤ ((c.toNat : Int) - 48) % 256) = true from decide_eq_true hd, Bool.true_and, Bool.true_and] at e
        rw [e]
        clear e
        generalize keyB ⟨(low s.toList).toArray⟩ = k at *
        have h16' : (s.size : Int) ≤ 16 := by omega
        cases k
        · have hcv := fun w => Lib.run_convert_string_bytes (P := Try.prog) w 9 100 5 s Try.underlying9 Try.underlying100 Try.underlying5
          go_enter Try.func49, Try.ntmps49
          go_wp2_with fail
          refine hk.mono ?_; rintro e w1 ⟨rfl, h1⟩
          go_wp2_with fail
          have hB := brow_of w1 s
          have hF := bytes_below w1 s
          generalize Lib.bytesWorld w1 5 s = w2 at *
          have hcf := containsName_any w1.heap.size (grownCap w1 s.size 0 5) s.toList w2 hB (by omega)
          rw [hl] at hcf
          refine hcf.mono ?_; rintro e w3 ⟨rfl, rfl⟩
          go_wp2
          go_ret
          exact ⟨ret_bool (by rw [hs]; simp), below_step' h1 hF⟩
        · go_enter Try.func49, Try.ntmps49
          go_wp2_with fail
          refine hk.mono ?_; rintro e w1 ⟨rfl, h1⟩
          go_wp2
          go_ret
          exact ⟨ret_bool (by simp), h1⟩
      · rw [show decide (10 ≤ ((c.toNat : Int) - 48) % 256) = false from decide_eq_false hd, Bool.false_and, Bool.and_false] at e
        rw [e]
        have hd' : ((c.toNat : Int) - 48) % 256 < 10 := by omega
        have h16' : (s.size : Int) ≤ 16 := by omega
        go_enter Try.func49, Try.ntmps49
        go_wp2
        go_ret
        exact ⟨rfl, Below.refl _ _⟩
    · rw [show decide (s.size ≤ 16) = false from decide_eq_false h16, Bool.false_and] at e
      rw [e]
      have h16' : ¬ (s.size : Int) ≤ 16 := by omega
      go_enter Try.func49, Try.ntmps49
      go_wp2
      go_ret
      exact ⟨rfl, Below.refl _ _⟩
end Go.Proofs.Ytfmfmammcjpboaa
