/- What the functions of package value compute, as plain functions; what their bits tell. -/
import Derived.Test.YtfmfmammcjpboaaBase
import Derived.WalkKit
import Derived.Laws.BitsLemmas
namespace Go.Proofs.Ytfmfmammcjpboaa
open Go.RowKit
set_option linter.unusedVariables false
set_option linter.unusedSimpArgs false
/-- A number of 64 bits. -/
def InR (n : Int) : Prop := -9223372036854775808 ≤ n ∧ n ≤ 9223372036854775807
instance (n : Int) : Decidable (InR n) := inferInstanceAs (Decidable (_ ∧ _))
theorem inR_wf {n : Int} (h : (Lit.int .i64 n).wf = true) : InR n := by
  simp [Lit.wf, IntKind.min, IntKind.max, IntKind.signed, IntKind.bits] at h; exact ⟨by omega, by omega⟩
theorem wf_inR {n : Int} (h : InR n) : (Lit.int .i64 n).wf = true := by
  simp [Lit.wf, IntKind.min, IntKind.max, IntKind.signed, IntKind.bits]; exact ⟨by have := h.1; omega, by have := h.2; omega⟩
theorem wrap64_in {n : Int} (h : InR n) : wrap64 n = n := by unfold wrap64; have := h.1; have := h.2; omega
theorem inR_wrap (n : Int) : InR (wrap64 n) := by unfold InR wrap64; omega
/-! the sign of '^' and '&' -/
theorem i64_toInt (x : BitVec 64) : IntKind.i64.wrap (x.toNat : Int) = x.toInt := by
  rw [IntKind.wrap_i64, BitVec.toInt_eq_toNat_cond]
  have := x.isLt
  split <;> omega
theorem msb_ofInt {a : Int} (h : InR a) : (BitVec.ofInt 64 a).msb = decide (a < 0) := by
  rw [BitVec.msb_eq_toInt, BitVec.toInt_ofInt]
  have e : Int.bmod a (2 ^ 64) = a := by
    rw [Int.bmod_eq_of_le] <;> (have := h.1; have := h.2; omega)
  rw [e]
theorem xor_sign (a b : Int) (ha : InR a) (hb : InR b) : InR (bits .xor .i64 a b) ∧ (bits .xor .i64 a b < 0 ↔ ¬ (a < 0 ↔ b < 0)) := by
  have e : bits .xor .i64 a b = (BitVec.ofInt 64 a ^^^ BitVec.ofInt 64 b).toInt := by rw [← i64_toInt]; rfl
  rw [e]
  refine ⟨⟨by have := BitVec.le_toInt (BitVec.ofInt 64 a ^^^ BitVec.ofInt 64 b); omega, by have := BitVec.toInt_lt (x := BitVec.ofInt 64 a ^^^ BitVec.ofInt 64 b); omega⟩, ?_⟩
  have m := BitVec.msb_eq_toInt (x := BitVec.ofInt 64 a ^^^ BitVec.ofInt 64 b)
  rw [BitVec.msb_xor, msb_ofInt ha, msb_ofInt hb] at m
  rw [← decide_eq_true_iff (p := (BitVec.ofInt 64 a ^^^ BitVec.ofInt 64 b).toInt < 0), ← m]
  by_cases h1 : a < 0 <;> by_cases h2 : b < 0 <;> simp [h1, h2]
theorem and_sign (a b : Int) (ha : InR a) (hb : InR b) : bits .and .i64 a b < 0 ↔ (a < 0 ∧ b < 0) := by
  have e : bits .and .i64 a b = (BitVec.ofInt 64 a &&& BitVec.ofInt 64 b).toInt := by rw [← i64_toInt]; rfl
  rw [e]
  have m := BitVec.msb_eq_toInt (x := BitVec.ofInt 64 a &&& BitVec.ofInt 64 b)
  rw [BitVec.msb_and, msb_ofInt ha, msb_ofInt hb] at m
  rw [← decide_eq_true_iff (p := (BitVec.ofInt 64 a &&& BitVec.ofInt 64 b).toInt < 0), ← m]
  by_cases h1 : a < 0 <;> by_cases h2 : b < 0 <;> simp [h1, h2]
/-- The test of a sum, of a difference. -/
theorem sum_test (a b : Int) (ha : InR a) (hb : InR b) : 0 ≤ bits .and .i64 (bits .xor .i64 a (wrap64 (a + b))) (bits .xor .i64 b (wrap64 (a + b))) ↔ InR (a + b) := by
  have ho := inR_wrap (a + b)
  obtain ⟨r1, s1⟩ := xor_sign a _ ha ho
  obtain ⟨r2, s2⟩ := xor_sign b _ hb ho
  have t := and_sign _ _ r1 r2
  have hw : wrap64 (a + b) = (a + b + 9223372036854775808) % 18446744073709551616 - 9223372036854775808 := by unfold wrap64; rfl
  have h1 := ha.1; have h2 := ha.2; have h3 := hb.1; have h4 := hb.2
  constructor
  · intro h
    refine ⟨?_, ?_⟩
    · apply Decidable.byContradiction; intro hn
      have : wrap64 (a + b) = a + b + 18446744073709551616 := by rw [hw]; omega
      exact absurd (t.2 ⟨s1.2 (by omega), s2.2 (by omega)⟩) (by omega)
    · apply Decidable.byContradiction; intro hn
      have : wrap64 (a + b) = a + b - 18446744073709551616 := by rw [hw]; omega
      exact absurd (t.2 ⟨s1.2 (by omega), s2.2 (by omega)⟩) (by omega)
  · intro h
    have : wrap64 (a + b) = a + b := wrap64_in h
    apply Decidable.byContradiction; intro hn
    obtain ⟨q1, q2⟩ := t.1 (by omega)
    have := s1.1 q1; have := s2.1 q2; omega
theorem diff_test (a b : Int) (ha : InR a) (hb : InR b) : 0 ≤ bits .and .i64 (bits .xor .i64 a b) (bits .xor .i64 a (wrap64 (a - b))) ↔ InR (a - b) := by
  have ho := inR_wrap (a - b)
  obtain ⟨r1, s1⟩ := xor_sign a _ ha hb
  obtain ⟨r2, s2⟩ := xor_sign a _ ha ho
  have t := and_sign _ _ r1 r2
  have hw : wrap64 (a - b) = (a - b + 9223372036854775808) % 18446744073709551616 - 9223372036854775808 := by unfold wrap64; rfl
  have h1 := ha.1; have h2 := ha.2; have h3 := hb.1; have h4 := hb.2
  constructor
  · intro h
    refine ⟨?_, ?_⟩
    · apply Decidable.byContradiction; intro hn
      have : wrap64 (a - b) = a - b + 18446744073709551616 := by rw [hw]; omega
      exact absurd (t.2 ⟨s1.2 (by omega), s2.2 (by omega)⟩) (by omega)
    · apply Decidable.byContradiction; intro hn
      have : wrap64 (a - b) = a - b - 18446744073709551616 := by rw [hw]; omega
      exact absurd (t.2 ⟨s1.2 (by omega), s2.2 (by omega)⟩) (by omega)
  · intro h
    have : wrap64 (a - b) = a - b := wrap64_in h
    apply Decidable.byContradiction; intro hn
    obtain ⟨q1, q2⟩ := t.1 (by omega)
    have := s1.1 q1; have := s2.1 q2; omega
theorem tdiv_in {a b : Int} (ha : InR a) (hb : b ≠ 0) (h : ¬ (a = -9223372036854775808 ∧ b = -1)) : InR (a.tdiv b) := by
  have h1 := ha.1; have h2 := ha.2
  by_cases e1 : b = 1
  · subst e1; rw [Int.tdiv_one]; exact ha
  · by_cases e2 : b = -1
    · subst e2
      rw [Int.tdiv_neg, Int.tdiv_one]
      exact ⟨by omega, by omega⟩
    · have h3 : (a.tdiv b).natAbs = a.natAbs / b.natAbs := Int.natAbs_tdiv a b
      have h4 : a.natAbs / b.natAbs ≤ a.natAbs / 2 := Nat.div_le_div_left (by omega) (by omega)
      exact ⟨by omega, by omega⟩
/-! package value -/
structure V where
  k : Int
  n : Int
  s : ByteArray
/-- No text. -/
def nos : ByteArray := ⟨#[]⟩
def V.nul : V := ⟨0, 0, ⟨#[]⟩⟩
def V.num (n : Int) : V := ⟨1, n, ⟨#[]⟩⟩
/-- '==' of two values. -/
def sameB (x0 x1 : Int) (x2 : ByteArray) (y0 y1 : Int) (y2 : ByteArray) : Bool := x0 == y0 && (x1 == y1 && x2.toList == y2.toList)
def V.same (a b : V) : Bool := sameB a.k a.n a.s b.k b.n b.s
/-- value.Check. -/
def vcheck (v : V) : Int :=
  if v.k = 0 then (if v.n = 0 ∧ v.s.toList = [] then 0 else 9) else if v.k = 1 then (if v.s.toList = [] then 0 else 9)
  else if v.k = 2 then (if v.s.toList = [] ∧ IntKind.u64.wrap v.n ≤ 1 then 0 else 9) else if v.k = 3 then (if v.n = 0 ∧ (v.s.size : Int) ≤ 64 then 0 else 9) else 9
/-- cmp.Compare of numbers, of texts. -/
def cmpI (a b : Int) : Int := if a < b then -1 else if b < a then 1 else 0
def cmpS (a b : ByteArray) : Int := if Op.bytesLess a.toList b.toList = true then -1 else if Op.bytesLess b.toList a.toList = true then 1 else 0
theorem cmpI_three (a b : Int) : cmpI a b = -1 ∨ cmpI a b = 0 ∨ cmpI a b = 1 := by unfold cmpI; by_cases h : a < b <;> by_cases g : b < a <;> simp [h, g]
theorem cmpS_three (a b : ByteArray) : cmpS a b = -1 ∨ cmpS a b = 0 ∨ cmpS a b = 1 := by unfold cmpS; (repeat split) <;> simp
/-- value.Order. -/
def vorder (a b : V) : Int := if cmpI a.k b.k ≠ 0 then cmpI a.k b.k else if a.k = 1 ∨ a.k = 2 then cmpI a.n b.n else if a.k = 3 then cmpS a.s b.s else 0
theorem vorder_three (a b : V) : vorder a b = -1 ∨ vorder a b = 0 ∨ vorder a b = 1 := by
  unfold vorder
  split
  · exact cmpI_three _ _
  · split
    · exact cmpI_three _ _
    · split
      · exact cmpS_three _ _
      · simp
/-- value.Compare. -/
def vcompare (a b : V) : Int × Bool × Int :=
  if vcheck a ≠ 0 ∨ vcheck b ≠ 0 then (0, false, 81) else if a.k = 0 ∨ b.k = 0 then (0, false, 0) else if a.k ≠ b.k then (0, false, 81) else (vorder a b, true, 0)
theorem vcompare_known (a b : V) : (vcompare a b).2.1 = true → (vcompare a b).1 = -1 ∨ (vcompare a b).1 = 0 ∨ (vcompare a b).1 = 1 := by
  unfold vcompare
  split
  · simp
  · split
    · simp
    · split
      · simp
      · intro _; exact vorder_three a b
/-- value.fit. -/
def vfit (kind : Int) (some : Bool) : List V → Bool × Int
  | [] => (some, 0)
  | v :: l => if vcheck v ≠ 0 ∨ (v.k ≠ 0 ∧ v.k ≠ kind) then (false, 81) else vfit kind (some || v.k == 0) l
/-- value.Bool. -/
def vbool (b : Bool) : V := ⟨2, if b = true then 1 else 0, ⟨#[]⟩⟩
/-- value.reckon, of numbers of 64 bits. -/
def nreckon (op a b : Int) : Int × Int :=
  if op = 4 then (if InR (a + b) then (a + b, 0) else (0, 84)) else if op = 5 then (if InR (a - b) then (a - b, 0) else (0, 84))
  else if op = 6 then (if InR (a * b) then (a * b, 0) else (0, 84))
  else if b = 0 then (0, 85) else if a = -9223372036854775808 ∧ b = -1 then (0, 84) else (a.tdiv b, 0)
/-- Of below, like, above: which an op is true of. -/
def told (op c : Int) : Bool :=
  if op = 8 then c == 0 else if op = 9 then !(c == 0) else if op = 10 then c == -1 else if op = 11 then !(c == 1) else if op = 12 then c == 1 else !(c == -1)
/-- value.Reckon. -/
def vreckon (op : Int) (a b : V) : V × Int :=
  if op < 4 ∨ 13 < op then (.nul, 1) else if op ≤ 7 then
    (if (vfit 1 false [a, b]).1 = true ∨ (vfit 1 false [a, b]).2 ≠ 0 then (.nul, (vfit 1 false [a, b]).2)
     else if (nreckon op a.n b.n).2 ≠ 0 then (.nul, (nreckon op a.n b.n).2) else (.num (nreckon op a.n b.n).1, 0))
  else if (vcompare a b).2.1 = false then (.nul, (vcompare a b).2.2) else (vbool (told op (vcompare a b).1), 0)
/-- value.Neg, Not, And, Or. -/
def vneg (a : V) : V × Int := if (vfit 1 false [a]).1 = true ∨ (vfit 1 false [a]).2 ≠ 0 then (.nul, (vfit 1 false [a]).2) else vreckon 5 (.num 0) a
def vnot (a : V) : V × Int := if (vfit 2 false [a]).1 = true ∨ (vfit 2 false [a]).2 ≠ 0 then (.nul, (vfit 2 false [a]).2) else (vbool (a.n == 0), 0)
def vand (a b : V) : V × Int :=
  if (vfit 2 false [a, b]).2 ≠ 0 then (.nul, (vfit 2 false [a, b]).2) else if a.same (vbool false) = true ∨ b.same (vbool false) = true then (vbool false, 0)
  else if (vfit 2 false [a, b]).1 = true then (.nul, 0) else (vbool true, 0)
def vor (a b : V) : V × Int := if (vfit 2 false [a, b]).2 ≠ 0 then (.nul, (vfit 2 false [a, b]).2) else vnot (vand (vnot a).1 (vnot b).1).1
end Go.Proofs.Ytfmfmammcjpboaa
