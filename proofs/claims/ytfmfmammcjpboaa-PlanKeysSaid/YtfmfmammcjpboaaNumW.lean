/- keycode.number: a number's octets go into the builder. -/
import Derived.Test.YtfmfmammcjpboaaNum
namespace Go.Proofs.Ytfmfmammcjpboaa
open Go.RowKit
set_option linter.unusedVariables false
set_option linter.unusedSimpArgs false
theorem be_step (m s j : Nat) (h : j < s) : be (s - j) (m / 256 ^ j) = be (s - j - 1) (m / 256 ^ (j + 1)) ++ [UInt8.ofNat (m / 256 ^ j)] := by
  obtain ⟨r, hr⟩ : ∃ r, s - j = r + 1 := ⟨s - j - 1, by omega⟩
  rw [hr]
  show be r (m / 256 ^ j / 256) ++ [UInt8.ofNat (m / 256 ^ j)] = _
  rw [Nat.div_div_eq_div_mul, ← Nat.pow_succ]
  rfl
theorem xor_0 : ∀ x : Fin 256, bits .xor .u8 (x.val : Int) 0 = x.val := by decide +kernel
theorem xor_255 : ∀ x : Fin 256, bits .xor .u8 (x.val : Int) 255 = 255 - x.val := by decide +kernel
theorem oct_eq (n : Int) (h : 0 ≤ n) (k : Nat) : n / 2 ^ (8 * k) % 256 = ((UInt8.ofNat (n.toNat / 256 ^ k)).toNat : Int) := by
  rw [UInt8.toNat_ofNat']
  obtain ⟨m, rfl⟩ : ∃ m : Nat, n = m := ⟨n.toNat, by omega⟩
  rw [Int.toNat_natCast, Int.natCast_emod, Int.natCast_ediv, Int.natCast_pow, Int.pow_mul]
  rfl
theorem oct_0 (n : Int) (h : 0 ≤ n) (k : Nat) : bits .xor .u8 (n / 2 ^ (8 * k) % 256) 0 = ((UInt8.ofNat (n.toNat / 256 ^ k)).toNat : Int) := by
  rw [oct_eq n h k]
  exact xor_0 ⟨(UInt8.ofNat (n.toNat / 256 ^ k)).toNat, UInt8.toNat_lt _⟩
theorem oct_255 (n : Int) (h : 0 ≤ n) (k : Nat) : bits .xor .u8 (n / 2 ^ (8 * k) % 256) 255 = ((fl (UInt8.ofNat (n.toNat / 256 ^ k))).toNat : Int) := by
  have hl := UInt8.toNat_lt (UInt8.ofNat (n.toNat / 256 ^ k))
  rw [oct_eq n h k]
  have := xor_255 ⟨(UInt8.ofNat (n.toNat / 256 ^ k)).toNat, UInt8.toNat_lt _⟩
  simp only at this
  generalize UInt8.ofNat (n.toNat / 256 ^ k) = x at *
  rw [this, fl, UInt8.toNat_sub_of_le _ _ (by rw [UInt8.le_iff_toNat_le]; simp; omega)]
  simp; omega
theorem not_u64 (U : Int) (h0 : 0 ≤ U) (h1 : U < 18446744073709551616) : bits .xor .u64 IntKind.u64.max U = 18446744073709551615 - U := by
  have e : bits .xor .u64 IntKind.u64.max U = IntKind.u64.wrap ((BitVec.ofInt 64 IntKind.u64.max ^^^ BitVec.ofInt 64 U).toNat : Int) := rfl
  have e2 : BitVec.ofInt 64 IntKind.u64.max = BitVec.allOnes 64 := by decide
  have e3 : (BitVec.ofInt 64 U).toNat = U.toNat := by rw [BitVec.toNat_ofInt]; omega
  rw [e, e2, BitVec.allOnes_xor, BitVec.toNat_not, e3, IntKind.wrap_u64]
  omega
set_option maxHeartbeats 2000000 in
set_option maxRecDepth 100000 in
theorem number_any (b : Nat) (v : Value) (bs : List UInt8) (n : Int) (w : World) (HBl : BldV b v (Lib.byteCells bs) w) (hn : InR n) (hlen : bs.length + 9 ≤ 140737488355328) :
    Calls Try.prog 60 #[.pointer (some ⟨b, 0, none⟩), .int .i64 n] w fun e w' => e = .returned (.tuple #[]) ∧ ∃ v', BldV b v' (Lib.byteCells (bs ++ encNum n)) w' ∧ Fr b v v' w w' := by
  have n1 := hn.1; have n2 := hn.2
  by_cases hp : 0 ≤ n
  · have hw : n % 18446744073709551616 = n := by omega
    have hp' : ¬ n < 0 := by omega
    have z := sz_num (m := n.toNat) (by omega)
    have c := fun W => size_any n W (by omega) (by omega)
    generalize hs : sz n.toNat = s at *
    have hl : (Lib.byteCells bs).length + 1 ≤ 140737488355328 := by rw [Lib.byteCells_length]; omega
    go_enter Try.func60, Try.ntmps60
    go_wp2_with (first | (go_at_call 70; refine (c _).mono ?_; rintro e w' ⟨rfl, rfl⟩) | (go_at_call 59; refine (writeByte_any b _ _ _ _ HBl hl).mono ?_; rintro e w1 ⟨rfl, v1, h1, f1⟩))

    have e0 : (64 + (s : Int)) = ((UInt8.ofNat (64 + s)).toNat : Int) := by rw [UInt8.toNat_ofNat']; omega
    rw [e0] at h1
    clear e0
    generalize hc0 : UInt8.ofNat (64 + s) = c0 at *
    go_loopw [7] (fun i wr => ∃ j : Nat, j ≤ s ∧ i = .int .i64 ((j : Int) - 1) ∧ ∃ vr, BldV b vr (Lib.byteCells (bs ++ c0 :: be (s - j) (n.toNat / 256 ^ j))) wr ∧ Fr b v vr w wr) (fun i _ => (Lib.intOf i + 1).toNat)
    case atStart => exact ⟨s, Nat.le_refl _, rfl, v1, by simpa [be, Lib.byteCells] using h1, f1⟩
    case round =>
      obtain ⟨j, hj, rfl, vr, hb, hf⟩ := hrel
      rcases j with _ | k
      · go_wp2
        go_end0
        refine ⟨rfl, vr, ?_, hf⟩
        have e : encNum n = c0 :: be (s - 0) (n.toNat / 256 ^ 0) := by
          rw [encNum, if_pos hp, hs, hc0]; simp
        rw [e]; exact hb
      · have hk : ((k + 1 : Nat) : Int) - 1 = k := by omega
        rw [hk]
        have hl2 : (Lib.byteCells (bs ++ c0 :: be (s - (k + 1)) (n.toNat / 256 ^ (k + 1)))).length + 1 ≤ 140737488355328 := by rw [Lib.byteCells_length]; simp [be_len]; omega
        go_wp2_with (go_at_call 59; refine (writeByte_any b _ _ _ _ hb hl2).mono ?_; rintro e w2 ⟨rfl, v2, h2, f2⟩)
        rw [oct_0 n hp k] at h2
        go_roundw
        case rel =>
          refine ⟨k, by omega, by go_num, v2, ?_, hf.trans f2⟩
          rw [be_step n.toNat s k (by omega)]
          simpa [Lib.byteCells, Nat.sub_sub] using h2
        case measure => simp [Lib.intOf]
  · have hw : IntKind.u64.wrap n = n + 18446744073709551616 := by rw [IntKind.wrap_u64]; omega
    have hp' : n < 0 := by omega
    have z := sz_num (m := (-n - 1).toNat) (by omega)
    have c := fun W => size_any (-n - 1) W (by omega) (by omega)
    have c' := fun W => size_any (IntKind.u64.wrap n) W (by omega) (by omega)
    have z' : sz (IntKind.u64.wrap n).toNat ≤ 8 := sz_le 8 _ (by omega)
    generalize sz (IntKind.u64.wrap n).toNat = s' at *
    generalize hs : sz (-n - 1).toNat = s at *
    have hW := Lib.hid hw
    clear hw
    have hl : (Lib.byteCells bs).length + 1 ≤ 140737488355328 := by rw [Lib.byteCells_length]; omega
    go_enter Try.func60, Try.ntmps60
    go_wp2_with fail
    generalize IntKind.u64.wrap n = U at *
    refine (c' _).mono ?_; rintro e w' ⟨rfl, rfl⟩
    go_wp2_with (first | (go_at_call 59; refine (writeByte_any b _ _ _ _ HBl hl).mono ?_; rintro e w1 ⟨rfl, v1, h1, f1⟩))
    have hm : bits .xor .u64 IntKind.u64.max U = -n - 1 := by rw [not_u64 U (by have := hW.out; omega) (by have := hW.out; omega), hW.out]; omega
    rw [hm]
    clear hm hW c'
    refine (c _).mono ?_; rintro e w' ⟨rfl, rfl⟩
    go_wp2_with (first | (go_at_call 70; refine (c _).mono ?_; rintro e w' ⟨rfl, rfl⟩) | (go_at_call 59; refine (writeByte_any b _ _ _ _ HBl hl).mono ?_; rintro e w1 ⟨rfl, v1, h1, f1⟩))
    have e0 : (63 - (s : Int)) = ((UInt8.ofNat (63 - s)).toNat : Int) := by rw [UInt8.toNat_ofNat']; omega
    rw [e0] at h1
    clear e0
    generalize hc0 : UInt8.ofNat (63 - s) = c0 at *
    go_loopw [7] (fun i wr => ∃ j : Nat, j ≤ s ∧ i = .int .i64 ((j : Int) - 1) ∧ ∃ vr, BldV b vr (Lib.byteCells (bs ++ c0 :: (be (s - j) ((-n - 1).toNat / 256 ^ j)).map fl)) wr ∧ Fr b v vr w wr) (fun i _ => (Lib.intOf i + 1).toNat)
    case atStart => exact ⟨s, Nat.le_refl _, rfl, v1, by simpa [be, Lib.byteCells] using h1, f1⟩
    case round =>
      obtain ⟨j, hj, rfl, vr, hb, hf⟩ := hrel
      rcases j with _ | k
      · go_wp2
        go_end0
        refine ⟨rfl, vr, ?_, hf⟩
        have e : encNum n = c0 :: (be (s - 0) ((-n - 1).toNat / 256 ^ 0)).map fl := by
          rw [encNum, if_neg (by omega), hs, hc0]; simp
        rw [e]; exact hb
      · have hk : ((k + 1 : Nat) : Int) - 1 = k := by omega
        rw [hk]
        have hl2 : (Lib.byteCells (bs ++ c0 :: (be (s - (k + 1)) ((-n - 1).toNat / 256 ^ (k + 1))).map fl)).length + 1 ≤ 140737488355328 := by rw [Lib.byteCells_length]; simp [be_len]; omega
        go_wp2_with (go_at_call 59; refine (writeByte_any b _ _ _ _ hb hl2).mono ?_; rintro e w2 ⟨rfl, v2, h2, f2⟩)
        rw [oct_255 (-n - 1) (by omega) k] at h2
        go_roundw
        case rel =>
          refine ⟨k, by omega, by go_num, v2, ?_, hf.trans f2⟩
          rw [be_step (-n - 1).toNat s k (by omega)]
          simpa [Lib.byteCells, Nat.sub_sub] using h2
        case measure => simp [Lib.intOf]
end Go.Proofs.Ytfmfmammcjpboaa
