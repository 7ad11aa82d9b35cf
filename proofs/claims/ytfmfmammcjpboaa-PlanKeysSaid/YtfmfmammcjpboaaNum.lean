/- keycode.size, keycode.number: how many octets a number needs; its octets go into the builder. -/
import Derived.Test.YtfmfmammcjpboaaBld
import Derived.Test.YtfmfmammcjpboaaKey
import Derived.Lib.Strings
import Derived.Lib.Slices
import Derived.Lib.Small
import Derived.Lib.Walk
import Derived.Lib.BitFns
namespace Go.Proofs.Ytfmfmammcjpboaa
open Go.RowKit
set_option linter.unusedVariables false
set_option linter.unusedSimpArgs false
theorem len_tab (y : Int) (p : y.toNat < Lib.len8tab.size) (h0 : 0 ≤ y) (h1 : y ≤ 255) : ((Lib.len8tab[y.toNat]'p).toNat : Int) = Lib.bitLen y.toNat := by
  rw [← Lib.len8_of y h0 h1]
  simp only [Lib.len8, ByteArray.getElem?_lt' _ _ p, Option.getD_some]
theorem len_close (k : Int) (kn : Nat) (x y : Int) (z : Nat) (p : y.toNat < Lib.len8tab.size) (hs : Lib.bitLen x.toNat = kn + Lib.bitLen z) (hz : z = y.toNat) (hkn : (kn : Int) = k) (h0 : 0 ≤ y) (h1 : y ≤ 255) (hk : 0 ≤ k ∧ k ≤ 56) :
    wrap64 (k + wrap64 ↑(Lib.len8tab[y.toNat]'p).toNat) = ↑(Lib.bitLen x.toNat) := by
  have l := Lib.bitLen_le8' y h0 h1
  subst hz
  rw [len_tab y p h0 h1, wrap64_in (n := (Lib.bitLen y.toNat : Int)) ⟨by omega, by omega⟩, wrap64_in ⟨by omega, by omega⟩, hs]
  omega
set_option maxHeartbeats 4000000 in
set_option maxRecDepth 100000 in
/-- bits.Len64: "Len64 returns the minimum number of bits required to represent x; the result is 0 for x == 0.": IT RETURNS 'Lib.bitLen x'; the world is as it was. ('h0', 'h1': x is a uint64.) -/
theorem len64_any (x : Int) (w : World) (h0 : 0 ≤ x) (h1 : x ≤ 18446744073709551615) :
    Calls Try.prog 81 #[.int .u64 x] w fun e w' => e = .returned (.int .i64 (Lib.bitLen x.toNat)) ∧ w' = w := by
  have hts : Lib.len8tab.size = 256 := by kernel_rfl
  go_enter Try.func81, Try.ntmps81
  go_wp2
  all_goals (go_ret; refine ⟨congrArg Ending.returned (congrArg (Value.int IntKind.i64) ?_), rfl⟩)
  · exact len_close 56 56 x _ _ _ (Lib.bitLen_shift56 x.toNat (by omega) (by omega)) (by omega) (by omega) (by omega) (by omega) (by omega)
  · exact len_close 48 48 x _ _ _ (Lib.bitLen_shift48 x.toNat (by omega) (by omega)) (by omega) (by omega) (by omega) (by omega) (by omega)
  · exact len_close 40 40 x _ _ _ (Lib.bitLen_shift40 x.toNat (by omega) (by omega)) (by omega) (by omega) (by omega) (by omega) (by omega)
  · exact len_close 32 32 x _ _ _ (Lib.bitLen_shift32 x.toNat (by omega) (by omega)) (by omega) (by omega) (by omega) (by omega) (by omega)
  · exact len_close 24 24 x _ _ _ (Lib.bitLen_shift24 x.toNat (by omega) (by omega)) (by omega) (by omega) (by omega) (by omega) (by omega)
  · exact len_close 16 16 x _ _ _ (Lib.bitLen_shift16 x.toNat (by omega) (by omega)) (by omega) (by omega) (by omega) (by omega) (by omega)
  · exact len_close 8 8 x _ _ _ (Lib.bitLen_shift8 x.toNat (by omega) (by omega)) (by omega) (by omega) (by omega) (by omega) (by omega)
  · have := len_tab x (by omega) (by omega) (by omega)
    rw [this]; have l := Lib.bitLen_le8' x (by omega) (by omega)
    rw [wrap64_in (n := (Lib.bitLen x.toNat : Int)) ⟨by omega, by omega⟩, wrap64_in ⟨by omega, by omega⟩]

theorem bitLen_sz (m : Nat) (h : m < 18446744073709551616) : (Lib.bitLen m + 7) / 8 = sz m := by
  induction m using Nat.strongRecOn with
  | ind m ih =>
    by_cases h0 : m = 0
    · subst h0; rw [sz_zero]; decide
    · rw [sz_pos h0]
      by_cases h1 : m < 256
      · have e : m / 256 = 0 := by omega
        have l := Lib.bitLen_le8 ⟨m, h1⟩
        have g := Lib.bitLen_half m h0 (by omega)
        simp only at l
        rw [e, sz_zero]; omega
      · have g := Lib.bitLen_shift8 m (by omega) h
        have := ih (m / 256) (by omega) (by omega)
        omega
set_option maxRecDepth 100000 in
theorem size_any (x : Int) (w : World) (h0 : 0 ≤ x) (h1 : x ≤ 18446744073709551615) :
    Calls Try.prog 70 #[.int .u64 x] w fun e w' => e = .returned (.int .i64 (sz x.toNat)) ∧ w = w' := by
  have e := bitLen_sz x.toNat (by omega)
  have l : Lib.bitLen x.toNat ≤ 64 := Lib.bitLen_le _ 64 (Nat.le_refl _) (by omega)
  have c := fun W => len64_any x W h0 h1
  generalize Lib.bitLen x.toNat = n at *
  go_enter Try.func70, Try.ntmps70
  go_wp2_with (go_at_call 81; refine (c _).mono ?_; rintro e w' ⟨rfl, rfl⟩)
  go_ret
  exact ⟨ret_int (by rw [← e]; omega), rfl⟩
end Go.Proofs.Ytfmfmammcjpboaa
