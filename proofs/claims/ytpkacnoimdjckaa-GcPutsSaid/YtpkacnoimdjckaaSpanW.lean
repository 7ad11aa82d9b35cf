/- Package gc: Span. -/
import Derived.Test.YtpkacnoimdjckaaBinW
namespace Go.Proofs.Ytpkacnoimdjckaa
open Go.RowKit
open Go.Shelf
set_option linter.unusedVariables false
set_option linter.unusedSimpArgs false
def inSpan (fr tt k : ByteArray) : Bool := !lt? k fr && (tt.toList == [] || lt? k tt)
set_option maxHeartbeats 4000000 in
set_option maxRecDepth 100000 in
theorem span_any (AK AL : Option Addr) (ck cl nl : Nat) (ks : List ByteArray) (fr tt : ByteArray) (w : World) (HK : RowE encS 1 w AK ks) (hs : Rise ks) (hl : ks.length ≤ 2048) :
    Calls Try.prog 39 #[.agg #[.slice AK ks.length ck, .slice AL nl cl], .string fr, .string tt] w fun e w' => ∃ i k : Nat, e = .returned (.tuple #[.int .i64 i, .int .i64 k]) ∧ i ≤ k ∧ k ≤ ks.length ∧ (∀ (m : Nat) (y : ByteArray), ks[m]? = some y → (inSpan fr tt y = true ↔ i ≤ m ∧ m < k)) ∧ Below w.heap.size w w' := by
  have hb0 : Below w.heap.size w (w.alloc (.cells #[.slice AK ks.length ck, .slice AL nl cl] 28)) := (by (repeat (first | (with_reducible exact Below.refl _ _) | apply below_alloc _ (Nat.le_refl _) | refine below_set ?_ (by first | exact Nat.le_refl _ | omega) | apply below_drewN | refine below_step ?_ HB)))
  have BC := Lib.hid (Box.new w #[.slice AK ks.length ck, .slice AL nl cl] 28)
  have B1 := fun t => bin_any AK ck ks t _ (HK.below hb0) hs hl
  have B2 := Lib.hid (B1 tt)
  have b1 := B1 fr
  have HF := Lib.hid hb0
  clear B1 hb0 HK hs
  go_enter Try.func39, Try.ntmps39
  go_wp2_with fail
  generalize w.alloc (.cells #[.slice AK ks.length ck, .slice AL nl cl] 28) = w0 at *
  refine b1.mono ?_; rintro e w1 ⟨i, ok, rfl, hi, h1, h2, _, rfl⟩
  have H1 := Lib.hid h1
  have H2 := Lib.hid h2
  clear b1 h1 h2
  have cBC0 := BC.out.c 0 _ rfl; have fBC0 := BC.out.f 0 (by simp); have cBC1 := BC.out.c 1 _ rfl; have fBC1 := BC.out.f 1 (by simp); have lBC := BC.out.lt
  cases ht : tt.toList == [] with
  | true =>
    have ht' : tt.toList = [] := by simpa using ht
    have HQ : Hid (∀ (m : Nat) (y : ByteArray), ks[m]? = some y → (inSpan fr tt y = true ↔ i ≤ m ∧ m < ks.length)) := Lib.hid (fun m y hy => by
      unfold inSpan
      rw [ht]
      have hm := lt_of_get hy
      simp only [Bool.true_or, Bool.and_true, Bool.not_eq_true']
      constructor
      · intro h
        refine ⟨?_, hm⟩
        rcases Nat.lt_or_ge m i with q | q
        · rw [H1.out m y q hy] at h; cases h
        · exact q
      · exact fun h => H2.out m y h.1 hy)
    go_wp2_with fail
    go_quiet (fail)
    go_wp2
    go_ret2
    exact ⟨i, ks.length, rfl, hi, Nat.le_refl _, HQ.out, below_drewN HF.out _⟩
  | false =>
    have ht' : ¬ tt.toList = [] := by simpa using ht
    go_wp2_with fail
    refine B2.out.mono ?_; rintro e w2 ⟨k, ok2, rfl, hk, h3, h4, _, rfl⟩
    have HQ : Hid (∀ (m : Nat) (y : ByteArray), ks[m]? = some y → (inSpan fr tt y = true ↔ i ≤ m ∧ m < max i k)) := Lib.hid (fun m y hy => by
      unfold inSpan
      rw [ht]
      simp only [Bool.false_or, Bool.and_eq_true, Bool.not_eq_true']
      constructor
      · rintro ⟨a, b⟩
        have q1 : i ≤ m := by
          rcases Nat.lt_or_ge m i with q | q
          · rw [H1.out m y q hy] at a; cases a
          · exact q
        have q2 : m < k := by
          rcases Nat.lt_or_ge m k with q | q
          · exact q
          · rw [h4 m y q hy] at b; cases b
        exact ⟨q1, by omega⟩
      · rintro ⟨a, b⟩
        exact ⟨H2.out m y a hy, h3 m y (by omega) hy⟩)
    clear h3 h4
    rcases Nat.lt_or_ge i k with q | q
    · have hq : max i k = k := by omega
      rw [hq] at HQ
      have hq2 : max (i : Int) (k : Int) = (k : Int) := by omega
      go_wp2
      go_ret2
      exact ⟨i, k, by first | rfl | simp [hq2], by omega, hk, HQ.out, HF.out⟩
    · have hq : max i k = i := by omega
      rw [hq] at HQ
      have hq2 : max (i : Int) (k : Int) = (i : Int) := by omega
      go_wp2
      go_ret2
      exact ⟨i, i, by first | rfl | simp [hq2], by omega, by omega, HQ.out, HF.out⟩
end Go.Proofs.Ytpkacnoimdjckaa
