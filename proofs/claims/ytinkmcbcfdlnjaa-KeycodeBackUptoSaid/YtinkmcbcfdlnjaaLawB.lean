/- The laws of layer 2: KeycodeNumbers. -/
import Derived.Test.YtinkmcbcfdlnjaaLawA
namespace Go.Proofs.Ytinkmcbcfdlnjaa
open Go.RowKit
set_option linter.unusedVariables false
set_option linter.unusedSimpArgs false
theorem text_of (l : List UInt8) : ∃ t : ByteArray, (⟨l.toArray⟩ : ByteArray) = t ∧ t.toList = l ∧ t.size = l.length := by
  refine ⟨_, rfl, ?_, rfl⟩
  rw [ByteArray.toList_eq]
theorem encode_one {v : V} (h : vcheck v = 0) : encode [v] = (encV v, 0) := by
  unfold encode
  rw [if_neg (by simp), if_pos (by simp [okV, h])]
  simp [encL]
theorem encode_num (n : Int) : encode [⟨1, n, ⟨#[]⟩⟩] = (encNum n, 0) := by
  rw [encode_one (v := ⟨1, n, ⟨#[]⟩⟩) (by unfold vcheck; simp)]; rfl
set_option maxHeartbeats 1000000 in
set_option maxRecDepth 100000 in
theorem keyNumbers_any (n : Int) (w : World) (hn : InR n) : Calls Try.prog 4 #[.int .i64 n] w fun e w' => e = .returned (.bool true) ∧ Below w.heap.size w w' := by
  have n1 := hn.1; have n2 := hn.2
  go_enter Try.func4, Try.ntmps4
  go_wp2_with fail
  refine (alive_any _).mono ?_; rintro e w1 ⟨rfl, h1⟩
  go_wp2_with fail
  have c := encode_any (some ⟨w1.heap.size, 0, none⟩) 1 [⟨1, n, ⟨#[]⟩⟩] _ (RowE.lit (T := 31) (fr := (0, 0)) (cs := #[.int .i64 1, .int .i64 n, .string ⟨#[]⟩]) encVal_len (heap_alloc_new w1 _) rfl) (by
    intro v hv
    simp at hv
    subst hv; exact hn)
  rw [encode_num] at c
  obtain ⟨ta, hta, htl, hts⟩ := text_of (encNum n)
  dsimp only at c
  rw [hta] at c
  refine c.mono ?_
  rintro e w2 ⟨rfl, h2⟩
  have hb2 : Below w.heap.size w w2 := (h1.alloc h1.size _).trans (h2.mono (by have := h1.size; simp; omega))
  clear c hta h1 h2
  have hl := num_len n hn
  have hs1 : ¬ ((ta.size : Int) < 1) := by omega
  have hs9 : ¬ ((9 : Int) < (ta.size : Int)) := by omega
  by_cases hm : n = 9223372036854775807
  · have h9 : (ta.size : Int) = 9 := by
      rw [hts, hm, num_most]; rfl
    clear hts htl hl
    go_wp2_with (go_at_call 12; refine (num_any _ _).mono ?_; rintro e w' ⟨rfl, rfl⟩)
    all_goals (go_ret; exact ⟨ret_bool (by simp_all), hb2⟩)
  · have c := encode_any (some ⟨w2.heap.size, 0, none⟩) 1 [⟨1, n + 1, ⟨#[]⟩⟩] _ (RowE.lit (T := 31) (fr := (0, 0)) (cs := #[.int .i64 1, .int .i64 (n + 1), .string ⟨#[]⟩]) encVal_len (heap_alloc_new w2 _) rfl) (by
      intro v hv
      simp at hv
      subst hv; exact ⟨by show _ ≤ n + 1; omega, by show n + 1 ≤ _; omega⟩)
    rw [encode_num] at c
    obtain ⟨tb, htb, htl2, hts2⟩ := text_of (encNum (n + 1))
    dsimp only at c
    rw [htb] at c
    have hless : Op.bytesLess ta.toList tb.toList = true := by
      rw [htl, htl2]
      exact (num_dif (by omega) hn ⟨by omega, by omega⟩).less
    clear htb htl htl2 hts hts2 hl
    go_wp2_with (first | (go_at_call 12; refine (num_any _ _).mono ?_; rintro e w' ⟨rfl, rfl⟩) | (go_at_call 10; refine c.mono ?_; rintro e w3 ⟨rfl, h3⟩))
    go_ret
    exact ⟨rfl, (hb2.alloc hb2.size _).trans (h3.mono (by have := hb2.size; simp; omega))⟩
end Go.Proofs.Ytinkmcbcfdlnjaa
