/- The laws of layer 2: their helpers; KeycodeAfter. -/
import Derived.Test.YtinkmcbcfdlnjaaEncW
namespace Go.Proofs.Ytinkmcbcfdlnjaa
open Go.RowKit
set_option linter.unusedVariables false
set_option linter.unusedSimpArgs false
theorem encVal_len (x : V) : (encVal x).length = 3 := rfl
theorem num_any (a : Int) (w : World) : Calls Try.prog 12 #[.int .i64 a] w fun e w' => e = .returned (.int .i64 a) ∧ w = w' := by
  go_enter Try.func12, Try.ntmps12
  go_wp2
  go_ret
  exact ⟨rfl, rfl⟩
theorem sz0 : sz 0 = 0 := sz_zero
theorem sz258 : sz 258 = 2 := by rw [sz_pos (by omega), show 258 / 256 = 1 from rfl, sz_pos (by omega), show 1 / 256 = 0 from rfl, sz0]
theorem sz255 : sz 255 = 1 := by rw [sz_pos (by omega), show 255 / 256 = 0 from rfl, sz0]
theorem example_key : encode [⟨1, 0, ⟨#[]⟩⟩, ⟨1, 258, ⟨#[]⟩⟩, ⟨1, -256, ⟨#[]⟩⟩, ⟨3, 0, ⟨#[97]⟩⟩] = ([64, 66, 1, 2, 62, 0, 96, 97, 0], 0) := by
  have e1 : encNum 0 = [64] := by
    rw [encNum, if_pos (by omega), show (0 : Int).toNat = 0 from rfl, sz0]; rfl
  have e2 : encNum 258 = [66, 1, 2] := by
    rw [encNum, if_pos (by omega), show (258 : Int).toNat = 258 from rfl, sz258]; rfl
  have e3 : encNum (-256) = [62, 0] := by
    rw [encNum, if_neg (by omega), show (-(-256 : Int) - 1).toNat = 255 from rfl, sz255]; rfl
  have ha : [(⟨1, 0, ⟨#[]⟩⟩ : V), ⟨1, 258, ⟨#[]⟩⟩, ⟨1, -256, ⟨#[]⟩⟩, ⟨3, 0, ⟨#[97]⟩⟩].all okV = true := by decide +kernel
  have e4 : esc [97] = [97] := by decide +kernel
  unfold encode
  rw [if_neg (by simp), if_pos ha]
  simp [encL, encV, e1, e2, e3, e4]
set_option maxHeartbeats 1000000 in
set_option maxRecDepth 100000 in
theorem alive_any (w : World) : Calls Try.prog 9 #[] w fun e w' => e = .returned (.bool true) ∧ Below w.heap.size w w' := by
  go_enter Try.func9, Try.ntmps9
  go_wp2_with fail
  have c := encode_any (some ⟨w.heap.size, 0, none⟩) 4 [⟨1, 0, ⟨#[]⟩⟩, ⟨1, 258, ⟨#[]⟩⟩, ⟨1, -256, ⟨#[]⟩⟩, ⟨3, 0, ⟨#[97]⟩⟩] _ (RowE.lit (T := 31) (fr := (0, 0)) (cs := #[.int .i64 1, .int .i64 0, .string ⟨#[]⟩, .int .i64 1, .int .i64 258, .string ⟨#[]⟩, .int .i64 1, .int .i64 (-256), .string ⟨#[]⟩, .int .i64 3, .int .i64 0, .string ⟨#[97]⟩]) encVal_len (heap_alloc_new w _) rfl) (by
    intro v hv
    simp at hv
    rcases hv with rfl | rfl | rfl | rfl <;> exact ⟨by decide, by decide⟩)
  rw [example_key] at c
  refine c.mono ?_
  rintro e w1 ⟨rfl, h1⟩
  go_wp2_with (go_at_call 12; refine (num_any _ _).mono ?_; rintro e w' ⟨rfl, rfl⟩)
  go_ret
  exact ⟨ret_bool (by decide +kernel), ((Below.refl _ w).alloc (Nat.le_refl _) _).trans (h1.mono (by simp))⟩
theorem after_any (s : ByteArray) (w : World) (hs : s.size ≤ 140737488351232) : Calls Try.prog 13 #[.string s] w fun e w' => ∃ t : ByteArray, t.toList = s.toList ++ [0] ∧ e = .returned (.string t) ∧ w = w' := by
  go_enter Try.func13, Try.ntmps13
  go_wp2
  go_ret
  refine ⟨_, ?_, rfl, rfl⟩
  rw [ByteArray.toList_eq, ByteArray.toList_eq]
  simp
theorem string_geq (t : TypeId) (a b : ByteArray) : binOp .geq t (.string a) (.string b) = pure (.bool !(Op.bytesLess a.toList b.toList)) := by
  simp only [binOp, Op.stringOp]
attribute [local go_sem] string_geq
set_option maxHeartbeats 1000000 in
set_option maxRecDepth 100000 in
theorem keyAfter_any (s t : ByteArray) (w : World) (hs : s.size ≤ 140737488351232) : Calls Try.prog 6 #[.string s, .string t] w fun e w' => e = .returned (.bool true) ∧ Below w.heap.size w w' := by
  go_enter Try.func6, Try.ntmps6
  go_wp2_with fail
  refine (alive_any _).mono ?_; rintro e w1 ⟨rfl, h1⟩
  go_wp2_with fail
  refine (after_any s _ hs).mono ?_; rintro e w2 ⟨u, hu, rfl, rfl⟩
  have l1 := less_after s.toList
  rw [← hu] at l1
  by_cases hst : Op.bytesLess s.toList t.toList = true
  · have l2 := after_least s.toList t.toList hst
    rw [← hu] at l2
    clear hu
    go_wp2
    all_goals (go_ret; exact ⟨ret_bool (by simp_all), h1⟩)
  · have hst' : Op.bytesLess s.toList t.toList = false := by simpa using hst
    clear hu hst
    go_wp2
    all_goals (go_ret; exact ⟨ret_bool (by simp_all), h1⟩)
end Go.Proofs.Ytinkmcbcfdlnjaa
