/- The laws of layer 2: KeycodeBack. -/
import Derived.Test.YtinkmcbcfdlnjaaDecD
import Derived.Test.YtinkmcbcfdlnjaaOrdW
namespace Go.Proofs.Ytinkmcbcfdlnjaa
open Go.RowKit
set_option linter.unusedVariables false
set_option linter.unusedSimpArgs false
theorem decode_len (s : List UInt8) : (decode s).1.length ≤ 64 := by
  unfold decode
  split
  · simp
  · split
    · assumption
    · simp
theorem enc_len {l : List V} (h : ∀ v ∈ l, InR v.n) : (encode l).1.length ≤ 12800 := by
  unfold encode
  split
  · simp
  · split
    · rename_i q g
      have := encL_len l h (fun x hx => by have := List.all_eq_true.1 g x hx; simpa [okV] using this)
      simp only; omega
    · simp
theorem same_refl : ∀ l : List V, sameL l l = true
  | [] => rfl
  | v :: l => by
    show (v.same v && sameL l l) = true
    rw [same_refl l, Bool.and_true]
    simp [V.same, sameB]
set_option maxHeartbeats 2000000 in
set_option maxRecDepth 100000 in
theorem keyBack_any (A : Option Addr) (c : Nat) (l : List V) (s : ByteArray) (w : World) (HA : RowE encVal 3 w A l) (hl : l.length ≤ 140737488355328) (hok : ∀ v ∈ l, InR v.n) (hs : s.size ≤ 1048576) :
    Calls Try.prog 8 #[.slice A l.length c, .string s] w fun e w' => e = .returned (.bool true) ∧ Below w.heap.size w w' := by
  have HF := Below.refl w.heap.size w
  go_enter Try.func8, Try.ntmps8
  go_wp2_with fail
  refine (alive_any _).mono ?_; rintro e w1 ⟨rfl, h⟩
  replace HF := below_step HF h
  replace HA := HA.below h
  clear h
  go_wp2_with fail
  refine (encode_any A c l w1 HA hok).mono ?_; rintro e w2 ⟨rfl, h⟩
  replace HF := below_step HF h
  replace HA := HA.below h
  clear h
  by_cases he : (encode l).2 = 0
  · have hon := decode_on hok he
    have hsz : (tx (encode l).1).size ≤ 1048576 := by rw [tx_size]; have := enc_len hok; omega
    have hcd := decode_any (tx (encode l).1) w2 hsz
    rw [tx_list, hon] at hcd
    rw [he]
    have et : (⟨(encode l).1.toArray⟩ : ByteArray) = tx (encode l).1 := rfl
    rw [et]
    clear et hon hsz he
    generalize tx (encode l).1 = a at *
    go_wp2_with (go_at_call 12; refine (num_any _ _).mono ?_; rintro e w' ⟨rfl, rfl⟩)
    refine hcd.mono ?_; rintro e w3 ⟨A3, c3, rfl, hr3, h⟩
    replace HF := below_step HF h
    replace HA := HA.below h
    clear h hcd
    have hcs := sameRow_any A3 A c3 c l l w3 hr3 HA hl hl
    rw [same_refl] at hcs
    go_wp2_with (go_at_call 12; refine (num_any _ _).mono ?_; rintro e w' ⟨rfl, rfl⟩)
    refine hcs.mono ?_; rintro e w4 ⟨rfl, h⟩
    replace HF := below_step HF h
    replace HA := HA.below h
    clear h hcs hr3
    go_wp2_with fail
    refine (decode_any s w4 hs).mono ?_; rintro e w5 ⟨A5, c5, rfl, hr5, h⟩
    replace HF := below_step HF h
    clear h HA
    have hm := decode_len s.toList
    by_cases hf : (decode s.toList).2 = 0
    · obtain ⟨hin, henc⟩ := decode_of hf decL_err
      rw [hf]
      generalize (decode s.toList).1 = m at *
      have HS := Lib.hid henc
      clear hf henc
      have hce := encode_any A5 c5 m w5 hr5 hin
      rw [HS.out] at hce
      have e3 : (⟨(s.toList).toArray⟩ : ByteArray) = s := tx_of s
      simp only [e3] at hce
      clear e3
      go_wp2_with (go_at_call 12; refine (num_any _ _).mono ?_; rintro e w' ⟨rfl, rfl⟩)
      refine hce.mono ?_; rintro e w6 ⟨rfl, h⟩
      replace HF := below_step HF h
      clear h
      go_wp2_with (go_at_call 12; refine (num_any _ _).mono ?_; rintro e w' ⟨rfl, rfl⟩)
      go_ret
      exact ⟨ret_bool (by simp), HF⟩
    · have hnil := decode_err hf
      rw [hnil] at hr5 ⊢
      generalize (decode s.toList).2 = q at *
      go_wp2_with (go_at_call 12; refine (num_any _ _).mono ?_; rintro e w' ⟨rfl, rfl⟩)
      go_ret
      exact ⟨ret_bool (by simp), HF⟩
  · generalize hq : (encode l).2 = q at *
    clear hq
    generalize (⟨(encode l).1.toArray⟩ : ByteArray) = a at *
    go_wp2_with (go_at_call 12; refine (num_any _ _).mono ?_; rintro e w' ⟨rfl, rfl⟩)
    refine (decode_any s w2 hs).mono ?_; rintro e w5 ⟨A5, c5, rfl, hr5, h⟩
    replace HF := below_step HF h
    clear h HA
    have hm := decode_len s.toList
    by_cases hf : (decode s.toList).2 = 0
    · obtain ⟨hin, henc⟩ := decode_of hf decL_err
      rw [hf]
      generalize (decode s.toList).1 = m at *
      have HS := Lib.hid henc
      clear hf henc
      have hce := encode_any A5 c5 m w5 hr5 hin
      rw [HS.out] at hce
      have e3 : (⟨(s.toList).toArray⟩ : ByteArray) = s := tx_of s
      simp only [e3] at hce
      clear e3
      go_wp2_with (go_at_call 12; refine (num_any _ _).mono ?_; rintro e w' ⟨rfl, rfl⟩)
      refine hce.mono ?_; rintro e w6 ⟨rfl, h⟩
      replace HF := below_step HF h
      clear h
      go_wp2_with (go_at_call 12; refine (num_any _ _).mono ?_; rintro e w' ⟨rfl, rfl⟩)
      go_ret
      exact ⟨ret_bool (by simp), HF⟩
    · have hnil := decode_err hf
      rw [hnil] at hr5 ⊢
      generalize (decode s.toList).2 = q at *
      go_wp2_with (go_at_call 12; refine (num_any _ _).mono ?_; rintro e w' ⟨rfl, rfl⟩)
      go_ret
      exact ⟨ret_bool (by simp), HF⟩
end Go.Proofs.Ytinkmcbcfdlnjaa
