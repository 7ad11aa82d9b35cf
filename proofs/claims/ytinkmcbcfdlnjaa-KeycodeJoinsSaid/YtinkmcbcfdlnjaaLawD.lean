/- The laws of layer 2: KeycodeOrder. -/
import Derived.Test.YtinkmcbcfdlnjaaOrdW
namespace Go.Proofs.Ytinkmcbcfdlnjaa
open Go.RowKit
set_option linter.unusedVariables false
set_option linter.unusedSimpArgs false
set_option maxHeartbeats 2000000 in
set_option maxRecDepth 100000 in
theorem keyOrder_any (A B : Option Addr) (c d : Nat) (l m : List V) (w : World) (HA : RowE encVal 3 w A l) (HM : RowE encVal 3 w B m) (hl : l.length ≤ 140737488355328) (hm : m.length ≤ 140737488355328) (hok : ∀ v ∈ l, InR v.n) (hom : ∀ v ∈ m, InR v.n) :
    Calls Try.prog 7 #[.slice A l.length c, .slice B m.length d] w fun e w' => e = .returned (.bool true) ∧ Below w.heap.size w w' := by
  have HF := Below.refl w.heap.size w
  go_enter Try.func7, Try.ntmps7
  go_wp2_with fail
  refine (alive_any _).mono ?_; rintro e w1 ⟨rfl, h⟩
  replace HF := below_step HF h
  replace HA := HA.below h
  replace HM := HM.below h
  clear h
  go_wp2_with fail
  refine (encode_any A c l w1 HA hok).mono ?_; rintro e w2 ⟨rfl, h⟩
  replace HF := below_step HF h
  replace HA := HA.below h
  replace HM := HM.below h
  clear h
  go_wp2_with fail
  refine (encode_any B d m w2 HM hom).mono ?_; rintro e w3 ⟨rfl, h⟩
  replace HF := below_step HF h
  replace HA := HA.below h
  replace HM := HM.below h
  clear h
  obtain ⟨ta, hta, htl, hts⟩ := text_of (encode l).1
  obtain ⟨tb, htb, htl2, hts2⟩ := text_of (encode m).1
  rw [hta, htb]
  have HE1 : Hid (∀ h : (encode l).2 = 0, (∀ v ∈ l, vcheck v = 0) ∧ ta.toList = encL l) := Lib.hid (fun h => by
    obtain ⟨_, hv, he⟩ := encode_ok h
    exact ⟨hv, by rw [htl, he]⟩)
  have HE2 : Hid (∀ h : (encode m).2 = 0, (∀ v ∈ m, vcheck v = 0) ∧ tb.toList = encL m) := Lib.hid (fun h => by
    obtain ⟨_, hv, he⟩ := encode_ok h
    exact ⟨hv, by rw [htl2, he]⟩)
  have HN1 : Hid (∀ h : ¬ (encode l).2 = 0, ta.toList = []) := Lib.hid (fun h => by rw [htl, encode_not h])
  have HN2 : Hid (∀ h : ¬ (encode m).2 = 0, tb.toList = []) := Lib.hid (fun h => by rw [htl2, encode_not h])
  clear hta htb htl htl2 hts hts2
  generalize (encode l).2 = ea at *
  generalize (encode m).2 = eb at *
  by_cases ha : ea = 0
  · by_cases hb : eb = 0
    · subst ha hb
      obtain ⟨va, la⟩ := HE1.out rfl
      obtain ⟨vb, lb⟩ := HE2.out rfl
      obtain ⟨P1, P2⟩ := key_order l m (fun v hv => ⟨hok v hv, va v hv⟩) (fun v hv => ⟨hom v hv, vb v hv⟩)
      rw [← la, ← lb] at P1 P2
      have hc := less_any A B c d l m w3 HA HM hl hm
      have hsame := fun (W : World) (h : Below w3.heap.size w3 W) => sameRow_any A B c d l m W (HA.below h) (HM.below h) hl hm
      rw [← P1] at hc
      rw [← P2] at hsame
      have HS := Lib.hid hsame
      clear P1 P2 la lb va vb HE1 HE2 HN1 HN2 hsame
      go_wp2_with (first | (go_at_call 12; refine (num_any _ _).mono ?_; rintro e w' ⟨rfl, rfl⟩) | (go_at_call 14; refine hc.mono ?_; rintro e w4 ⟨rfl, h4⟩) | (go_at_call 15; refine (HS.out _ h4).mono ?_; rintro e w5 ⟨rfl, h5⟩))
      all_goals (go_ret; exact ⟨ret_bool (by simp_all), below_step (below_step HF h4) h5⟩)
    · have := HN2.out hb
      go_wp2_with (go_at_call 12; refine (num_any _ _).mono ?_; rintro e w' ⟨rfl, rfl⟩)
      all_goals (go_ret; exact ⟨ret_bool (by simp_all), HF⟩)
  · have := HN1.out ha
    go_wp2_with (go_at_call 12; refine (num_any _ _).mono ?_; rintro e w' ⟨rfl, rfl⟩)
    all_goals (go_ret; exact ⟨ret_bool (by simp_all), HF⟩)
end Go.Proofs.Ytinkmcbcfdlnjaa
