/- A region that draws its order: a load may be taken first if every store that would spoil it waits for it. -/
import Derived.Test.YtkecbghnapjecaaBox
import Derived.OrdersHeld
import Derived.StillTail
import Derived.Deep.RegionHeld3
namespace Go.Proofs.Ytkecbghnapjecaa
open Go.RowKit
set_option linter.unusedVariables false
section
variable {P : Program} {ops : Array Oper} {Q : Exit → Act → World → Prop} {md : Region.Mode} {S : Array Bool → World → Prop}
/-- Whatever comes up next, what is known behind it hangs on what has come up. -/
def wpStage (P : Program) (md : Region.Mode) (ops : Array Oper) (Q : Exit → Act → World → Prop) (S : Array Bool → World → Prop) : Nat → Array Bool → Act → World → Prop
  | 0, listed, a, w => Region.ready md ops listed = [] ∧ Q .normal a w
  | fuel + 1, listed, a, w => (Region.ready md ops listed = [] → Q .normal a w) ∧ ∀ i ∈ Region.ready md ops listed, wpOp P ops Q i (fun a' w' => S (listed.setIfInBounds i true) w' ∧ wpStage P md ops Q S fuel (listed.setIfInBounds i true) a' w') a w
theorem wpAny_of_stage : ∀ (fuel : Nat) (listed : Array Bool) (a : Act) (w : World), wpStage P md ops Q S fuel listed a w → wpAny P md ops Q fuel listed a w
  | 0, _, _, _, h => h
  | fuel + 1, _, _, _, h => ⟨h.1, fun i hi => wpOp_mono (fun a' w' h' => wpAny_of_stage fuel _ a' w' h'.2) (h.2 i hi)⟩
/-- No one that waits for i has come up. -/
def Waits (md : Region.Mode) (ops : Array Oper) (i : Nat) (listed : Array Bool) : Prop := ∀ j oj, ops[j]? = some oj → listed.getD j false = true → ∀ e ∈ oj.after, Region.binds md e = true → e.on ≠ i
theorem stage_first {i : Nat} {oi : Oper} {v : Value} {T : World → Prop} (hi : ops[i]? = some oi) (hsel : ∀ (j : Nat) (o : Oper) cs b, ops[j]? = some o → o.op ≠ .select cs b)
    (hQ : ∀ c a w, Q (.panic c) (a.put oi.dst v) w → Q (.panic c) a w) (hT : ∀ L w, Waits md ops i L → S L w → T w) (hD : ∀ L w, S (L.setIfInBounds i true) w → S L w) :
    ∀ (fuel : Nat) (listed : Array Bool) (a : Act) (w : World),
      (∀ j oj, ops[j]? = some oj → j ≠ i → listed.getD j true = false → (∀ e ∈ oj.after, Region.binds md e = true → e.on ≠ i) → oi.apart ops oj = true) →
      Waits md ops i (listed.setIfInBounds i true) → i ∈ Region.ready md ops listed → YieldsIf P ops T oi v a → T w → S (listed.setIfInBounds i true) w →
      wpStage P md ops Q S fuel (listed.setIfInBounds i true) (a.put oi.dst v) w → wpStage P md ops Q S (fuel + 1) listed a w := by
  intro fuel
  induction fuel with
  | zero =>
    intro listed a w _ _ hr hy hw hS H
    refine ⟨fun h => (by rw [h] at hr; cases hr), fun j hj => ?_⟩
    by_cases hji : j = i
    · subst hji; exact hy.wpOp hi hw ⟨hS, H⟩
    · have := ready_mono hj hji
      rw [H.1] at this
      cases this
  | succ fuel ih =>
    intro listed a w hfree hW hr hy hw hS H
    refine ⟨fun h => (by rw [h] at hr; cases hr), fun j hj => ?_⟩
    by_cases hji : j = i
    · subst hji; exact hy.wpOp hi hw ⟨hS, H⟩
    · have h1 := H.2 j (ready_mono hj hji)
      obtain ⟨hjun, oj, hoj, hall⟩ := mem_ready.1 hj
      have hun : listed.getD i true = false := (mem_ready.1 hr).1
      have hnot : ∀ e ∈ oj.after, Region.binds md e = true → e.on ≠ i := fun e he hb heq => by
        have h2 := hall e he hb
        rw [heq] at h2
        rcases Nat.lt_or_ge i listed.size with h' | h'
        · simp [h'] at hun h2; rw [hun] at h2; cases h2
        · simp [Array.getElem?_eq_none h'] at h2
      have h2 := wpOp_putIf hoj (hfree j oj hoj hji hjun hnot) (fun cs b => hsel i oi cs b hi) (fun cs b => hsel j oj cs b hoj) hQ hy h1
      have hfree' : ∀ k ok, ops[k]? = some ok → k ≠ i → (listed.setIfInBounds j true).getD k true = false →
          (∀ e ∈ ok.after, Region.binds md e = true → e.on ≠ i) → oi.apart ops ok = true := fun k ok hk hki hun2 hno => by
        refine hfree k ok hk hki ?_ hno
        by_cases hjk : j = k
        · subst hjk; exact hjun
        · rw [getD_set_ne true hjk] at hun2; exact hun2
      have hW' : Waits md ops i ((listed.setIfInBounds i true).setIfInBounds j true) := fun k ok hk hl e he hb => by
        by_cases hjk : j = k
        · subst hjk
          obtain rfl : oj = ok := Option.some.inj (hoj.symm.trans hk)
          exact hnot e he hb
        · rw [getD_set_ne false hjk] at hl
          exact hW k ok hk hl e he hb
      have hcomm := Array.setIfInBounds_comm (xs := listed) true true (Ne.symm hji)
      refine wpOp_mono (fun a' w' h3 => ⟨hD _ _ (by rw [← hcomm]; exact h3.2.1), ih (listed.setIfInBounds j true) a' w' hfree' ?_ (ready_mono hr (Ne.symm hji)) h3.1 (hT _ _ hW' h3.2.1) ?_ ?_⟩) h2
      · rw [← hcomm]; exact hW'
      · rw [← hcomm]; exact h3.2.1
      · rw [← hcomm]; exact h3.2.2
/-- Take number i first; the side conditions are decided over the text. -/
def waitsB (md : Region.Mode) (ops : Array Oper) (i : Nat) (listed : Array Bool) : Bool := (List.range ops.size).all fun j => !(listed.getD j false) || !(Region.waitsFor md ops j i)
theorem waits_of {i : Nat} {listed : Array Bool} (h : waitsB md ops i listed = true) : Waits md ops i listed := fun j oj hj hl e he hb hei => by
  have hlt : j < ops.size := (Array.getElem?_eq_some_iff.1 hj).1
  have := List.all_eq_true.1 h j (List.mem_range.2 hlt)
  rw [hl] at this
  have hw : Region.waitsFor md ops j i = true := by
    unfold Region.waitsFor
    simp only [hj]
    exact Array.any_eq_true'.2 ⟨e, he, by simp [hb, hei]⟩
  rw [hw] at this
  simp at this
theorem stage_take {i : Nat} {oi : Oper} {v : Value} {T : World → Prop} {fuel : Nat} {listed : Array Bool} {a : Act} {w : World} (hi : ops[i]? = some oi)
    (hs : Region.noSelect ops = true) (hf : Region.free md ops listed i = true) (hr : (Region.ready md ops listed).contains i = true) (hW : waitsB md ops i (listed.setIfInBounds i true) = true)
    (hQ : ∀ c a w, Q (.panic c) (a.put oi.dst v) w → Q (.panic c) a w) (hT : ∀ L w, Waits md ops i L → S L w → T w) (hD : ∀ L w, S (L.setIfInBounds i true) w → S L w)
    (hy : YieldsIf P ops T oi v a) (hw : T w) (hS : S (listed.setIfInBounds i true) w)
    (h : wpStage P md ops Q S fuel (listed.setIfInBounds i true) (a.put oi.dst v) w) : wpStage P md ops Q S (fuel + 1) listed a w :=
  stage_first hi (Region.noSelect_spec hs) hQ hT hD fuel listed a w (Region.free_spec hi hf) (waits_of hW) (by simpa using hr) hy hw hS h
theorem stage_all {rs : List Nat} {fuel : Nat} {listed : Array Bool} {a : Act} {w : World} (hr : Region.ready md ops listed = rs) (hne : rs ≠ [])
    (h : ∀ i ∈ rs, wpOp P ops Q i (fun a' w' => S (listed.setIfInBounds i true) w' ∧ wpStage P md ops Q S fuel (listed.setIfInBounds i true) a' w') a w) : wpStage P md ops Q S (fuel + 1) listed a w :=
  ⟨fun h0 => absurd (hr ▸ h0) hne, hr ▸ h⟩
theorem stage_done {listed : Array Bool} {a : Act} {w : World} (hr : Region.ready md ops listed = []) (h : Q .normal a w) : ∀ fuel, wpStage P md ops Q S fuel listed a w
  | 0 => ⟨hr, h⟩
  | _ + 1 => ⟨fun _ => h, by rw [hr]; simp⟩
theorem stage_begin {id : Nat} {a : Act} {w : World} (hm : P.follows .mixedOrders = true) (h : wpStage P .any ops Q S ops.size (Array.replicate ops.size false) a w.drew) : (Code.region id ops true).wp P Q a w :=
  wp_region_any hm (wpAny_of_stage _ _ _ _ h)
/-- One of those that may come up is carried out. -/
theorem stage_step {i : Nat} {o : Oper} {fuel : Nat} {listed : Array Bool} {a : Act} {w : World} (ho : ops[i]? = some o)
    (h : ∀ K' : Act → World → Prop, Shut (∀ a w, S (listed.setIfInBounds i true) w → wpStage P md ops Q S fuel (listed.setIfInBounds i true) a w → K' a w) → if Region.wanted o (yielded ops a.tmps) = true then Oper.wp P o a w K' Q else K' (a.put o.dst undef) w) :
    wpOp P ops Q i (fun a' w' => S (listed.setIfInBounds i true) w' ∧ wpStage P md ops Q S fuel (listed.setIfInBounds i true) a' w') a w :=
  wpOp_step ho (fun K' hK => h K' (fun a w hS hW => hK a w ⟨hS, hW⟩))
theorem not_yet {i d : Nat} {L : Array Bool} (hW : Waits md ops i L) (h : Region.waitsFor md ops d i = true) : L.getD d false = false := by
  obtain ⟨od, hd, e, he, hb, hei⟩ := Region.waitsFor_spec h
  cases hl : L.getD d false with
  | false => rfl
  | true => exact absurd hei (hW d od hd hl e he hb)
end
end Go.Proofs.Ytkecbghnapjecaa
