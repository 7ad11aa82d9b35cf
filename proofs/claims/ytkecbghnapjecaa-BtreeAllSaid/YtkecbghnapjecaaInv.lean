/- A region that draws its order, walked once for each of its operations: what is known of each result holds in whatever order they come. -/
import Derived.Test.YtkecbghnapjecaaStage
namespace Go.Proofs.Ytkecbghnapjecaa
open Go.RowKit
set_option linter.unusedVariables false
def upd {α : Type} (f : Nat → α) (i : Nat) (v : α) : Nat → α := fun j => if j = i then v else f j
theorem upd_same {α : Type} (f : Nat → α) (i : Nat) (v : α) : upd f i v i = v := by simp [upd]
theorem upd_other {α : Type} {f : Nat → α} {i j : Nat} {v : α} (h : j ≠ i) : upd f i v j = f j := by simp [upd, h]
theorem upd_ap {α : Type} (f : Nat → α) (i : Nat) (v : α) (j : Nat) : upd f i v j = if j = i then v else f j := rfl
/-- The results laid into their slots. -/
def putTs (ts : Nat → Value) : List (Option Nat) → Nat → Act → Act
  | [], _, a => a
  | d :: ds, n, a => putTs ts ds (n + 1) (a.put d (ts n))
section
variable {P : Program} {ops : Array Oper} {Q : Exit → Act → World → Prop} {md : Region.Mode}
theorem wpAny_succ : ∀ (fuel : Nat) (L : Array Bool) (a : Act) (w : World), wpAny P md ops Q fuel L a w → wpAny P md ops Q (fuel + 1) L a w
  | 0, L, a, w, h => ⟨fun _ => h.2, by rw [h.1]; simp⟩
  | fuel + 1, L, a, w, h => ⟨h.1, fun i hi => wpOp_mono (fun a' w' h' => wpAny_succ fuel _ a' w' h') (h.2 i hi)⟩
theorem wpAny_le {m : Nat} {L : Array Bool} {a : Act} {w : World} (h : wpAny P md ops Q m L a w) : ∀ (d : Nat), wpAny P md ops Q (m + d) L a w
  | 0 => h
  | d + 1 => wpAny_succ _ _ _ _ (wpAny_le h d)
theorem ready_waits {L : Array Bool} {i : Nat} (h : i ∈ Region.ready md ops L) : L.getD i true = false ∧ ∀ j, Region.waitsFor md ops i j = true → L.getD j false = true := by
  obtain ⟨h1, o, ho, h2⟩ := mem_ready.1 h
  refine ⟨h1, fun j hj => ?_⟩
  obtain ⟨o', ho', e, he, hb, rfl⟩ := Region.waitsFor_spec hj
  obtain rfl : o = o' := Option.some.inj (ho.symm.trans ho')
  exact h2 e he hb
theorem ready_of {L : Array Bool} {i : Nat} (hi : i < ops.size) (h0 : L.getD i true = false) (h : ∀ j, Region.waitsFor md ops i j = true → L.getD j false = true) : i ∈ Region.ready md ops L := by
  refine mem_ready.2 ⟨h0, ops[i], Array.getElem?_eq_getElem hi, fun e he hb => h e.on ?_⟩
  unfold Region.waitsFor
  rw [Array.getElem?_eq_getElem hi]
  exact Array.any_eq_true'.2 ⟨e, he, by simp [hb]⟩
theorem count_set {L : Array Bool} {i : Nat} (h : L.getD i true = false) : (L.setIfInBounds i true).toList.count false + 1 = L.toList.count false := by
  have hlt : i < L.size := by
    rcases Nat.lt_or_ge i L.size with h' | h'
    · exact h'
    · simp [Array.getD, Nat.not_lt.2 h'] at h
  have hv : L.toList[i] = false := by simpa [Array.getD, hlt] using h
  have hpos : 0 < L.toList.count false := List.count_pos_iff.2 (hv ▸ List.getElem_mem (by simpa using hlt))
  rw [Array.toList_setIfInBounds, List.count_set (by simpa using hlt), hv]
  simp only [beq_self_eq_true, if_true, beq_iff_eq, Bool.true_eq_false, if_false]
  omega
theorem getD_set_same (L : Array Bool) {i : Nat} (d : Bool) (h : i < L.size) : (L.setIfInBounds i true).getD i d = true := by simp [Array.getD, h]
/-- Those that must have come, some steps back. -/
def closeB (md : Region.Mode) (ops : Array Oper) : Nat → List Nat → List Nat
  | 0, s => s
  | f + 1, s => closeB md ops f (s ++ (List.range ops.size).filter fun j => !(s.contains j) && s.any fun i => Region.waitsFor md ops i j)
theorem closeB_spec {L : Array Bool} (hcl : ∀ i j, L.getD i false = true → Region.waitsFor md ops i j = true → L.getD j false = true) {i0 : Nat} (h0 : ∀ j, Region.waitsFor md ops i0 j = true → L.getD j false = true) :
    ∀ (f : Nat) (s : List Nat), (∀ x ∈ s, x = i0 ∨ L.getD x false = true) → ∀ x ∈ closeB md ops f s, x = i0 ∨ L.getD x false = true
  | 0, s, hs, x, hx => hs x hx
  | f + 1, s, hs, x, hx => by
    refine closeB_spec hcl h0 f _ (fun y hy => ?_) x hx
    rcases List.mem_append.1 hy with hy | hy
    · exact hs y hy
    · have h1 := (List.mem_filter.1 hy).2
      simp only [Bool.and_eq_true, List.any_eq_true] at h1
      obtain ⟨_, z, hz, hw⟩ := h1
      rcases hs z hz with rfl | h2
      · exact .inr (h0 y hw)
      · exact .inr (hcl z y h2 hw)
/-- The first k operations, in whatever order; then what is left. -/
theorem inv_go {k m d : Nat} {ds : List (Option Nat)} {cs : List (Option Value)} {V : (Nat → Bool) → (Nat → Value) → World → Prop} {a0 : Act} (hk : k ≤ ops.size)
    (hlex : ∀ i, i < k → ∀ j, Region.waitsFor md ops i j = true → j < i)
    (hph : ∀ i, k ≤ i → i < ops.size → ∀ j, j < k → j ∈ closeB md ops d [i])
    (hm : ops.size - k = m)
    (hstep : ∀ i, i < k → ∀ (l : Nat → Bool) (ts : Nat → Value) (w : World), l i = false → (∀ j, Region.waitsFor md ops i j = true → l j = true) → (∀ j v, cs[j]? = some (some v) → l j = true → ts j = v) → V l ts w →
      wpOp P ops Q i (fun a' w' => ∃ v, a' = putTs (upd ts i v) ds 0 a0 ∧ (∀ c, cs[i]? = some (some c) → v = c) ∧ V (upd l i true) (upd ts i v) w') (putTs ts ds 0 a0) w)
    (hfin : ∀ (ts : Nat → Value) (w : World), (∀ j v, j < k → cs[j]? = some (some v) → ts j = v) → V (fun j => decide (j < k)) ts w → wpAny P md ops Q m ((Array.replicate k true) ++ Array.replicate (ops.size - k) false) (putTs ts ds 0 a0) w) :
    ∀ (fuel : Nat) (L : Array Bool) (ts : Nat → Value) (w : World), L.size = ops.size → (∀ j, k ≤ j → L.getD j false = false) → L.toList.count false ≤ fuel → (∀ i j, L.getD i false = true → Region.waitsFor md ops i j = true → L.getD j false = true) →
      (∀ j v, cs[j]? = some (some v) → L.getD j false = true → ts j = v) → V (fun j => L.getD j false) ts w → wpAny P md ops Q fuel L (putTs ts ds 0 a0) w := by
  have hfull : ∀ L : Array Bool, L.size = ops.size → (∀ j, k ≤ j → L.getD j false = false) → (∀ j, j < k → L.getD j false = true) → L = (Array.replicate k true) ++ Array.replicate (ops.size - k) false := by
    intro L hs h1 h2
    apply Array.ext
    · simp [hs]; omega
    · intro j hj hj'
      rw [Array.getElem_append]
      split
      · rename_i hjk
        simp at hjk
        have := h2 j hjk
        simpa [Array.getD, hj] using this
      · rename_i hjk
        simp at hjk
        have := h1 j hjk
        simpa [Array.getD, hj] using this
  have hprog : ∀ L : Array Bool, L.size = ops.size → Region.ready md ops L = [] → ∀ n, n ≤ k → ∀ j, j < n → L.getD j false = true := by
    intro L hs hr n
    induction n with
    | zero => intro _ j hj; omega
    | succ n ih =>
      intro hn j hj
      rcases Nat.lt_or_ge j n with h | h
      · exact ih (by omega) j h
      · obtain rfl : j = n := by omega
        cases hl : L.getD j false with
        | true => rfl
        | false =>
          have hjs : j < L.size := by omega
          have hmem : j ∈ Region.ready md ops L := ready_of (by omega) (by simpa [Array.getD, hjs] using hl) (fun q hq => ih (by omega) q (hlex j (by omega) q hq))
          rw [hr] at hmem
          cases hmem
  intro fuel
  induction fuel with
  | zero =>
    intro L ts w hs h1 hc hcl hts hV
    have hall : ∀ j, j < ops.size → L.getD j false = true := by
      intro j hj
      cases hl : L.getD j false with
      | true => rfl
      | false =>
        exfalso
        have hjs : j < L.size := by omega
        have hm : false ∈ L.toList := by
          have : L.toList[j]'(by simpa using hjs) = false := by simpa [Array.getD, hjs] using hl
          exact this ▸ List.getElem_mem _
        have := List.count_pos_iff.2 hm
        omega
    have hkn : k = ops.size := by
      rcases Nat.lt_or_ge k ops.size with h | h
      · have := hall k h; rw [h1 k (Nat.le_refl _)] at this; cases this
      · omega
    have hL := hfull L hs h1 (fun j hj => hall j (by omega))
    have := hfin ts w (fun j v hj hv => hts j v hv (hall j (by omega))) (by
      have e : (fun j => decide (j < k)) = fun j => L.getD j false := by
        funext j
        rcases Nat.lt_or_ge j k with h | h
        · rw [hall j (by omega)]; simpa using h
        · rw [h1 j h]; simpa using h
      rw [e]; exact hV)
    rw [← hL] at this
    have hm0 : m = 0 := by omega
    rw [hm0] at this
    exact this
  | succ fuel ih =>
    intro L ts w hs h1 hc hcl hts hV
    by_cases hF : ∀ j, j < k → L.getD j false = true
    · have hL := hfull L hs h1 hF
      have := hfin ts w (fun j v hj hv => hts j v hv (hF j hj)) (by
        have e : (fun j => decide (j < k)) = fun j => L.getD j false := by
          funext j
          rcases Nat.lt_or_ge j k with h | h
          · rw [hF j h]; simpa using h
          · rw [h1 j h]; simpa using h
        rw [e]; exact hV)
      rw [← hL] at this
      have hcm : L.toList.count false = m := by
        rw [hL, Array.toList_append, List.count_append]
        simp [hm, List.count_replicate]
      have hle : m ≤ fuel + 1 := by omega
      have := wpAny_le this (fuel + 1 - m)
      rwa [show m + (fuel + 1 - m) = fuel + 1 by omega] at this
    · refine ⟨fun hr => absurd (fun j hj => hprog L hs hr k (Nat.le_refl _) j hj) hF, fun i hi => ?_⟩
      obtain ⟨hi0, hiw⟩ := ready_waits hi
      have his : i < L.size := by
        rcases Nat.lt_or_ge i L.size with h' | h'
        · exact h'
        · simp [Array.getD, Nat.not_lt.2 h'] at hi0
      have hik : i < k := by
        rcases Nat.lt_or_ge i k with h | h
        · exact h
        · refine absurd (fun j hj => ?_) hF
          rcases closeB_spec hcl hiw d [i] (fun x hx => .inl (by simpa using hx)) j (hph i h (by omega) j hj) with rfl | h2
          · omega
          · exact h2
      have hi0' : L.getD i false = false := by simpa [Array.getD, his] using hi0
      refine wpOp_mono ?_ (hstep i hik (fun j => L.getD j false) ts w hi0' hiw hts hV)
      rintro a' w' ⟨v, rfl, hv, hV'⟩
      have eL : (fun j => (L.setIfInBounds i true).getD j false) = upd (fun j => L.getD j false) i true := by
        funext j
        by_cases hji : j = i
        · subst hji; rw [upd_same, getD_set_same _ _ his]
        · rw [upd_other hji, getD_set_ne false (fun e => hji e.symm)]
      refine ih (L.setIfInBounds i true) (upd ts i v) w' (by simpa using hs) (fun j hj => by rw [getD_set_ne false (by omega)]; exact h1 j hj) (by have := count_set hi0; omega) ?_ ?_ (by rw [eL]; exact hV')
      · intro a b ha hw
        by_cases hb : b = i
        · subst hb; exact getD_set_same _ _ his
        · rw [getD_set_ne false (fun e => hb e.symm)]
          by_cases hai : a = i
          · subst hai; exact hiw b hw
          · rw [getD_set_ne false (fun e => hai e.symm)] at ha
            exact hcl a b ha hw
      intro j c hc' hl
      by_cases hji : j = i
      · subst hji; rw [upd_same]; exact hv c hc'
      · rw [upd_other hji]
        rw [getD_set_ne false (fun e => hji e.symm)] at hl
        exact hts j c hc' hl
theorem inv_begin {id k m : Nat} (d : Nat) (ds : List (Option Nat)) (cs : List (Option Value)) (V : (Nat → Bool) → (Nat → Value) → World → Prop) (ts0 : Nat → Value) {a0 : Act} {w0 : World} (hmo : P.follows .mixedOrders = true) (hk : k ≤ ops.size)
    (hlex : (List.range k).all (fun i => (List.range ops.size).all fun j => !(Region.waitsFor .any ops i j) || decide (j < i)) = true)
    (hcl : (List.range k).all (fun i => match ops[i]? with | some o => o.after.all (fun e => decide (e.on < ops.size)) | none => true) = true)
    (hph : (List.range ops.size).all (fun i => decide (i < k) || (let s := closeB .any ops d [i]; (List.range k).all fun j => s.contains j)) = true)
    (hm : ops.size - k = m) (ha : putTs ts0 ds 0 a0 = a0) (hV : V (fun _ => false) ts0 w0.drew)
    (hstep : ∀ i, i < k → ∀ (l : Nat → Bool) (ts : Nat → Value) (w : World), l i = false → (∀ j, Region.waitsFor .any ops i j = true → l j = true) → (∀ j v, cs[j]? = some (some v) → l j = true → ts j = v) → V l ts w →
      wpOp P ops Q i (fun a' w' => ∃ v, a' = putTs (upd ts i v) ds 0 a0 ∧ (∀ c, cs[i]? = some (some c) → v = c) ∧ V (upd l i true) (upd ts i v) w') (putTs ts ds 0 a0) w)
    (hfin : ∀ (ts : Nat → Value) (w : World), (∀ j v, j < k → cs[j]? = some (some v) → ts j = v) → V (fun j => decide (j < k)) ts w → wpAny P .any ops Q m ((Array.replicate k true) ++ Array.replicate (ops.size - k) false) (putTs ts ds 0 a0) w) :
    (Code.region id ops true).wp P Q a0 w0 := by
  refine wp_region_any hmo ?_
  have hg : ∀ j, (Array.replicate ops.size false).getD j false = false := fun j => by
    simp only [Array.getD]
    split <;> simp
  have := inv_go (P := P) (Q := Q) (d := d) (ds := ds) (cs := cs) (V := V) (a0 := a0) hk
    (fun i hi j hj => by
      have h1 := List.all_eq_true.1 hlex i (List.mem_range.2 hi)
      have hjn : j < ops.size := by
        obtain ⟨o, ho, e, he, hb, rfl⟩ := Region.waitsFor_spec hj
        have h2 := List.all_eq_true.1 hcl i (List.mem_range.2 hi)
        rw [ho] at h2
        simpa using Array.all_eq_true'.1 h2 e he
      have h3 := List.all_eq_true.1 h1 j (List.mem_range.2 hjn)
      rw [hj] at h3
      simpa using h3)
    (fun i hki hi j hj => by
      have h1 := List.all_eq_true.1 hph i (List.mem_range.2 hi)
      rw [show decide (i < k) = false by simpa using hki, Bool.false_or] at h1
      simpa using List.all_eq_true.1 h1 j (List.mem_range.2 hj))
    hm hstep hfin ops.size (Array.replicate ops.size false) ts0 w0.drew (by simp) (fun j _ => hg j) (by simp) (fun i j hi => by rw [hg] at hi; cases hi) (fun j v _ hl => by rw [hg] at hl; cases hl) (by
      have e : (fun j => (Array.replicate ops.size false).getD j false) = fun _ => false := funext hg
      rw [e]; exact hV)
  rwa [ha] at this
/-- One of them. -/
theorem inv_step {i : Nat} {o : Oper} {ds : List (Option Nat)} {cs : List (Option Value)} {V : (Nat → Bool) → (Nat → Value) → World → Prop} {a0 a : Act} {w : World} {l : Nat → Bool} {ts : Nat → Value} (ho : ops[i]? = some o)
    (h : ∀ K' : Act → World → Prop, (∀ v w', (∀ c, cs[i]? = some (some c) → v = c) → V (upd l i true) (upd ts i v) w' → K' (putTs (upd ts i v) ds 0 a0) w') → if Region.wanted o (yielded ops a.tmps) = true then Oper.wp P o a w K' Q else K' (a.put o.dst undef) w) :
    wpOp P ops Q i (fun a' w' => ∃ v, a' = putTs (upd ts i v) ds 0 a0 ∧ (∀ c, cs[i]? = some (some c) → v = c) ∧ V (upd l i true) (upd ts i v) w') a w :=
  wpOp_step ho (fun K' hK => h K' (fun v w' h1 h2 => hK _ _ ⟨v, rfl, h1, h2⟩))
/-- What follows the first k. -/
theorem any_stage {fuel : Nat} {L : Array Bool} {a : Act} {w : World} (h : wpStage P md ops Q (fun _ _ => True) fuel L a w) : wpAny P md ops Q fuel L a w := wpAny_of_stage _ _ _ _ h
end
end Go.Proofs.Ytkecbghnapjecaa
