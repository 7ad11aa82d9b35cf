/- Chains in blocks from N on. -/
import Derived.Test.YtpkacnoimdjckaaOwnC
namespace Go.Proofs.Ytpkacnoimdjckaa
open Go.RowKit
set_option linter.unusedVariables false
set_option linter.unusedSimpArgs false
def RowLB (N : Nat) (w : World) (A : Option Addr) (ls : List (List Ver)) : Prop :=
  ∀ (i : Nat) (l : List Ver), ls[i]? = some l → ∃ b off v, A = some ⟨b, off, none⟩ ∧ b < w.heap.size ∧ w.cell? ⟨b, off + i, none⟩ = some v ∧ SlB encVer 4 N w v l
theorem RowLB.row {N : Nat} {w : World} {A : Option Addr} {ls : List (List Ver)} (h : RowLB N w A ls) : RowL w A ls := fun i l hi => by
  obtain ⟨b, off, v, hA, hlt, hc, A', c', h1, h2, h3, h4, _⟩ := h i l hi
  exact ⟨b, off, v, hA, hlt, hc, A', c', h1, h2, h3, h4⟩
theorem RowLB.below {N : Nat} {w w1 : World} {A : Option Addr} {ls : List (List Ver)} (h : RowLB N w A ls) (hb : Below w.heap.size w w1) : RowLB N w1 A ls := fun i l hi => by
  obtain ⟨b, off, v, hA, hlt, hc, hs⟩ := h i l hi
  exact ⟨b, off, v, hA, Nat.lt_of_lt_of_le hlt hb.size, (hb.cell (p := ⟨b, off + i, none⟩) hlt).trans hc, hs.below hb⟩
def ChB (N : Nat) (w : World) (v : Value) (ks : List ByteArray) (ls : List (List Ver)) : Prop :=
  ∃ AK AL ck cl, v = .agg #[.slice AK ks.length ck, .slice AL ls.length cl] ∧ RowE encS 1 w AK ks ∧ RowLB N w AL ls ∧ (ks.length ≤ ck ∧ ls.length ≤ cl ∧ (AK = none → ck = 0) ∧ (AL = none → cl = 0)) ∧ (∀ a, AK = some a → N ≤ a.block) ∧ ∀ a, AL = some a → N ≤ a.block
section
variable {N : Nat} {w w1 : World} {v : Value} {ks : List ByteArray} {ls : List (List Ver)}
theorem ChB.below (h : ChB N w v ks ls) (hb : Below w.heap.size w w1) : ChB N w1 v ks ls := by
  obtain ⟨AK, AL, ck, cl, h1, h2, h3, h4, h5, h6⟩ := h
  exact ⟨AK, AL, ck, cl, h1, h2.below hb, h3.below hb, h4, h5, h6⟩
theorem ChB.set (h : ChB N w v ks ls) (p : Addr) (u : Value) (hp : p.block < N) : ChB N (w.setCell p u) v ks ls := by
  obtain ⟨AK, AL, ck, cl, h1, h2, h3, h4, h5, h6⟩ := h
  refine ⟨AK, AL, ck, cl, h1, h2.set h5 p u hp, fun i l hi => ?_, h4, h5, h6⟩
  obtain ⟨b, off, v, rfl, hlt, hc, hs⟩ := h3 i l hi
  have := h6 _ rfl
  exact ⟨b, off, v, rfl, by simpa using hlt, (World.cell?_of_block (heap_setCell_other w p b u (by simp only at this; omega))).trans hc, hs.set p u hp⟩
theorem ChB.alloc (h : ChB N w v ks ls) (o : Obj) : ChB N (w.alloc o) v ks ls := h.below ((Below.refl _ w).alloc (Nat.le_refl _) o)
theorem ChB.mono {M : Nat} (h : ChB N w v ks ls) (hM : M ≤ N) : ChB M w v ks ls := by
  obtain ⟨AK, AL, ck, cl, h1, h2, h3, h4, h5, h6⟩ := h
  refine ⟨AK, AL, ck, cl, h1, h2, fun i l hi => ?_, h4, fun a ha => Nat.le_trans hM (h5 a ha), fun a ha => Nat.le_trans hM (h6 a ha)⟩
  obtain ⟨b, off, v, hA, hlt, hc, hs⟩ := h3 i l hi
  exact ⟨b, off, v, hA, hlt, hc, hs.mono hM⟩
theorem ChB.nil (N : Nat) (w : World) : ChB N w (.agg #[.slice none 0 0, .slice none 0 0]) [] [] :=
  ⟨none, none, 0, 0, rfl, RowE.nil, fun i l h => by simp at h, ⟨Nat.le_refl _, Nat.le_refl _, fun _ => rfl, fun _ => rfl⟩, fun _ h => (by cases h), fun _ h => (by cases h)⟩
theorem OwnC.chb {vk vl : Value} {vs : List Value} (h : OwnC N w vk vl ks ls vs) : ChB N w (.agg #[vk, vl]) ks ls := by
  obtain ⟨AK, ck, rfl, hck, hrk, hnk, hNk⟩ := SlB.of_own (N := N) encS_len (by decide) (Nat.le_refl _) h.ok
  have hlen : vs.length = ls.length := by have := h.ol.1; simpa using this
  obtain ⟨AL, cl, rfl, hcl, hnl⟩ := own_slice h.ol
  refine ⟨AK, AL, ck, cl, rfl, hrk, fun i l hi => ?_, ⟨hck, hcl, hnk, hnl⟩, hNk, fun a ha => (h.ol.lt a.block (by rw [ha]; rfl)).1⟩
  obtain ⟨h0, v, hv, A, c, rfl, h2, h3, h4, h5⟩ := h.el i l hi
  have hil := lt_of_get hi
  obtain ⟨g, c', e, _, hbg, hg⟩ := own_some h.ol (by omega)
  have e2 : AL = some ⟨g, 0, none⟩ := by simpa using (Value.slice.inj e).1
  subst e2
  refine ⟨g, 0, _, rfl, hg, ?_, A, c, rfl, h2, h3, h4, fun a ha => ?_⟩
  · have := h.ol.cellAt i (by omega)
    rw [Nat.zero_add, this]; exact hv
  · rcases Nat.lt_or_ge a.block N with q | q
    · exact absurd (.inr (.inr q)) (h5 a ha)
    · exact q
end
end Go.Proofs.Ytpkacnoimdjckaa
