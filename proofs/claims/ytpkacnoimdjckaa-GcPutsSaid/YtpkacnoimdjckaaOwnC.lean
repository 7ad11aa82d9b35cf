/- Chains that a call builds: rows of its own that stand apart. -/
import Derived.Test.YtpkacnoimdjckaaChn
import Derived.Test.YtpkacnoimdjckaaStage
import Derived.Maps.AppendAt
import Derived.Deep.RegionLaw
namespace Go.Proofs.Ytpkacnoimdjckaa
open Go.RowKit
set_option linter.unusedVariables false
set_option linter.unusedSimpArgs false
theorem RowE.grown {α : Type} {enc : α → List Value} {k : Nat} {w w' : World} {A : Option Addr} {l : List α} {row : Option Nat} (h : RowE enc k w A l) (hg : w.grownBy w' row) (hne : ∀ a, A = some a → some a.block ≠ row) : RowE enc k w' A l := fun i x hi => by
  obtain ⟨b, off, rfl, hlt, hc⟩ := h i x hi
  have e := hg.block b hlt (hne _ rfl)
  exact ⟨b, off, rfl, Nat.lt_of_lt_of_le hlt hg.size, fun i x hi j v hv => (World.cell?_of_block (a := ⟨b, _, none⟩) e).trans (hc i x hi j v hv)⟩
/-- A slice of versions in none of these blocks. -/
def SlX (X : Nat → Prop) (w : World) (v : Value) (l : List Ver) : Prop := ∃ A c, v = .slice A l.length c ∧ l.length ≤ c ∧ RowE encVer 4 w A l ∧ (A = none → c = 0) ∧ ∀ a, A = some a → ¬ X a.block
theorem SlX.below {X : Nat → Prop} {w w1 : World} {v : Value} {l : List Ver} (h : SlX X w v l) (hb : Below w.heap.size w w1) : SlX X w1 v l := by
  obtain ⟨A, c, h1, h2, h3, h4, h5⟩ := h
  exact ⟨A, c, h1, h2, h3.below hb, h4, h5⟩
theorem SlX.lt {X : Nat → Prop} {w : World} {v : Value} {l : List Ver} (h : SlX X w v l) (h0 : l ≠ []) : ∃ A c, v = .slice A l.length c ∧ ∀ a, A = some a → a.block < w.heap.size := by
  obtain ⟨A, c, h1, h2, h3, h4, h5⟩ := h
  obtain ⟨x, hx⟩ : ∃ x, l[0]? = some x := ⟨_, List.getElem?_eq_getElem (List.length_pos_iff.2 h0)⟩
  obtain ⟨b, off, rfl, hlt, _⟩ := h3 0 x hx
  exact ⟨_, c, h1, fun a ha => by cases ha; exact hlt⟩
structure OwnC (base : Nat) (w : World) (vk vl : Value) (ks : List ByteArray) (ls : List (List Ver)) (vs : List Value) : Prop where
  ok : w.ownsRow base 9 1 vk ks.length (ks.flatMap encS)
  ol : w.ownsRow base 44 1 vl ls.length vs
  el : ∀ (i : Nat) (l : List Ver), ls[i]? = some l → l ≠ [] ∧ ∃ v, vs[i]? = some v ∧ SlX (fun b => vk.ownBlock = some b ∨ vl.ownBlock = some b ∨ b < base) w v l
  dj : ∀ g, vk.ownBlock = some g → vl.ownBlock ≠ some g
section
variable {base : Nat} {w w' : World} {vk vl : Value} {ks : List ByteArray} {ls : List (List Ver)} {vs : List Value}
theorem OwnC.below (h : OwnC base w vk vl ks ls vs) (hb : Below w.heap.size w w') : OwnC base w' vk vl ks ls vs :=
  ⟨own_below h.ok hb, own_below h.ol hb, fun i l hi => by obtain ⟨h0, v, hv, hs⟩ := h.el i l hi; exact ⟨h0, v, hv, hs.below hb⟩, h.dj⟩
theorem OwnC.alloc (h : OwnC base w vk vl ks ls vs) (o : Obj) : OwnC base (w.alloc o) vk vl ks ls vs := h.below ((Below.refl _ w).alloc (Nat.le_refl _) o)
theorem OwnC.set (h : OwnC base w vk vl ks ls vs) (a : Addr) (u : Value) (ha : a.block < base) : OwnC base (w.setCell a u) vk vl ks ls vs :=
  ⟨own_set h.ok a u ha, own_set h.ol a u ha, fun i l hi => by
    obtain ⟨h0, v, hv, A, c, rfl, h2, h3, h4, h5⟩ := h.el i l hi
    refine ⟨h0, _, hv, A, c, rfl, h2, h3.grown (grown_set w a u) (fun a' ha' e => ?_), h4, h5⟩
    have e' := Option.some.inj e
    exact h5 a' ha' (.inr (.inr (by omega))), h.dj⟩
theorem OwnC.rebase {b' : Nat} (h : OwnC base w vk vl ks ls vs) (hb : b' ≤ base) : OwnC b' w vk vl ks ls vs :=
  ⟨own_base h.ok hb, own_base h.ol hb, fun i l hi => by
    obtain ⟨h0, v, hv, A, c, rfl, h2, h3, h4, h5⟩ := h.el i l hi
    refine ⟨h0, _, hv, A, c, rfl, h2, h3, h4, fun a ha => ?_⟩
    rintro (q | q | q)
    · exact h5 a ha (.inl q)
    · exact h5 a ha (.inr (.inl q))
    · exact h5 a ha (.inr (.inr (by omega))), h.dj⟩
/-- A key more. -/
theorem OwnC.key (h : OwnC base w vk vl ks ls vs) {vk' : Value} {k : ByteArray} (ho : w'.ownsRow base 9 1 vk' (ks.length + 1) (ks.flatMap encS ++ [.string k])) (hg : w.grownBy w' vk.ownBlock) (ha : vk'.ownBlock = vk.ownBlock ∨ vk'.ownBlock = some w.heap.size) : OwnC base w' vk' vl (ks ++ [k]) ls vs := by
  refine ⟨by rw [List.flatMap_append]; simpa [encS] using ho, ?_, fun i l hi => ?_, fun g hg1 hg2 => ?_⟩
  · refine h.ol.kept hg ?_
    cases hv : vl.ownBlock with
    | none => left; rfl
    | some g => right; intro e; exact h.dj g e.symm hv
  · obtain ⟨h0, v, hv, hs⟩ := h.el i l hi
    obtain ⟨A0, c0, e0, hlt⟩ := hs.lt h0
    obtain ⟨A, c, rfl, h2, h3, h4, h5⟩ := hs
    obtain ⟨rfl, rfl⟩ : A = A0 ∧ c = c0 := by simpa using e0
    refine ⟨h0, _, hv, A, c, rfl, h2, h3.grown hg (fun a ha' e => h5 a ha' (.inl e.symm)), h4, fun a ha' => ?_⟩
    rintro (q | q | q)
    · rcases ha with ha | ha
      · exact h5 a ha' (.inl (ha ▸ q))
      · rw [q] at ha; have := hlt a ha'; have := Option.some.inj ha; omega
    · exact h5 a ha' (.inr (.inl q))
    · exact h5 a ha' (.inr (.inr q))
  · rcases ha with ha | ha
    · exact h.dj g (ha ▸ hg1) hg2
    · have := (h.ol.lt g hg2).2
      rw [hg1] at ha; have := Option.some.inj ha; omega
/-- .. and a slice that stands apart goes on to do so. -/
theorem OwnC.keyx (h : OwnC base w vk vl ks ls vs) {vk' v : Value} {l : List Ver} (hg : w.grownBy w' vk.ownBlock) (ha : vk'.ownBlock = vk.ownBlock ∨ vk'.ownBlock = some w.heap.size) (h0 : l ≠ [])
    (hs : SlX (fun b => vk.ownBlock = some b ∨ vl.ownBlock = some b ∨ b < base) w v l) : SlX (fun b => vk'.ownBlock = some b ∨ vl.ownBlock = some b ∨ b < base) w' v l := by
  obtain ⟨A0, c0, e0, hlt⟩ := hs.lt h0
  obtain ⟨A, c, rfl, h2, h3, h4, h5⟩ := hs
  obtain ⟨rfl, rfl⟩ : A = A0 ∧ c = c0 := by simpa using e0
  refine ⟨A, c, rfl, h2, h3.grown hg (fun a ha' e => h5 a ha' (.inl e.symm)), h4, fun a ha' => ?_⟩
  rintro (q | q | q)
  · rcases ha with ha | ha
    · exact h5 a ha' (.inl (ha ▸ q))
    · rw [q] at ha; have := hlt a ha'; have := Option.some.inj ha; omega
  · exact h5 a ha' (.inr (.inl q))
  · exact h5 a ha' (.inr (.inr q))
/-- A chain more, in a block that is none of these. -/
theorem OwnC.list (h : OwnC base w vk vl ks ls vs) {vl' v : Value} {l : List Ver} (ho : w'.ownsRow base 44 1 vl' (ls.length + 1) (vs ++ [v])) (hg : w.grownBy w' vl.ownBlock) (ha : vl'.ownBlock = vl.ownBlock ∨ vl'.ownBlock = some w.heap.size)
    (h0 : l ≠ []) (hv : SlX (fun b => vk.ownBlock = some b ∨ vl.ownBlock = some b ∨ b < base) w v l) : OwnC base w' vk vl' ks (ls ++ [l]) (vs ++ [v]) := by
  have move : ∀ (v : Value) (l : List Ver), l ≠ [] → SlX (fun b => vk.ownBlock = some b ∨ vl.ownBlock = some b ∨ b < base) w v l → SlX (fun b => vk.ownBlock = some b ∨ vl'.ownBlock = some b ∨ b < base) w' v l := fun v l h0 hs => by
    obtain ⟨A0, c0, e0, hlt⟩ := hs.lt h0
    obtain ⟨A, c, rfl, h2, h3, h4, h5⟩ := hs
    obtain ⟨rfl, rfl⟩ : A = A0 ∧ c = c0 := by simpa using e0
    refine ⟨A, c, rfl, h2, h3.grown hg (fun a ha' e => h5 a ha' (.inr (.inl e.symm))), h4, fun a ha' => ?_⟩
    rintro (q | q | q)
    · exact h5 a ha' (.inl q)
    · rcases ha with ha | ha
      · exact h5 a ha' (.inr (.inl (ha ▸ q)))
      · rw [q] at ha; have := hlt a ha'; have := Option.some.inj ha; omega
    · exact h5 a ha' (.inr (.inr q))
  have hlen : vs.length = ls.length := by have := h.ol.1; simpa using this
  refine ⟨?_, by simpa using ho, fun i x hi => ?_, fun g hg1 hg2 => ?_⟩
  · refine h.ok.kept hg ?_
    cases hv : vk.ownBlock with
    | none => left; rfl
    | some g => right; intro e; exact h.dj g hv e.symm
  · rcases Nat.lt_or_ge i ls.length with q | q
    · rw [List.getElem?_append_left q] at hi
      obtain ⟨h1, u, hu, hs⟩ := h.el i x hi
      exact ⟨h1, u, by rw [List.getElem?_append_left (by omega)]; exact hu, move u x h1 hs⟩
    · have e : i = ls.length := by
        have := lt_of_get hi
        simp at this; omega
      subst e
      rw [List.getElem?_append_right (Nat.le_refl _)] at hi
      obtain rfl : l = x := by simpa using hi
      exact ⟨h0, v, by rw [List.getElem?_append_right (by omega)]; simp [hlen], move v l h0 hv⟩
  · rcases ha with ha | ha
    · exact h.dj g hg1 (ha ▸ hg2)
    · have := (h.ok.lt g hg1).2
      rw [hg2] at ha; have := Option.some.inj ha; omega
end
/-- 'append' to a row of the call's own, as a step of a region that draws its order; with where the new row lies. -/
theorem step_append_at {P : Program} {ops : Array Oper} {o : Oper} {a : Act} {w : World} {K : Act → World → Prop} {Q : Exit → Act → World → Prop} {E : Prop}
    (hg : o.guard = none) (s x : Operand) (t : TypeId) (hop : o.op = Op.call { callee := Callee.builtin Builtin.append, args := #[s, x], argTypes := #[t, t] })
    (base : Nat) (e : TypeId) (i : TypeInfo) (z : Value) (size bytes : Nat) (h1 : P.underlying t = some (.slice e)) (h2 : P.info? e = some i) (h3 : i.zero = some z) (h4 : i.size = size) (h5 : i.bytes = bytes) (h6 : z.cells.size = size) (h7 : 0 < size)
    (v : Value) (n : Nat) (xs : List Value) (hs : a.eval s = v) (hown : w.ownsRow base e size v n xs)
    (ad : Addr) (m c : Nat) (news : List Value) (hx : a.eval x = .slice (some ad) m c) (hn : news.length = m * size) (hc : ∀ j u, news[j]? = some u → w.cell? (ad.add j) = some u) (h1c : ∀ u ∈ news, u.oneCell' = true)
    (b1 : n + m ≤ maxLen) (b2 : (n + m) * bytes ≤ 140737488355328) (hbase : base ≤ w.heap.size)
    (hK : ∀ v' w', w'.ownsRow base e size v' (n + m) (xs ++ news) → w.grownBy w' v.ownBlock → (v'.ownBlock = v.ownBlock ∨ v'.ownBlock = some w.heap.size) → K (a.put o.dst v') w') :
    if Region.wanted o (yielded ops a.tmps) = true then Oper.wp P o a w K Q else E := by
  have hw : Region.wanted o (yielded ops a.tmps) = true := by simp [Region.wanted, hg]
  rw [if_pos hw]
  obtain ⟨v', w', hrun, r1, r2, _, r4⟩ := run_append_own_at (P := P) w base t o.type e i z size bytes h1 h2 h3 h4 h5 h6 h7 v n xs hown ad m c news hn hc h1c b1 b2 hbase
  unfold Oper.wp
  simp [execOp, hop, resolve, invoke, builtin, hs, hx, hrun, Result.andThen]
  exact hK v' w' r1 r2 r4
end Go.Proofs.Ytpkacnoimdjckaa
