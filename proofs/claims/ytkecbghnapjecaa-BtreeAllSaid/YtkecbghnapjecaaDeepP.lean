/- Package btree, in plain Lean: how deep a tree is and how many pairs it has; that its pairs rise; what each goes over. -/
import Derived.Test.YtkecbghnapjecaaRangeB
namespace Go.Proofs.Ytkecbghnapjecaa
open Go.RowKit
set_option linter.unusedVariables false
set_option linter.unusedSimpArgs false
theorem lt_le {a b c : ByteArray} (h : lt? a b = true) (g : lt? c b = false) : lt? a c = true := by
  have ht : (!(Op.bytesLess b.toList c.toList || b.toList == c.toList)) = false := (less_total b.toList c.toList).trans g
  simp only [Bool.not_eq_false', Bool.or_eq_true, beq_iff_eq] at ht
  rcases ht with ht | ht
  · exact lt_trans' h ht
  · show Op.bytesLess a.toList c.toList = true
    rw [← ht]
    exact h
theorem le_lt {a b c : ByteArray} (h : lt? b a = false) (g : lt? b c = true) : lt? a c = true := by
  cases e : lt? a c with
  | true => rfl
  | false =>
    have := lt_le g e
    rw [h] at this; cases this
theorem le_le {k l p : ByteArray} (h : lt? k l = false) (g : lt? p k = false) : lt? p l = false := by
  cases e : lt? p l with
  | false => rfl
  | true =>
    have := lt_le e h
    rw [g] at this; cases this
def inLo (lo : Option ByteArray) (k : ByteArray) : Prop := ∀ l, lo = some l → lt? k l = false
def inHi (hi : Option ByteArray) (k : ByteArray) : Prop := ∀ h, hi = some h → lt? k h = true
theorem within_in (lo hi : Option ByteArray) : ∀ (p : Option ByteArray) (ks : List ByteArray), withinB lo hi p ks = true → ∀ k ∈ ks, inLo lo k ∧ inHi hi k
  | p, [], _, k, hk => by cases hk
  | p, k :: ks, h, x, hx => by
    simp only [withinB, Bool.and_eq_true] at h
    rcases List.mem_cons.1 hx with rfl | hx
    · have := h.1
      simp only [okKey, Bool.and_eq_true] at this
      obtain ⟨_, h2, h3⟩ := this
      constructor
      · rintro l rfl
        simpa using h2
      · rintro l rfl
        simpa using h3
    · exact within_in lo hi (some k) ks h.2 x hx
mutual
/-- Each node's keys lie between its bounds. -/
def BndT (lo hi : Option ByteArray) : Tr → Prop
  | .mk ks vs ts => Rise ks ∧ (∀ k ∈ ks, inLo lo k ∧ inHi hi k) ∧ ts.length ≤ ks.length + 1 ∧ BndTs ks lo hi ts
def BndTs (ks : List ByteArray) (lo hi : Option ByteArray) : List Tr → Prop
  | [] => True
  | t :: ts => BndT lo (match ks with | [] => hi | k :: _ => some k) t ∧ BndTs ks.tail ks.head? hi ts
end
theorem BndT.parts {lo hi : Option ByteArray} {ks vs : List ByteArray} {ts : List Tr} (h : BndT lo hi (.mk ks vs ts)) : Rise ks ∧ (∀ k ∈ ks, inLo lo k ∧ inHi hi k) ∧ ts.length ≤ ks.length + 1 ∧ BndTs ks lo hi ts := by unfold BndT at h; exact h
theorem BndTs.parts {lo hi : Option ByteArray} {ks : List ByteArray} {t : Tr} {ts : List Tr} (h : BndTs ks lo hi (t :: ts)) : BndT lo (match ks with | [] => hi | k :: _ => some k) t ∧ BndTs ks.tail ks.head? hi ts := by unfold BndTs at h; cases ks <;> exact h
abbrev RiseP (l : List Pr) : Prop := l.Pairwise (fun a b => lt? a.1 b.1 = true)
structure Facts (lo hi : Option ByteArray) (fr : ByteArray) (l e : List Pr) : Prop where
  lo' : ∀ p ∈ l, inLo lo p.1
  hi' : ∀ p ∈ l, inHi hi p.1
  up : RiseP l
  ev : e = l.filter (fun p => !sless p.1 fr)
theorem zip_rise : ∀ {ks vs : List ByteArray}, Rise ks → RiseP (ks.zip vs)
  | [], _, _ => by simp
  | _ :: _, [], _ => by simp
  | k :: ks, v :: vs, h => by
    rw [List.zip_cons_cons]
    have h' : (∀ x ∈ ks, lt? k x = true) ∧ Rise ks := List.pairwise_cons.1 h
    refine List.Pairwise.cons (fun p hp => h'.1 _ (List.of_mem_zip hp).1) (zip_rise h'.2)
mutual
theorem BndT.facts (fr : ByteArray) : ∀ (t : Tr) (lo hi : Option ByteArray), BndT lo hi t → Facts lo hi fr (pairsT t) (eachT fr t)
  | .mk ks vs ts, lo, hi, h => by
    obtain ⟨h1, h2, h3, h4⟩ := h.parts
    by_cases h0 : ts = []
    · subst h0
      rw [pairsT_leaf, eachT_leaf]
      exact ⟨fun p hp => (h2 _ (List.of_mem_zip hp).1).1, fun p hp => (h2 _ (List.of_mem_zip hp).1).2, zip_rise h1, rfl⟩
    · rw [pairsT_node _ _ h0, eachT_node _ _ _ h0]
      exact BndTs.facts fr ts ks lo hi h1 h2 h3 h4
theorem BndTs.facts (fr : ByteArray) : ∀ (ts : List Tr) (ks : List ByteArray) (lo hi : Option ByteArray), Rise ks → (∀ k ∈ ks, inLo lo k ∧ inHi hi k) → ts.length ≤ ks.length + 1 → BndTs ks lo hi ts → Facts lo hi fr (pairsTs ts) (eachTs fr ks ts)
  | [], ks, lo, hi, h1, h2, h3, h4 => ⟨fun p hp => by simp [pairsTs] at hp, fun p hp => by simp [pairsTs] at hp, by simp [pairsTs], by simp [pairsTs, eachTs]⟩
  | t :: ts, [], lo, hi, h1, h2, h3, h4 => by
    obtain rfl : ts = [] := by cases ts with | nil => rfl | cons x ts => simp at h3
    have f := BndT.facts fr t lo hi h4.parts.1
    rw [eachTs_cons, pairsTs_cons]
    have e1 : pairsTs [] = [] := by simp [pairsTs]
    have e2 : eachTs fr ([] : List ByteArray).tail [] = [] := by simp [eachTs]
    rw [e1, e2, List.append_nil]
    dsimp only
    rw [List.append_nil]
    exact f
  | t :: ts, k :: ks, lo, hi, h1, h2, h3, h4 => by
    have f := BndT.facts fr t lo (some k) h4.parts.1
    have hr : (∀ x ∈ ks, lt? k x = true) ∧ Rise ks := List.pairwise_cons.1 h1
    have g := BndTs.facts fr ts ks (some k) hi hr.2 (fun x hx => ⟨fun l e => by obtain rfl := Option.some.inj e; exact lt_asym (hr.1 x hx), (h2 x (List.mem_cons_of_mem _ hx)).2⟩) (by simp at h3; omega) h4.parts.2
    have hk := h2 k (List.mem_cons_self ..)
    rw [eachTs_cons, pairsTs_cons]
    refine ⟨fun p hp => ?_, fun p hp => ?_, ?_, ?_⟩
    · rcases List.mem_append.1 hp with hp | hp
      · exact f.lo' p hp
      · intro l e
        exact le_le (hk.1 l e) (g.lo' p hp k rfl)
    · rcases List.mem_append.1 hp with hp | hp
      · intro l e
        exact lt_trans' (f.hi' p hp k rfl) (hk.2 l e)
      · exact g.hi' p hp
    · exact List.pairwise_append.2 ⟨f.up, g.up, fun a ha b hb => lt_le (f.hi' a ha k rfl) (g.lo' b hb k rfl)⟩
    · rw [List.filter_append]
      dsimp only [List.tail_cons]
      rw [← g.ev]
      congr 1
      by_cases hfk : sless fr k = true
      · rw [if_pos hfk]; exact f.ev
      · rw [if_neg hfk]
        refine (List.filter_eq_nil_iff.2 fun p hp => ?_).symm
        have := lt_le (f.hi' p hp k rfl) (by simpa using hfk : lt? fr k = false)
        simpa using this
end
theorem kidsS_bnd {go : Rd → Int → Option ByteArray → Option ByteArray → Option (Tr × Rd)} {keys : List ByteArray} {lo hi : Option ByteArray} (hgo : ∀ r k lo hi t r2, go r k lo hi = some (t, r2) → BndT lo hi t) :
    ∀ (ks : List Int) (i : Nat) (r : Rd) (ts : List Tr) (r2 : Rd), kidsS go keys lo hi i ks r = some (ts, r2) → BndTs (keys.drop i) (if i = 0 then lo else keys[i - 1]?) hi ts
  | [], i, r, ts, r2, e => by
    simp only [kidsS, Option.some.injEq, Prod.mk.injEq] at e
    obtain ⟨rfl, rfl⟩ := e
    unfold BndTs
    trivial
  | k :: ks, i, r, ts, r2, e => by
    simp only [kidsS] at e
    split at e
    · cases e
    · rename_i t r1 h1
      split at e
      · cases e
      · rename_i us r3 h2
        simp only [Option.some.injEq, Prod.mk.injEq] at e
        obtain ⟨rfl, rfl⟩ := e
        have g1 := hgo _ _ _ _ _ _ h1
        have g2 := kidsS_bnd hgo ks (i + 1) r1 us r3 h2
        rw [if_neg (by omega), Nat.add_sub_cancel] at g2
        unfold BndTs
        rw [List.tail_drop, List.head?_drop]
        refine ⟨?_, g2⟩
        by_cases hi' : i < keys.length
        · rw [if_pos hi', List.getElem?_eq_getElem hi'] at g1
          rw [List.drop_eq_getElem_cons hi']
          exact g1
        · rw [if_neg hi'] at g1
          rw [List.drop_eq_nil_of_le (by omega)]
          exact g1
theorem nodeS_bnd (s : List Nd) : ∀ (f : Nat) (r : Rd) (level a : Int) (lo hi : Option ByteArray) (t : Tr) (r2 : Rd), nodeS s f r level a lo hi = some (t, r2) → BndT lo hi t
  | 0, r, level, a, lo, hi, t, r2, e => by simp [nodeS] at e
  | f + 1, r, level, a, lo, hi, t, r2, e => by
    unfold nodeS at e
    split at e
    · cases e
    · rename_i n hn
      split at e
      · cases e
      · rename_i hw
        have hw2 : withinB lo hi none n.keys = true := by
          simp only [Bool.not_eq_false, Bool.and_eq_true] at hw
          exact hw.2
        have hR := (Rise.of_within lo hi none n.keys hw2).1
        have hin := within_in lo hi none n.keys hw2
        split at e
        · split at e
          · simp only [Option.some.injEq, Prod.mk.injEq] at e
            obtain ⟨rfl, rfl⟩ := e
            unfold BndT
            exact ⟨hR, hin, by simp, by unfold BndTs; trivial⟩
          · cases e
        · split at e
          · rename_i hki hc
            split at e
            · cases e
            · rename_i ts r3 h3
              simp only [Option.some.injEq, Prod.mk.injEq] at e
              obtain ⟨rfl, rfl⟩ := e
              have hl := (kidsS_all (Q := fun _ => True) (fun _ _ _ _ _ _ _ => trivial) _ _ _ _ _ h3).1
              have hb := kidsS_bnd (fun r k lo hi t r2 he => nodeS_bnd s f r (level + 1) k lo hi t r2 he) _ _ _ _ _ h3
              unfold BndT
              exact ⟨hR, hin, by rw [hl, hc.2]; exact Nat.le_refl _, by simpa using hb⟩
          · cases e
/-- The least number of pairs below a node. -/
def leastN (level leaf : Int) : Nat := if level = 1 then (if leaf = 1 then 1 else 4 * 3 ^ (leaf - 2).toNat) else 2 * 3 ^ (leaf - level).toNat
theorem kidsS_deep {L : Int} (hL : 2 ≤ L) {go : Rd → Int → Option ByteArray → Option ByteArray → Option (Tr × Rd)} {keys : List ByteArray} {lo hi : Option ByteArray} (hgo : ∀ r k lo hi t r2, go r k lo hi = some (t, r2) → L ≤ r2.leaf ∧ (r.leaf ≠ 0 → r2.leaf = r.leaf) ∧ 2 * 3 ^ (r2.leaf - L).toNat ≤ (pairsT t).length) :
    ∀ (ks : List Int) (i : Nat) (r : Rd) (ts : List Tr) (r2 : Rd), kidsS go keys lo hi i ks r = some (ts, r2) → (ks ≠ [] → L ≤ r2.leaf) ∧ (r.leaf ≠ 0 → r2.leaf = r.leaf) ∧ ks.length * (2 * 3 ^ (r2.leaf - L).toNat) ≤ (pairsTs ts).length
  | [], i, r, ts, r2, e => by
    simp only [kidsS, Option.some.injEq, Prod.mk.injEq] at e
    obtain ⟨rfl, rfl⟩ := e
    simp
  | k :: ks, i, r, ts, r2, e => by
    simp only [kidsS] at e
    split at e
    · cases e
    · rename_i t r1 h1
      split at e
      · cases e
      · rename_i us r3 h2
        simp only [Option.some.injEq, Prod.mk.injEq] at e
        obtain ⟨rfl, rfl⟩ := e
        obtain ⟨g1, g2, g3⟩ := hgo _ _ _ _ _ _ h1
        obtain ⟨g4, g5, g6⟩ := kidsS_deep hL hgo ks (i + 1) r1 us r3 h2
        have e1 := g5 (by omega)
        rw [pairsTs_cons, List.length_append, List.length_cons, Nat.add_mul]
        rw [← e1] at g1 g2 g3
        exact ⟨fun _ => g1, g2, by omega⟩
theorem nodeS_deep (s : List Nd) : ∀ (f : Nat) (r : Rd) (level a : Int) (lo hi : Option ByteArray) (t : Tr) (r2 : Rd), 1 ≤ level → nodeS s f r level a lo hi = some (t, r2) → level ≤ r2.leaf ∧ (r.leaf ≠ 0 → r2.leaf = r.leaf) ∧ leastN level r2.leaf ≤ (pairsT t).length
  | 0, r, level, a, lo, hi, t, r2, hl1, e => by simp [nodeS] at e
  | f + 1, r, level, a, lo, hi, t, r2, hl1, e => by
    unfold nodeS at e
    split at e
    · cases e
    · rename_i n hn
      split at e
      · cases e
      · rename_i hw
        have hw2 : fewS level ≤ n.keys.length := by
          simp only [Bool.not_eq_false, Bool.and_eq_true, decide_eq_true_eq] at hw
          exact hw.1.1
        unfold fewS at hw2
        split at e
        · split at e
          · rename_i hc
            simp only [Option.some.injEq, Prod.mk.injEq] at e
            obtain ⟨rfl, rfl⟩ := e
            rw [pairsT_leaf, List.length_zip, hc.1, Nat.min_self]
            refine ⟨Int.le_refl _, fun h => (hc.2.1.resolve_left h).symm, ?_⟩
            unfold leastN
            by_cases h1 : level = 1
            · rw [if_pos h1] at hw2 ⊢
              rw [if_pos h1]; exact hw2
            · rw [if_neg h1] at hw2 ⊢
              simpa using hw2
          · cases e
        · split at e
          · rename_i hki hc
            split at e
            · cases e
            · rename_i ts r3 h3
              simp only [Option.some.injEq, Prod.mk.injEq] at e
              obtain ⟨rfl, rfl⟩ := e
              have hts : ts ≠ [] := by
                have := (kidsS_all (Q := fun _ => True) (fun _ _ _ _ _ _ _ => trivial) _ _ _ _ _ h3).1
                intro e0
                subst e0
                have := hc.2
                simp at *
                omega
              rw [pairsT_node _ _ hts]
              obtain ⟨g1, g2, g3⟩ := kidsS_deep (L := level + 1) (by omega) (fun r k lo hi t r2 he => by
                have := nodeS_deep s f r (level + 1) k lo hi t r2 (by omega) he
                unfold leastN at this
                rw [if_neg (by omega)] at this
                exact this) _ _ _ _ _ h3
              have g4 := g1 hki
              rw [hc.2] at g3
              refine ⟨by omega, g2, ?_⟩
              unfold leastN
              generalize hX : (r3.leaf - (level + 1)).toNat = X at *
              have hp : 0 < 3 ^ X := Nat.pow_pos (by decide)
              by_cases h1 : level = 1
              · rw [if_pos h1] at hw2 ⊢
                rw [if_neg (by omega)]
                have e2 : (r3.leaf - 2).toNat = X := by omega
                rw [e2]
                have := Nat.mul_le_mul_right (2 * 3 ^ X) (show 2 ≤ n.keys.length + 1 by omega)
                omega
              · rw [if_neg h1] at hw2 ⊢
                have e2 : (r3.leaf - level).toNat = X + 1 := by omega
                rw [e2, Nat.pow_succ]
                have := Nat.mul_le_mul_right (2 * 3 ^ X) (show 3 ≤ n.keys.length + 1 by omega)
                omega
          · cases e
theorem readS_deep {s : List Nd} {root d p : Int} {t : Tr} (h : readS s root = some (some t, d, p)) : 1 ≤ d ∧ leastN 1 d ≤ (pairsT t).length ∧ BndT none none t := by
  unfold readS at h
  split at h
  · split at h <;> simp at h
  · split at h
    · cases h
    · rename_i t1 r1 h1
      split at h
      · simp only [Option.some.injEq, Prod.mk.injEq] at h
        obtain ⟨rfl, rfl, rfl⟩ := h
        have := nodeS_deep s _ _ _ _ _ _ _ _ (by decide) h1
        exact ⟨this.1, this.2.2, nodeS_bnd s _ _ _ _ _ _ _ _ h1⟩
      · cases h
theorem nil_toList : (⟨#[]⟩ : ByteArray).toList = [] := by rw [ByteArray.toList_eq]
theorem goOn_nil (p : Pr) : goOn ⟨#[]⟩ p = true := by unfold goOn; rw [nil_toList]; rfl
theorem sless_nil (k : ByteArray) : sless k ⟨#[]⟩ = false := by
  unfold sless
  rw [nil_toList]
  cases k.toList <;> rfl
/-- A span of all. -/
theorem range_all {s : List Nd} {root d p : Int} {t : Tr} (h : readS s root = some (some t, d, p)) : rangeS s root ⟨#[]⟩ ⟨#[]⟩ = (pairsT t, 0) := by
  unfold rangeS
  rw [h]
  dsimp only
  rw [takeWhile_all (fun p _ => goOn_nil p), (BndT.facts ⟨#[]⟩ t none none (readS_deep h).2.2).ev]
  rw [List.filter_eq_self.2 (fun p _ => by rw [sless_nil]; rfl)]
end Go.Proofs.Ytkecbghnapjecaa
