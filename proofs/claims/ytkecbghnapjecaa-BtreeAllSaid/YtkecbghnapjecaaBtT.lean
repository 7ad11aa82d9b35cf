/- Package btree, in plain Lean: put, split, lay, leafOf on trees. -/
import Derived.Test.YtkecbghnapjecaaBinS
import Derived.Test.YtkecbghnapjecaaInsS
namespace Go.Proofs.Ytkecbghnapjecaa
open Go.RowKit
set_option linter.unusedVariables false
set_option linter.unusedSimpArgs false
def Tr.keys : Tr → List ByteArray | .mk ks _ _ => ks
def Tr.vals : Tr → List ByteArray | .mk _ vs _ => vs
def Tr.kids : Tr → List Tr | .mk _ _ ts => ts
mutual
/-- What each node of a tree is like. -/
def OkT : Tr → Prop
  | .mk ks vs ts => Rise ks ∧ 1 ≤ ks.length ∧ ks.length ≤ 4 ∧ (ts = [] → vs.length = ks.length) ∧ (ts ≠ [] → ts.length = ks.length + 1 ∧ vs = []) ∧ OkTs ts
def OkTs : List Tr → Prop
  | [] => True
  | t :: ts => OkT t ∧ OkTs ts
end
mutual
def pairsT : Tr → List (ByteArray × ByteArray)
  | .mk ks vs ts => (match ts with | [] => ks.zip vs | _ :: _ => []) ++ pairsTs ts
def pairsTs : List Tr → List (ByteArray × ByteArray)
  | [] => []
  | t :: ts => pairsT t ++ pairsTs ts
end
/-- A node that is too wide: the key between, both halves. -/
def splitT : Tr → ByteArray × Tr × Tr
  | .mk ks vs ts =>
    let h := ks.length / 2
    let k := ks[h]?.getD ⟨#[]⟩
    match ts with
    | [] => (k, .mk (ks.take h) (vs.take h) [], .mk (ks.drop h) (vs.drop h) [])
    | _ :: _ => (k, .mk (ks.take h) vs (ts.take (h + 1)), .mk (ks.drop (h + 1)) [] (ts.drop (h + 1)))
/-- A kid was put in: split, if it is too wide. -/
def fixT (ks vs : List ByteArray) (ts : List Tr) (i : Nat) (t : Tr) : Tr :=
  if 4 < t.keys.length then .mk (putV ks i (splitT t).1) vs (putV (ts.set i (splitT t).2.1) (i + 1) (splitT t).2.2) else .mk ks vs (ts.set i t)
mutual
def putK (key value : ByteArray) : Tr → Tr
  | .mk ks vs ts =>
    match ts with
    | [] => if bsF ks key then .mk ks (vs.set (bsI ks key) value) [] else .mk (putV ks (bsI ks key) key) (putV vs (bsI ks key) value) []
    | t :: r => match putKs key value (wayS ks key) (t :: r) with | none => .mk ks vs (t :: r) | some t' => fixT ks vs (t :: r) (wayS ks key) t'
def putKs (key value : ByteArray) (i : Nat) : List Tr → Option Tr
  | [] => none
  | t :: ts => match i with | 0 => some (putK key value t) | i + 1 => putKs key value i ts
end
mutual
/-- The leaf with a key. -/
def leafT (key : ByteArray) : Tr → Tr
  | .mk ks vs ts =>
    match ts with
    | [] => .mk ks vs []
    | t :: r => match leafTs key (wayS ks key) (t :: r) with | none => .mk ks vs (t :: r) | some t' => t'
def leafTs (key : ByteArray) (i : Nat) : List Tr → Option Tr
  | [] => none
  | t :: ts => match i with | 0 => some (leafT key t) | i + 1 => leafTs key i ts
end
mutual
/-- A tree laid out: each node ahead of its kids. -/
def layT (n : Nat) : Tr → List Nd
  | .mk ks vs ts => ⟨ks, vs, (layTs (n + 1) ts).1⟩ :: (layTs (n + 1) ts).2
def layTs (n : Nat) : List Tr → List Int × List Nd
  | [] => ([], [])
  | t :: ts => ((n : Int) :: (layTs (n + (layT n t).length) ts).1, layT n t ++ (layTs (n + (layT n t).length) ts).2)
end
mutual
/-- How many nodes. -/
def szT : Tr → Nat
  | .mk _ _ ts => szTs ts + 1
def szTs : List Tr → Nat
  | [] => 0
  | t :: ts => szT t + szTs ts
end
theorem szTs_mem : ∀ {ts : List Tr} {t : Tr}, t ∈ ts → szT t ≤ szTs ts
  | [], t, h => by cases h
  | x :: ts, t, h => by
    unfold szTs
    rcases List.mem_cons.1 h with rfl | h
    · omega
    · have := szTs_mem h; omega
theorem szT_kid {ks vs : List ByteArray} {ts : List Tr} {t : Tr} (h : t ∈ ts) : szT t < szT (.mk ks vs ts) := by
  have := szTs_mem h
  show szT t < szTs ts + 1
  omega
mutual
theorem layT_len (n : Nat) : ∀ t : Tr, (layT n t).length = szT t
  | .mk ks vs ts => by
    unfold layT szT
    rw [List.length_cons, layTs_len (n + 1) ts]
theorem layTs_len (n : Nat) : ∀ ts : List Tr, (layTs n ts).2.length = szTs ts
  | [] => by unfold layTs szTs; rfl
  | t :: ts => by
    unfold layTs szTs
    rw [List.length_append, layT_len n t, layTs_len _ ts]
end
theorem putKs_get (key value : ByteArray) : ∀ (ts : List Tr) (i : Nat) (t : Tr), ts[i]? = some t → putKs key value i ts = some (putK key value t)
  | [], i, t, h => by simp at h
  | x :: ts, 0, t, h => by
    obtain rfl : x = t := by simpa using h
    unfold putKs; rfl
  | x :: ts, i + 1, t, h => by
    unfold putKs
    exact putKs_get key value ts i t (by simpa using h)
theorem leafTs_get (key : ByteArray) : ∀ (ts : List Tr) (i : Nat) (t : Tr), ts[i]? = some t → leafTs key i ts = some (leafT key t)
  | [], i, t, h => by simp at h
  | x :: ts, 0, t, h => by
    obtain rfl : x = t := by simpa using h
    unfold leafTs; rfl
  | x :: ts, i + 1, t, h => by
    unfold leafTs
    exact leafTs_get key ts i t (by simpa using h)
theorem OkTs.mem : ∀ {ts : List Tr}, OkTs ts → ∀ t ∈ ts, OkT t
  | [], _, t, h => by cases h
  | x :: ts, h, t, ht => by
    unfold OkTs at h
    rcases List.mem_cons.1 ht with rfl | ht
    · exact h.1
    · exact OkTs.mem h.2 t ht
theorem OkTs.of : ∀ {ts : List Tr}, (∀ t ∈ ts, OkT t) → OkTs ts
  | [], _ => by unfold OkTs; trivial
  | x :: ts, h => by
    unfold OkTs
    exact ⟨h x (by simp), OkTs.of (fun t ht => h t (by simp [ht]))⟩
theorem OkT.parts {ks vs : List ByteArray} {ts : List Tr} (h : OkT (.mk ks vs ts)) : Rise ks ∧ 1 ≤ ks.length ∧ ks.length ≤ 4 ∧ (ts = [] → vs.length = ks.length) ∧ (ts ≠ [] → ts.length = ks.length + 1 ∧ vs = []) ∧ OkTs ts := by
  unfold OkT at h
  exact h
theorem putK_leaf (key value : ByteArray) (ks vs : List ByteArray) : putK key value (.mk ks vs []) = if bsF ks key then .mk ks (vs.set (bsI ks key) value) [] else .mk (putV ks (bsI ks key) key) (putV vs (bsI ks key) value) [] := by
  unfold putK; rfl
theorem putK_node (key value : ByteArray) {ks vs : List ByteArray} {ts : List Tr} {t : Tr} (h : ts[wayS ks key]? = some t) : putK key value (.mk ks vs ts) = fixT ks vs ts (wayS ks key) (putK key value t) := by
  cases ts with
  | nil => simp at h
  | cons x r =>
    conv => lhs; unfold putK
    simp only [putKs_get key value _ _ _ h]
theorem leafT_node (key : ByteArray) {ks vs : List ByteArray} {ts : List Tr} {t : Tr} (h : ts[wayS ks key]? = some t) : leafT key (.mk ks vs ts) = leafT key t := by
  cases ts with
  | nil => simp at h
  | cons x r =>
    conv => lhs; unfold leafT
    simp only [leafTs_get key _ _ _ h]
theorem Rise.of_within (lo hi : Option ByteArray) : ∀ (p : Option ByteArray) (ks : List ByteArray), withinB lo hi p ks = true → Rise ks ∧ ∀ q, p = some q → ∀ k ∈ ks, lt? q k = true
  | p, [], _ => ⟨List.Pairwise.nil, fun _ _ k hk => by cases hk⟩
  | p, k :: ks, h => by
    simp only [withinB, Bool.and_eq_true] at h
    obtain ⟨h1, h2⟩ := Rise.of_within lo hi (some k) ks h.2
    have hp : ∀ q, p = some q → lt? q k = true := by
      intro q e
      subst e
      have := h.1
      simp only [okKey, Bool.and_eq_true] at this
      exact this.1
    refine ⟨List.Pairwise.cons (fun x hx => h2 k rfl x hx) h1, fun q e x hx => ?_⟩
    rcases List.mem_cons.1 hx with rfl | hx
    · exact hp q e
    · exact lt_trans' (hp q e) (h2 k rfl x hx)
theorem kidsS_all {go : Rd → Int → Option ByteArray → Option ByteArray → Option (Tr × Rd)} {keys : List ByteArray} {lo hi : Option ByteArray} {Q : Tr → Prop} (hgo : ∀ r k lo hi t r2, go r k lo hi = some (t, r2) → Q t) :
    ∀ (ks : List Int) (i : Nat) (r : Rd) (ts : List Tr) (r2 : Rd), kidsS go keys lo hi i ks r = some (ts, r2) → ts.length = ks.length ∧ ∀ t ∈ ts, Q t
  | [], i, r, ts, r2, h => by
    simp only [kidsS, Option.some.injEq, Prod.mk.injEq] at h
    obtain ⟨rfl, _⟩ := h
    exact ⟨rfl, fun t ht => by cases ht⟩
  | k :: ks, i, r, ts, r2, h => by
    simp only [kidsS] at h
    split at h
    · cases h
    · rename_i t r1 h1
      split at h
      · cases h
      · rename_i us r3 h2
        simp only [Option.some.injEq, Prod.mk.injEq] at h
        obtain ⟨rfl, _⟩ := h
        obtain ⟨g1, g2⟩ := kidsS_all hgo ks (i + 1) r1 us r3 h2
        exact ⟨by simp [g1], fun x hx => by
          rcases List.mem_cons.1 hx with rfl | hx
          · exact hgo _ _ _ _ _ _ h1
          · exact g2 x hx⟩
theorem nodeS_OkT (s : List Nd) : ∀ (f : Nat) (r : Rd) (level a : Int) (lo hi : Option ByteArray) (t : Tr) (r2 : Rd), nodeS s f r level a lo hi = some (t, r2) → OkT t
  | 0, r, level, a, lo, hi, t, r2, h => by simp [nodeS] at h
  | f + 1, r, level, a, lo, hi, t, r2, h => by
    unfold nodeS at h
    split at h
    · cases h
    · rename_i n hn
      split at h
      · cases h
      · rename_i hw
        have hw' : (decide (fewS level ≤ n.keys.length ∧ n.keys.length ≤ 4) && withinB lo hi none n.keys) = true := eq_true_of_ne_false hw
        simp only [Bool.and_eq_true, decide_eq_true_eq] at hw'
        obtain ⟨⟨hf, h4⟩, hwi⟩ := hw'
        have hR := (Rise.of_within lo hi none n.keys hwi).1
        have h1 : 1 ≤ n.keys.length := by
          have : 1 ≤ fewS level := by unfold fewS; split <;> omega
          omega
        split at h
        · split at h
          · rename_i hc
            simp only [Option.some.injEq, Prod.mk.injEq] at h
            obtain ⟨rfl, _⟩ := h
            unfold OkT
            exact ⟨hR, h1, h4, fun _ => hc.1, fun e => absurd rfl e, by unfold OkTs; trivial⟩
          · cases h
        · split at h
          · rename_i hki hc
            split at h
            · cases h
            · rename_i ts r3 h3
              simp only [Option.some.injEq, Prod.mk.injEq] at h
              obtain ⟨rfl, _⟩ := h
              obtain ⟨g1, g2⟩ := kidsS_all (Q := OkT) (fun r k lo hi t r2 he => nodeS_OkT s f r (level + 1) k lo hi t r2 he) _ _ _ _ _ h3
              unfold OkT
              refine ⟨hR, h1, h4, fun e => ?_, fun _ => ⟨by rw [g1, hc.2], List.eq_nil_of_length_eq_zero hc.1⟩, OkTs.of g2⟩
              subst e
              simp at g1
              omega
          · cases h
end Go.Proofs.Ytkecbghnapjecaa
