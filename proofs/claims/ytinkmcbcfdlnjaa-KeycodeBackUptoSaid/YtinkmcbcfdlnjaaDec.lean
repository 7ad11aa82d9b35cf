/- Keys read, in plain Lean: what is read, and that it is what was written. -/
import Derived.Test.YtinkmcbcfdlnjaaKeyOrd
namespace Go.Proofs.Ytinkmcbcfdlnjaa
open Go.RowKit
set_option linter.unusedVariables false
set_option linter.unusedSimpArgs false
/-- A text of these octets. -/
def tx (l : List UInt8) : ByteArray := ⟨l.toArray⟩
theorem tx_list (l : List UInt8) : (tx l).toList = l := by rw [ByteArray.toList_eq]; rfl
theorem tx_size (l : List UInt8) : (tx l).size = l.length := rfl
theorem tx_of (s : ByteArray) : tx s.toList = s := by rw [ByteArray.toList_eq]; rfl
def numL (f : UInt8 → UInt8) : Nat → Bool → Nat → List UInt8 → Except Int (Nat × List UInt8)
  | 0, _, m, s => .ok (m, s)
  | _ + 1, _, _, [] => .error 8
  | k + 1, first, m, c :: s => if first = true ∧ f c = 0 then .error 1 else numL f k false (m * 256 + (f c).toNat) s
def numD (f : UInt8 → UInt8) (k : Nat) (s : List UInt8) : Except Int (Nat × List UInt8) :=
  if s.length < k then .error 8 else
    match numL f k true 0 s with
    | .error e => .error e
    | .ok (m, r) => if 9223372036854775808 ≤ m then .error 1 else .ok (m, r)
def textD : List UInt8 → List UInt8 → Except Int (List UInt8 × List UInt8)
  | [], _ => .error 8
  | c :: s, acc =>
    if c = 0 then (if acc.length ≤ 64 then .ok (acc, s) else .error 5)
    else if c = 1 then
      (match s with
       | [] => .error 8
       | d :: s' => if d = 1 ∨ d = 2 then textD s' (acc ++ [d - 1]) else .error 1)
    else textD s (acc ++ [c])
def valD : List UInt8 → Except Int (V × List UInt8)
  | [] => .error 8
  | c :: s =>
    if c.toNat = 4 then .ok (⟨0, 0, nos⟩, s)
    else if c.toNat = 80 ∨ c.toNat = 81 then .ok (⟨2, (c.toNat : Int) - 80, nos⟩, s)
    else if c.toNat = 96 then (match textD s [] with | .error e => .error e | .ok (t, r) => .ok (⟨3, 0, tx t⟩, r))
    else if 64 ≤ c.toNat ∧ c.toNat ≤ 72 then (match numD id (c.toNat - 64) s with | .error e => .error e | .ok (m, r) => .ok (⟨1, m, nos⟩, r))
    else if c.toNat < 64 ∧ 55 ≤ c.toNat then (match numD fl (63 - c.toNat) s with | .error e => .error e | .ok (m, r) => .ok (⟨1, -(m : Int) - 1, nos⟩, r))
    else .error 22
def decL : Nat → List UInt8 → List V → Except Int (List V)
  | _, [], acc => .ok acc
  | 0, _ :: _, _ => .error 22
  | n + 1, c :: s, acc => match valD (c :: s) with | .error e => .error e | .ok (v, r) => decL n r (acc ++ [v])
def decode (s : List UInt8) : List V × Int :=
  match decL s.length s [] with
  | .error e => ([], e)
  | .ok l => if l.length ≤ 64 then (l, 0) else ([], 3)
/-! numbers -/
def fold (m : Nat) (xs : List UInt8) : Nat := xs.foldl (fun m c => m * 256 + c.toNat) m
theorem fold_snoc (m : Nat) (xs : List UInt8) (c : UInt8) : fold m (xs ++ [c]) = fold m xs * 256 + c.toNat := by simp [fold]
theorem fold_at : ∀ (xs : List UInt8) (m : Nat), fold m xs = m * 256 ^ xs.length + fold 0 xs
  | [], m => by simp [fold]
  | c :: xs, m => by
    have h1 := fold_at xs (m * 256 + c.toNat)
    have h2 := fold_at xs (0 * 256 + c.toNat)
    show fold (m * 256 + c.toNat) xs = m * 256 ^ (xs.length + 1) + fold (0 * 256 + c.toNat) xs
    rw [h1, h2, Nat.zero_mul, Nat.zero_add, Nat.add_mul, Nat.pow_succ, Nat.mul_assoc, Nat.mul_comm 256, Nat.add_assoc]
theorem fold_lt : ∀ xs : List UInt8, fold 0 xs < 256 ^ xs.length
  | [] => by simp [fold]
  | c :: xs => by
    have h1 : fold 0 (c :: xs) = c.toNat * 256 ^ xs.length + fold 0 xs := by
      show fold (0 * 256 + c.toNat) xs = _
      rw [fold_at]; simp
    have h2 := fold_lt xs
    have h3 := c.toNat_lt
    have h4 : c.toNat * 256 ^ xs.length ≤ 255 * 256 ^ xs.length := Nat.mul_le_mul_right _ (by omega)
    rw [h1, List.length_cons, Nat.pow_succ]; omega
theorem fold_cons (c : UInt8) (xs : List UInt8) : fold 0 (c :: xs) = c.toNat * 256 ^ xs.length + fold 0 xs := by
  show fold (0 * 256 + c.toNat) xs = _
  rw [fold_at]; simp
theorem fold_be : ∀ (k m : Nat), m < 256 ^ k → fold 0 (be k m) = m
  | 0, m, h => by simp [be, fold] at *; omega
  | k + 1, m, h => by
    unfold be
    rw [fold_snoc, fold_be k (m / 256) (by rw [Nat.pow_succ] at h; omega), UInt8.toNat_ofNat']
    omega
theorem be_fold : ∀ (n : Nat) (xs : List UInt8), xs.length = n → be n (fold 0 xs) = xs
  | 0, xs, h => by rw [List.eq_nil_of_length_eq_zero h]; rfl
  | n + 1, xs, h => by
    rcases List.eq_nil_or_concat xs with e | ⟨ys, c, rfl⟩
    · subst e; simp at h
    · have hl : ys.length = n := by simpa using h
      have hc := c.toNat_lt
      rw [List.concat_eq_append, fold_snoc]
      unfold be
      have e1 : (fold 0 ys * 256 + c.toNat) / 256 = fold 0 ys := by omega
      rw [e1, be_fold n ys hl]
      congr 2
      apply UInt8.toNat_inj.1
      rw [UInt8.toNat_ofNat']; omega
theorem sz_is {m j : Nat} (h1 : 256 ^ j ≤ m) (h2 : m < 256 ^ (j + 1)) : sz m = j + 1 := by
  have h3 := sz_le _ _ h2
  have h4 := sz_lt m
  have h5 : ¬ sz m ≤ j := fun h => by
    have := Nat.pow_le_pow_right (n := 256) (by omega) h
    omega
  omega
theorem sz_fold {c : UInt8} {xs : List UInt8} (h : c ≠ 0) : sz (fold 0 (c :: xs)) = xs.length + 1 := by
  have h0 : c.toNat ≠ 0 := fun e => h (UInt8.toNat_inj.1 (by simpa using e))
  refine sz_is ?_ (by have := fold_lt (c :: xs); simpa using this)
  rw [fold_cons]
  have : 1 * 256 ^ xs.length ≤ c.toNat * 256 ^ xs.length := Nat.mul_le_mul_right _ (by omega)
  omega
theorem be_head {m : Nat} {c : UInt8} {xs : List UInt8} (h : be (sz m) m = c :: xs) : c ≠ 0 := fun e => by
  subst e
  have h1 := fold_be (sz m) m (sz_lt m)
  have h2 := be_len (sz m) m
  rw [h, fold_cons] at h1
  rw [h] at h2
  have h3 := fold_lt xs
  simp only [List.length_cons] at h2
  have h4 : m < 256 ^ xs.length := by simp at h1; omega
  have := sz_le _ _ h4
  omega
theorem numL_on (f : UInt8 → UInt8) : ∀ (xs : List UInt8) (first : Bool) (m : Nat) (r : List UInt8), (first = true → ∀ c ys, xs = c :: ys → f c ≠ 0) → numL f xs.length first m (xs ++ r) = .ok (fold m (xs.map f), r)
  | [], _, m, r, _ => rfl
  | c :: xs, first, m, r, h => by
    show (if first = true ∧ f c = 0 then _ else numL f xs.length false (m * 256 + (f c).toNat) (xs ++ r)) = _
    rw [if_neg (fun q => h q.1 c xs rfl q.2), numL_on f xs false _ r (fun h => by cases h)]
    rfl
theorem numL_of (f : UInt8 → UInt8) : ∀ (k : Nat) (first : Bool) (m : Nat) (s : List UInt8) (n : Nat) (r : List UInt8), numL f k first m s = .ok (n, r) → ∃ xs, s = xs ++ r ∧ xs.length = k ∧ n = fold m (xs.map f) ∧ (first = true → ∀ c ys, xs = c :: ys → f c ≠ 0)
  | 0, _, m, s, n, r, h => by
    simp only [numL, Except.ok.injEq, Prod.mk.injEq] at h
    obtain ⟨rfl, rfl⟩ := h
    exact ⟨[], rfl, rfl, rfl, fun _ c ys h => by cases h⟩
  | k + 1, first, m, [], n, r, h => by simp [numL] at h
  | k + 1, first, m, c :: s, n, r, h => by
    unfold numL at h
    split at h
    · cases h
    · rename_i q
      obtain ⟨xs, rfl, h2, h3, _⟩ := numL_of f k false _ s n r h
      exact ⟨c :: xs, rfl, by simp [h2], by rw [h3]; rfl, fun hf d ys e => by cases e; exact fun e0 => q ⟨hf, e0⟩⟩
theorem fl_fl (c : UInt8) : fl (fl c) = c := by
  unfold fl
  apply UInt8.toNat_inj.1
  have := c.toNat_lt
  rw [UInt8.toNat_sub_of_le _ _ (by rw [UInt8.le_iff_toNat_le, UInt8.toNat_sub_of_le _ _ (by rw [UInt8.le_iff_toNat_le]; simp; omega)]; simp), UInt8.toNat_sub_of_le _ _ (by rw [UInt8.le_iff_toNat_le]; simp; omega)]
  simp; omega
theorem map_ff {f : UInt8 → UInt8} (hf : ∀ c, f (f c) = c) (l : List UInt8) : (l.map f).map f = l := by
  rw [List.map_map]
  conv => rhs; rw [← List.map_id l]
  congr 1
  funext c
  exact hf c
theorem numD_on {f : UInt8 → UInt8} (hf : ∀ c, f (f c) = c) {m : Nat} (hm : m < 9223372036854775808) (r : List UInt8) : numD f (sz m) ((be (sz m) m).map f ++ r) = .ok (m, r) := by
  have hl : ((be (sz m) m).map f).length = sz m := by rw [List.length_map, be_len]
  unfold numD
  rw [if_neg (by rw [List.length_append, hl]; omega)]
  have h := numL_on f ((be (sz m) m).map f) true 0 r (fun _ c ys e => by
    have e2 := congrArg (List.map f) e
    rw [map_ff hf] at e2
    exact be_head e2)
  rw [hl, map_ff hf, fold_be _ _ (sz_lt m)] at h
  rw [h]
  exact if_neg (by omega)
theorem numD_of {f : UInt8 → UInt8} (hf : ∀ c, f (f c) = c) {k m : Nat} {s r : List UInt8} (h : numD f k s = .ok (m, r)) : m < 9223372036854775808 ∧ sz m = k ∧ s = (be k m).map f ++ r := by
  unfold numD at h
  split at h
  · cases h
  · split at h
    · cases h
    · rename_i m' r' hL
      split at h
      · cases h
      · rename_i hm
        cases h
        obtain ⟨xs, rfl, h2, h3, h4⟩ := numL_of f k true 0 s m r hL
        have e : be k m = xs.map f := by
          rw [h3]; exact be_fold k (xs.map f) (by simpa using h2)
        refine ⟨by omega, ?_, by rw [e, map_ff hf]⟩
        cases xs with
        | nil =>
          simp at h2; subst h2
          rw [h3]; simp [fold, sz_zero]
        | cons c ys =>
          rw [h3, List.map_cons, sz_fold (h4 rfl c ys rfl)]
          simpa using h2
/-! texts -/
theorem textD_on : ∀ (l acc r : List UInt8), (acc ++ l).length ≤ 64 → textD (esc l ++ 0 :: r) acc = .ok (acc ++ l, r)
  | [], acc, r, h => by
    show textD (0 :: r) acc = _
    unfold textD
    rw [if_pos rfl, if_pos (by simpa using h)]; simp
  | c :: l, acc, r, h => by
    have e1 : esc (c :: l) ++ 0 :: r = esc1 c ++ (esc l ++ 0 :: r) := by simp [esc]
    have ih := textD_on l (acc ++ [c]) r (by simpa using h)
    rw [e1]
    unfold esc1
    by_cases q : c < 2
    · rw [if_pos q]
      show textD (1 :: (c + 1) :: (esc l ++ 0 :: r)) acc = _
      have q' : c.toNat < 2 := by rw [UInt8.lt_iff_toNat_lt] at q; exact q
      have hc : c = 0 ∨ c = 1 := by
        rcases Nat.lt_or_ge c.toNat 1 with h1 | h1
        · left; apply UInt8.toNat_inj.1; simp; omega
        · right; apply UInt8.toNat_inj.1; simp; omega
      unfold textD
      rw [if_neg (by decide), if_pos rfl]
      dsimp only
      rcases hc with rfl | rfl
      · rw [if_pos (by decide)]
        have e : ((0 : UInt8) + 1 - 1) = 0 := by decide
        rw [e, ih]; simp
      · rw [if_pos (by decide)]
        have e : ((1 : UInt8) + 1 - 1) = 1 := by decide
        rw [e, ih]; simp
    · rw [if_neg q]
      show textD (c :: (esc l ++ 0 :: r)) acc = _
      unfold textD
      rw [if_neg (fun e => q (by rw [e]; decide)), if_neg (fun e => q (by rw [e]; decide)), ih]; simp
theorem textD_of : ∀ (n : Nat) (s acc t r : List UInt8), s.length ≤ n → textD s acc = .ok (t, r) → ∃ l, t = acc ++ l ∧ s = esc l ++ 0 :: r ∧ t.length ≤ 64
  | _, [], acc, t, r, _, h => by simp [textD] at h
  | 0, c :: s, _, _, _, hn, _ => by simp at hn
  | n + 1, c :: s, acc, t, r, hn, h => by
    unfold textD at h
    by_cases c0 : c = 0
    · rw [if_pos c0] at h
      split at h
      · cases h
        exact ⟨[], by simp, by rw [c0]; rfl, by assumption⟩
      · cases h
    · rw [if_neg c0] at h
      by_cases c1 : c = 1
      · rw [if_pos c1] at h
        cases s with
        | nil => cases h
        | cons d s =>
          dsimp only at h
          split at h
          · rename_i hd
            obtain ⟨l, rfl, rfl, h3⟩ := textD_of n s _ t r (by simp at hn; omega) h
            refine ⟨(d - 1) :: l, by simp, ?_, h3⟩
            have e1 : esc ((d - 1) :: l) ++ 0 :: r = esc1 (d - 1) ++ (esc l ++ 0 :: r) := by simp [esc]
            rw [e1, c1]
            rcases hd with rfl | rfl <;> rfl
          · cases h
      · rw [if_neg c1] at h
        obtain ⟨l, rfl, rfl, h3⟩ := textD_of n s _ t r (by simp at hn; omega) h
        refine ⟨c :: l, by simp, ?_, h3⟩
        have e1 : esc (c :: l) ++ 0 :: r = esc1 c ++ (esc l ++ 0 :: r) := by simp [esc]
        rw [e1]
        unfold esc1
        rw [if_neg (fun q => by
          rw [UInt8.lt_iff_toNat_lt] at q
          have q' : c.toNat < 2 := q
          rcases Nat.lt_or_ge c.toNat 1 with h1 | h1
          · exact c0 (UInt8.toNat_inj.1 (by simp; omega))
          · exact c1 (UInt8.toNat_inj.1 (by simp; omega)))]
        rfl
/-! values -/
theorem nos_of {s : ByteArray} (h : s.toList = []) : s = nos := by rw [← tx_of s, h]; rfl
theorem valD_on {v : V} (h : good v) (r : List UInt8) : valD (encV v ++ r) = .ok (v, r) := by
  obtain ⟨hi, hc⟩ := h
  have i1 := hi.1; have i2 := hi.2
  obtain ⟨k, n, s⟩ := v
  dsimp only at i1 i2
  by_cases k0 : k = 0
  · subst k0
    have : n = 0 ∧ s.toList = [] := by
      unfold vcheck at hc
      rw [if_pos rfl] at hc
      split at hc
      · assumption
      · cases hc
    obtain ⟨rfl, hs⟩ := this
    rw [nos_of hs]; rfl
  · by_cases k1 : k = 1
    · subst k1
      have hs : s.toList = [] := by
        unfold vcheck at hc
        rw [if_neg k0, if_pos rfl] at hc
        split at hc
        · assumption
        · cases hc
      have e : encV ⟨1, n, s⟩ = encNum n := rfl
      rw [e, nos_of hs]
      by_cases p : 0 ≤ n
      · have z := sz_num (m := n.toNat) (by omega)
        have e1 : encNum n = UInt8.ofNat (64 + sz n.toNat) :: be (sz n.toNat) n.toNat := by rw [encNum, if_pos p]
        have e2 : (UInt8.ofNat (64 + sz n.toNat)).toNat = 64 + sz n.toNat := by rw [UInt8.toNat_ofNat']; omega
        have h3 := numD_on (f := id) (fun _ => rfl) (m := n.toNat) (by omega) r
        rw [List.map_id] at h3
        rw [e1, List.cons_append]
        unfold valD
        dsimp only
        rw [e2, if_neg (by omega), if_neg (by omega), if_neg (by omega), if_pos (by omega), show 64 + sz n.toNat - 64 = sz n.toNat by omega, h3]
        simp; omega
      · have z := sz_num (m := (-n - 1).toNat) (by omega)
        have e1 : encNum n = UInt8.ofNat (63 - sz (-n - 1).toNat) :: (be (sz (-n - 1).toNat) (-n - 1).toNat).map fl := by rw [encNum, if_neg p]
        have e2 : (UInt8.ofNat (63 - sz (-n - 1).toNat)).toNat = 63 - sz (-n - 1).toNat := by rw [UInt8.toNat_ofNat']; omega
        have h3 := numD_on fl_fl (m := (-n - 1).toNat) (by omega) r
        rw [e1, List.cons_append]
        unfold valD
        dsimp only
        rw [e2, if_neg (by omega), if_neg (by omega), if_neg (by omega), if_neg (by omega), if_pos (by omega), show 63 - (63 - sz (-n - 1).toNat) = sz (-n - 1).toNat by omega, h3]
        simp; omega
    · by_cases k2 : k = 2
      · subst k2
        obtain ⟨hs, n0, n1⟩ := vcheck_bool (v := ⟨2, n, s⟩) hi hc rfl
        dsimp only at hs n0 n1
        have e : encV ⟨2, n, s⟩ = [UInt8.ofNat (80 + n.toNat)] := rfl
        have e2 : (UInt8.ofNat (80 + n.toNat)).toNat = 80 + n.toNat := by rw [UInt8.toNat_ofNat']; omega
        rw [e, nos_of hs, List.cons_append]
        unfold valD
        dsimp only
        rw [e2, if_neg (by omega), if_pos (by omega)]
        simp; omega
      · by_cases k3 : k = 3
        · subst k3
          have : n = 0 ∧ (s.size : Int) ≤ 64 := by
            unfold vcheck at hc
            rw [if_neg k0, if_neg k1, if_neg k2, if_pos rfl] at hc
            split at hc
            · assumption
            · cases hc
          obtain ⟨rfl, hs⟩ := this
          have e : encV ⟨3, 0, s⟩ ++ r = 96 :: (esc s.toList ++ 0 :: r) := by simp [encV]
          have hl : s.toList.length = s.size := by rw [ByteArray.toList_eq, Array.length_toList]; rfl
          rw [e]
          unfold valD
          dsimp only
          rw [if_neg (by decide), if_neg (by decide), if_pos (by decide), textD_on s.toList [] r (by simp; omega)]
          simp [tx_of]
        · simp [vcheck, k0, k1, k2, k3] at hc
theorem valD_of {s r : List UInt8} {v : V} (h : valD s = .ok (v, r)) : good v ∧ s = encV v ++ r := by
  cases s with
  | nil => simp [valD] at h
  | cons c s =>
    have hcl := c.toNat_lt
    have hcc : UInt8.ofNat c.toNat = c := by simp
    unfold valD at h
    dsimp only at h
    by_cases c4 : c.toNat = 4
    · rw [if_pos c4] at h
      cases h
      refine ⟨⟨by decide, by simp [vcheck, nos, ByteArray.toList_eq]⟩, ?_⟩
      have : c = 4 := UInt8.toNat_inj.1 (by simpa using c4)
      rw [this]; rfl
    · rw [if_neg c4] at h
      by_cases c80 : c.toNat = 80 ∨ c.toNat = 81
      · rw [if_pos c80] at h
        cases h
        refine ⟨⟨⟨by show _ ≤ (c.toNat : Int) - 80; omega, by show (c.toNat : Int) - 80 ≤ _; omega⟩, ?_⟩, ?_⟩
        · unfold vcheck
          dsimp only
          rw [if_neg (by decide), if_neg (by decide), if_pos rfl, if_pos ⟨by simp [nos, ByteArray.toList_eq], by rw [IntKind.wrap_u64]; omega⟩]
        · show c :: r = UInt8.ofNat (80 + ((c.toNat : Int) - 80).toNat) :: r
          rw [show 80 + ((c.toNat : Int) - 80).toNat = c.toNat by omega, hcc]
      · rw [if_neg c80] at h
        by_cases c96 : c.toNat = 96
        · rw [if_pos c96] at h
          have hc : c = 96 := UInt8.toNat_inj.1 (by simpa using c96)
          cases ht : textD s [] with
          | error e => rw [ht] at h; cases h
          | ok p =>
            obtain ⟨t, r'⟩ := p
            rw [ht] at h
            cases h
            obtain ⟨l, h1, h2, h3⟩ := textD_of _ s [] t r (Nat.le_refl _) ht
            simp at h1
            subst h1
            refine ⟨⟨show InR 0 by decide, ?_⟩, ?_⟩
            · unfold vcheck
              dsimp only
              rw [if_neg (by decide), if_neg (by decide), if_neg (by decide), if_pos rfl, if_pos ⟨rfl, by rw [tx_size]; omega⟩]
            · rw [h2, hc]; simp [encV, tx_list]
        · rw [if_neg c96] at h
          by_cases c64 : 64 ≤ c.toNat ∧ c.toNat ≤ 72
          · rw [if_pos c64] at h
            cases hd : numD id (c.toNat - 64) s with
            | error e => rw [hd] at h; cases h
            | ok p =>
              obtain ⟨m, r'⟩ := p
              rw [hd] at h
              cases h
              obtain ⟨h1, h2, h3⟩ := numD_of (f := id) (fun _ => rfl) hd
              rw [List.map_id] at h3
              refine ⟨⟨⟨by show _ ≤ (m : Int); omega, by show (m : Int) ≤ _; omega⟩, by simp [vcheck, nos, ByteArray.toList_eq]⟩, ?_⟩
              have e : encV ⟨1, (m : Int), nos⟩ = encNum m := rfl
              rw [e, encNum, if_pos (by omega), Int.toNat_natCast, h2, show 64 + (c.toNat - 64) = c.toNat by omega, hcc, List.cons_append, ← h3]
          · rw [if_neg c64] at h
            by_cases c55 : c.toNat < 64 ∧ 55 ≤ c.toNat
            · rw [if_pos c55] at h
              cases hd : numD fl (63 - c.toNat) s with
              | error e => rw [hd] at h; cases h
              | ok p =>
                obtain ⟨m, r'⟩ := p
                rw [hd] at h
                cases h
                obtain ⟨h1, h2, h3⟩ := numD_of fl_fl hd
                refine ⟨⟨⟨by show _ ≤ -(m : Int) - 1; omega, by show -(m : Int) - 1 ≤ _; omega⟩, by simp [vcheck, nos, ByteArray.toList_eq]⟩, ?_⟩
                have e : encV ⟨1, -(m : Int) - 1, nos⟩ = encNum (-(m : Int) - 1) := rfl
                rw [e, encNum, if_neg (by omega), show (-(-(m : Int) - 1) - 1).toNat = m by omega, h2, show 63 - (63 - c.toNat) = c.toNat by omega, hcc, List.cons_append, ← h3]
            · rw [if_neg c55] at h; cases h
/-! lists -/
theorem decL_on : ∀ (l : List V) (n : Nat) (acc : List V), (∀ v ∈ l, good v) → (encL l).length ≤ n → decL n (encL l) acc = .ok (acc ++ l)
  | [], n, acc, _, _ => by cases n <;> simp [encL, decL]
  | v :: l, n, acc, h, hn => by
    obtain ⟨c, s, e⟩ := enc_cons (h v (by simp))
    have hv := valD_on (h v (by simp)) (encL l)
    rw [encL_cons] at hn ⊢
    rw [e] at hv hn ⊢
    cases n with
    | zero => simp at hn
    | succ n =>
      show (match valD (c :: (s ++ encL l)) with | .error e => _ | .ok (v, r) => decL n r (acc ++ [v])) = _
      rw [show c :: (s ++ encL l) = c :: s ++ encL l from rfl, hv]
      dsimp only
      rw [decL_on l n (acc ++ [v]) (fun v hv => h v (by simp [hv])) (by simp at hn; omega)]
      simp
theorem decL_of : ∀ (n : Nat) (s : List UInt8) (acc m : List V), decL n s acc = .ok m → ∃ l, m = acc ++ l ∧ (∀ v ∈ l, good v) ∧ s = encL l
  | n, [], acc, m, h => by
    have : decL n [] acc = .ok acc := by cases n <;> rfl
    rw [this] at h
    cases h
    exact ⟨[], by simp, by simp, rfl⟩
  | 0, c :: s, acc, m, h => by cases h
  | n + 1, c :: s, acc, m, h => by
    unfold decL at h
    split at h
    · cases h
    · rename_i v r hv
      obtain ⟨h1, h2⟩ := valD_of hv
      obtain ⟨l, h3, h4, rfl⟩ := decL_of n r _ m h
      refine ⟨v :: l, by rw [h3]; simp, fun u hu => ?_, by rw [h2, encL_cons]⟩
      rcases List.mem_cons.1 hu with rfl | hu
      · exact h1
      · exact h4 u hu
/-- A list comes back from its key. -/
theorem decode_on {l : List V} (hi : ∀ v ∈ l, InR v.n) (h : (encode l).2 = 0) : decode (encode l).1 = (l, 0) := by
  unfold encode at h ⊢
  split at h
  · cases h
  · rename_i h64
    rw [if_neg h64]
    split at h
    · rename_i hok
      rw [if_pos hok]
      have hg : ∀ v ∈ l, good v := fun v hv => ⟨hi v hv, by
        have := List.all_eq_true.1 hok v hv
        simpa [okV] using this⟩
      unfold decode
      dsimp only
      rw [decL_on l _ [] hg (Nat.le_refl _)]
      dsimp only [List.nil_append]
      rw [if_pos (by omega)]
    · cases h
/-- What is read is built again of what was read. -/
theorem decode_of {s : List UInt8} (h : (decode s).2 = 0) (h22 : ∀ n t acc e, decL n t acc = .error e → e ≠ 0) : (∀ v ∈ (decode s).1, InR v.n) ∧ encode (decode s).1 = (s, 0) := by
  unfold decode at h ⊢
  split at h
  · rename_i e he
    exact absurd h (h22 _ _ _ _ he)
  · rename_i l hl
    split at h
    · rename_i h64
      obtain ⟨l', h1, h2, h3⟩ := decL_of _ s [] l hl
      simp at h1
      subst h1
      rw [if_pos h64]
      refine ⟨fun v hv => (h2 v hv).1, ?_⟩
      unfold encode
      dsimp only
      rw [if_neg (by omega), if_pos (List.all_eq_true.2 (fun v hv => by simp [okV, (h2 v hv).2])), ← h3]
    · cases h
theorem numD_err {f : UInt8 → UInt8} {k : Nat} {s : List UInt8} {e : Int} (h : numD f k s = .error e) : e ≠ 0 := by
  have hL : ∀ (k : Nat) (first : Bool) (m : Nat) (s : List UInt8) (e : Int), numL f k first m s = .error e → e ≠ 0 := by
    intro k
    induction k with
    | zero => intro first m s e h; simp [numL] at h
    | succ k ih =>
      intro first m s e h
      cases s with
      | nil => simp [numL] at h; omega
      | cons c s =>
        unfold numL at h
        split at h
        · cases h; decide
        · exact ih _ _ _ _ h
  unfold numD at h
  split at h
  · cases h; decide
  · split at h
    · rename_i e' he
      cases h
      exact hL _ _ _ _ _ he
    · split at h
      · cases h; decide
      · cases h
theorem textD_err : ∀ (n : Nat) (s acc : List UInt8) (e : Int), s.length ≤ n → textD s acc = .error e → e ≠ 0
  | _, [], acc, e, _, h => by simp [textD] at h; omega
  | 0, c :: s, _, _, hn, _ => by simp at hn
  | n + 1, c :: s, acc, e, hn, h => by
    unfold textD at h
    by_cases c0 : c = 0
    · rw [if_pos c0] at h
      split at h
      · cases h
      · cases h; decide
    · rw [if_neg c0] at h
      by_cases c1 : c = 1
      · rw [if_pos c1] at h
        cases s with
        | nil => cases h; decide
        | cons d s =>
          dsimp only at h
          split at h
          · exact textD_err n s _ e (by simp at hn; omega) h
          · cases h; decide
      · rw [if_neg c1] at h
        exact textD_err n s _ e (by simp at hn; omega) h
theorem valD_err {s : List UInt8} {e : Int} (h : valD s = .error e) : e ≠ 0 := by
  unfold valD at h
  split at h
  · cases h; decide
  · (repeat' split at h) <;> first
      | (cases h; done)
      | (rename_i h1; cases h; exact textD_err _ _ _ _ (Nat.le_refl _) h1)
      | (rename_i h1; cases h; exact numD_err h1)
      | (cases h; decide)
theorem decL_err : ∀ (n : Nat) (s : List UInt8) (acc : List V) (e : Int), decL n s acc = .error e → e ≠ 0
  | n, [], acc, e, h => by
    have : decL n [] acc = .ok acc := by cases n <;> rfl
    rw [this] at h; cases h
  | 0, c :: s, acc, e, h => by cases h; decide
  | n + 1, c :: s, acc, e, h => by
    unfold decL at h
    split at h
    · rename_i he
      cases h
      exact valD_err he
    · exact decL_err n _ _ e h
theorem decode_err {s : List UInt8} (h : (decode s).2 ≠ 0) : (decode s).1 = [] := by
  unfold decode at h ⊢
  split
  · rfl
  · split
    · rename_i l hl h64
      rw [hl] at h
      simp [h64] at h
    · rfl
end Go.Proofs.Ytinkmcbcfdlnjaa
