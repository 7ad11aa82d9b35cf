/- Keys, in plain Lean: a value's octets, and how they are ordered. -/
import Derived.Test.YtfmfmammcjpboaaBase
import Derived.Test.YtfmfmammcjpboaaSpec
import Derived.Lib.BitFns
namespace Go.Proofs.Ytfmfmammcjpboaa
open Go.RowKit
set_option linter.unusedVariables false
set_option linter.unusedSimpArgs false
/-- Two rows of octets part at a place where the first has the lesser one. -/
def Dif (x y : List UInt8) : Prop := ∃ p c d s t, x = p ++ c :: s ∧ y = p ++ d :: t ∧ c < d
theorem Dif.app {x y : List UInt8} (h : Dif x y) (r q : List UInt8) : Dif (x ++ r) (y ++ q) := by
  obtain ⟨p, c, d, s, t, rfl, rfl, h⟩ := h
  exact ⟨p, c, d, s ++ r, t ++ q, by simp, by simp, h⟩
theorem Dif.pre {x y : List UInt8} (r : List UInt8) (h : Dif x y) : Dif (r ++ x) (r ++ y) := by
  obtain ⟨p, c, d, s, t, rfl, rfl, h⟩ := h
  exact ⟨r ++ p, c, d, s, t, by simp, by simp, h⟩
theorem Dif.head {c d : UInt8} (h : c < d) (s t : List UInt8) : Dif (c :: s) (d :: t) := ⟨[], c, d, s, t, rfl, rfl, h⟩
theorem Dif.cons {x y : List UInt8} (c : UInt8) (h : Dif x y) : Dif (c :: x) (c :: y) := h.pre [c]
theorem less_pre : ∀ (p x y : List UInt8), Op.bytesLess (p ++ x) (p ++ y) = Op.bytesLess x y
  | [], x, y => rfl
  | c :: p, x, y => by
    have : ¬ c < c := by rw [UInt8.lt_iff_toNat_lt]; omega
    simp [Op.bytesLess, less_pre p x y, this]
theorem Dif.less {x y : List UInt8} (h : Dif x y) : Op.bytesLess x y = true := by
  obtain ⟨p, c, d, s, t, rfl, rfl, h⟩ := h
  rw [less_pre]; simp [Op.bytesLess, h]
theorem Dif.more {x y : List UInt8} (h : Dif x y) : Op.bytesLess y x = false := by
  obtain ⟨p, c, d, s, t, rfl, rfl, h⟩ := h
  have h1 : ¬ d < c := by rw [UInt8.lt_iff_toNat_lt] at *; omega
  have h2 : ¬ d = c := by rintro rfl; rw [UInt8.lt_iff_toNat_lt] at h; omega
  rw [less_pre]; simp [Op.bytesLess, h1, h2]
theorem Dif.ne {x y : List UInt8} (h : Dif x y) : x ≠ y := by
  rintro rfl; have := h.less; rw [less_irrefl] at this; cases this
theorem Dif.take {x y : List UInt8} (h : Dif x y) : y.take x.length ≠ x ∧ x.take y.length ≠ y := by
  obtain ⟨p, c, d, s, t, rfl, rfl, h⟩ := h
  have hne : ¬ c = d := by rintro rfl; rw [UInt8.lt_iff_toNat_lt] at h; omega
  constructor
  · intro e
    have := congrArg (fun l : List UInt8 => l[p.length]?) e
    simp at this; exact hne this.symm
  · intro e
    have := congrArg (fun l : List UInt8 => l[p.length]?) e
    simp at this; exact hne this
/-! numbers -/
def sz (m : Nat) : Nat := if m = 0 then 0 else sz (m / 256) + 1
termination_by m
decreasing_by omega
theorem sz_zero : sz 0 = 0 := by rw [sz]; rfl
theorem sz_pos {m : Nat} (h : m ≠ 0) : sz m = sz (m / 256) + 1 := by rw [sz, if_neg h]
theorem sz_lt (m : Nat) : m < 256 ^ sz m := by
  induction m using Nat.strongRecOn with
  | ind m ih =>
    by_cases h : m = 0
    · subst h; rw [sz_zero]; omega
    · have := ih (m / 256) (by omega)
      rw [sz_pos h, Nat.pow_succ]; omega
theorem sz_le : ∀ (k m : Nat), m < 256 ^ k → sz m ≤ k
  | 0, m, h => by obtain rfl : m = 0 := by omega
                  rw [sz_zero]; omega
  | k + 1, m, h => by
    by_cases e : m = 0
    · subst e; rw [sz_zero]; omega
    · rw [sz_pos e]
      have := sz_le k (m / 256) (by rw [Nat.pow_succ] at h; omega)
      omega
theorem sz_mono {m n : Nat} (h : m ≤ n) : sz m ≤ sz n := sz_le _ _ (Nat.lt_of_le_of_lt h (sz_lt n))
/-- m's k octets, the greatest first. -/
def be : Nat → Nat → List UInt8
  | 0, _ => []
  | k + 1, m => be k (m / 256) ++ [UInt8.ofNat m]
theorem be_len : ∀ k m, (be k m).length = k
  | 0, _ => rfl
  | k + 1, m => by simp [be, be_len k]
theorem ofNat_lt {a b : Nat} (h : a % 256 < b % 256) : UInt8.ofNat a < UInt8.ofNat b := by rw [UInt8.lt_iff_toNat_lt]; simpa using h
theorem be_dif : ∀ (k m n : Nat), m < n → n < 256 ^ k → Dif (be k m) (be k n)
  | 0, m, n, h, g => by simp at g; omega
  | k + 1, m, n, h, g => by
    unfold be
    by_cases e : m / 256 < n / 256
    · exact (be_dif k _ _ e (by rw [Nat.pow_succ] at g; omega)).app _ _
    · have e2 : m / 256 = n / 256 := by omega
      rw [e2]
      exact (Dif.head (ofNat_lt (by omega)) [] []).pre _
def fl (b : UInt8) : UInt8 := 255 - b
theorem fl_lt {c d : UInt8} (h : c < d) : fl d < fl c := by
  unfold fl
  rw [UInt8.lt_iff_toNat_lt] at *
  have h1 := c.toNat_lt; have h2 := d.toNat_lt
  rw [UInt8.toNat_sub_of_le _ _ (by rw [UInt8.le_iff_toNat_le]; simp; omega), UInt8.toNat_sub_of_le _ _ (by rw [UInt8.le_iff_toNat_le]; simp; omega)]
  simp; omega
theorem Dif.flip {x y : List UInt8} (h : Dif x y) : Dif (y.map fl) (x.map fl) := by
  obtain ⟨p, c, d, s, t, rfl, rfl, h⟩ := h
  exact ⟨p.map fl, fl d, fl c, t.map fl, s.map fl, by simp, by simp, fl_lt h⟩
def encNum (n : Int) : List UInt8 :=
  if 0 ≤ n then UInt8.ofNat (64 + sz n.toNat) :: be (sz n.toNat) n.toNat else UInt8.ofNat (63 - sz (-n - 1).toNat) :: (be (sz (-n - 1).toNat) (-n - 1).toNat).map fl
theorem sz_num {m : Nat} (h : m < 9223372036854775808) : sz m ≤ 8 := sz_le 8 m (by omega)
theorem num_dif {a b : Int} (h : a < b) (ha : InR a) (hb : InR b) : Dif (encNum a) (encNum b) := by
  have h1 := ha.1; have h2 := ha.2; have h3 := hb.1; have h4 := hb.2
  unfold encNum
  by_cases p : 0 ≤ a
  · have q : 0 ≤ b := by omega
    rw [if_pos p, if_pos q]
    have m := sz_mono (m := a.toNat) (n := b.toNat) (by omega)
    have z := sz_num (m := b.toNat) (by omega)
    by_cases e : sz a.toNat = sz b.toNat
    · rw [e]; exact (be_dif _ _ _ (by omega) (sz_lt _)).cons _
    · exact Dif.head (ofNat_lt (by omega)) _ _
  · rw [if_neg p]
    have z := sz_num (m := (-a - 1).toNat) (by omega)
    by_cases q : 0 ≤ b
    · rw [if_pos q]
      have z := sz_num (m := b.toNat) (by omega)
      exact Dif.head (ofNat_lt (by omega)) _ _
    · rw [if_neg q]
      have m := sz_mono (m := (-b - 1).toNat) (n := (-a - 1).toNat) (by omega)
      by_cases e : sz (-a - 1).toNat = sz (-b - 1).toNat
      · rw [e]; rw [e] at z
        have l := sz_lt (-a - 1).toNat
        rw [e] at l
        exact (be_dif _ _ _ (by omega) l).flip.cons _
      · exact Dif.head (ofNat_lt (by omega)) _ _
theorem num_len (n : Int) (h : InR n) : 1 ≤ (encNum n).length ∧ (encNum n).length ≤ 9 := by
  have h1 := h.1; have h2 := h.2
  have z := sz_num (m := n.toNat) (by omega)
  have y := sz_num (m := (-n - 1).toNat) (by omega)
  unfold encNum; split <;> simp only [List.length_cons, List.length_map, be_len] <;> omega
theorem num_most : (encNum 9223372036854775807).length = 9 := by
  have h1 : sz 9223372036854775807 ≤ 8 := sz_num (by omega)
  have h2 := sz_lt 9223372036854775807
  have h3 : ¬ sz 9223372036854775807 ≤ 7 := fun h => by
    have := Nat.pow_le_pow_right (n := 256) (by omega) h
    omega
  unfold encNum
  rw [if_pos (by omega)]
  simp [be_len]; omega
/-! texts -/
def esc1 (c : UInt8) : List UInt8 := if c < 2 then [1, c + 1] else [c]
def esc (l : List UInt8) : List UInt8 := l.flatMap esc1
theorem esc_pos (c : UInt8) : ∃ d s, esc1 c = d :: s ∧ 0 < d := by
  unfold esc1; split
  · exact ⟨1, _, rfl, by decide⟩
  · rename_i h
    refine ⟨c, [], rfl, ?_⟩
    rw [UInt8.lt_iff_toNat_lt] at *
    simp at *; omega
theorem esc_dif {c d : UInt8} (h : c < d) : Dif (esc1 c) (esc1 d) := by
  unfold esc1
  have hc := c.toNat_lt; have hd := d.toNat_lt
  split
  · rename_i h1
    split
    · rename_i h2
      refine (Dif.head ?_ [] []).cons 1
      rw [UInt8.lt_iff_toNat_lt] at *
      simp at *; omega
    · rename_i h2
      refine Dif.head ?_ _ _
      rw [UInt8.lt_iff_toNat_lt] at *
      simp at *; omega
  · rename_i h1
    have h2 : ¬ d < 2 := by rw [UInt8.lt_iff_toNat_lt] at *; simp at *; omega
    rw [if_neg h2]
    exact Dif.head h _ _
theorem text_dif : ∀ (a b : List UInt8), Op.bytesLess a b = true → Dif (esc a ++ [0]) (esc b ++ [0])
  | [], [], h => by simp [Op.bytesLess] at h
  | [], d :: m, _ => by
    obtain ⟨e, s, he, hp⟩ := esc_pos d
    have : esc (d :: m) ++ [0] = e :: (s ++ (esc m ++ [0])) := by simp [esc, he]
    rw [this]
    exact Dif.head hp _ _
  | _ :: _, [], h => by simp [Op.bytesLess] at h
  | c :: l, d :: m, h => by
    simp only [Op.bytesLess, Bool.or_eq_true, decide_eq_true_eq, Bool.and_eq_true, beq_iff_eq] at h
    have e1 : esc (c :: l) ++ [0] = esc1 c ++ (esc l ++ [0]) := by simp [esc]
    have e2 : esc (d :: m) ++ [0] = esc1 d ++ (esc m ++ [0]) := by simp [esc]
    rw [e1, e2]
    rcases h with h | ⟨rfl, h⟩
    · exact (esc_dif h).app _ _
    · exact (text_dif l m h).pre _
/-! values -/
def encV (v : V) : List UInt8 :=
  if v.k = 0 then [4] else if v.k = 1 then encNum v.n else if v.k = 2 then [UInt8.ofNat (80 + v.n.toNat)] else if v.k = 3 then 96 :: (esc v.s.toList ++ [0]) else []
theorem vcheck_bool {v : V} (hi : InR v.n) (h : vcheck v = 0) (k : v.k = 2) : v.s.toList = [] ∧ 0 ≤ v.n ∧ v.n ≤ 1 := by
  unfold vcheck at h
  rw [if_neg (by omega), if_neg (by omega), if_pos k] at h
  split at h
  · rename_i q
    have h1 := hi.1; have h2 := hi.2
    have e : IntKind.u64.wrap v.n = v.n % 18446744073709551616 := by rw [IntKind.wrap_u64]
    rw [e] at q
    exact ⟨q.1, by omega, by omega⟩
  · cases h
theorem enc_head {v : V} (hi : InR v.n) (h : vcheck v = 0) : ∃ c s, encV v = c :: s ∧ (v.k = 0 ∧ c = 4 ∧ s = [] ∨ v.k = 1 ∧ 55 ≤ c.toNat ∧ c.toNat ≤ 72 ∨ v.k = 2 ∧ c.toNat = 80 + v.n.toNat ∧ v.n.toNat ≤ 1 ∧ s = [] ∨ v.k = 3 ∧ c = 96) := by
  have h1 := hi.1; have h2 := hi.2
  by_cases k0 : v.k = 0
  · exact ⟨4, [], by simp [encV, k0], .inl ⟨k0, rfl, rfl⟩⟩
  · by_cases k1 : v.k = 1
    · have z := sz_num (m := v.n.toNat) (by omega)
      have y := sz_num (m := (-v.n - 1).toNat) (by omega)
      by_cases p : 0 ≤ v.n
      · refine ⟨UInt8.ofNat (64 + sz v.n.toNat), be (sz v.n.toNat) v.n.toNat, by simp only [encV, if_neg k0, if_pos k1, encNum, if_pos p], .inr (.inl ⟨k1, ?_, ?_⟩)⟩ <;> rw [UInt8.toNat_ofNat'] <;> omega
      · refine ⟨UInt8.ofNat (63 - sz (-v.n - 1).toNat), (be (sz (-v.n - 1).toNat) (-v.n - 1).toNat).map fl, by simp only [encV, if_neg k0, if_pos k1, encNum, if_neg p], .inr (.inl ⟨k1, ?_, ?_⟩)⟩ <;> rw [UInt8.toNat_ofNat'] <;> omega
    · by_cases k2 : v.k = 2
      · obtain ⟨_, n0, n1⟩ := vcheck_bool hi h k2
        refine ⟨UInt8.ofNat (80 + v.n.toNat), [], by simp only [encV, if_neg k0, if_neg k1, if_pos k2], .inr (.inr (.inl ⟨k2, ?_, by omega, rfl⟩))⟩
        rw [UInt8.toNat_ofNat']; omega
      · by_cases k3 : v.k = 3
        · exact ⟨96, esc v.s.toList ++ [0], by simp only [encV, if_neg k0, if_neg k1, if_neg k2, if_pos k3], .inr (.inr (.inr ⟨k3, rfl⟩))⟩
        · simp [vcheck, k0, k1, k2, k3] at h
theorem enc_dif {a b : V} (ia : InR a.n) (ib : InR b.n) (ha : vcheck a = 0) (hb : vcheck b = 0) (h : vorder a b = -1) : Dif (encV a) (encV b) := by
  by_cases e : a.k = b.k
  · have ek : cmpI a.k b.k = 0 := by rw [e]; simp [cmpI]
    unfold vorder at h
    simp only [ek, ne_eq, not_true, if_false] at h
    by_cases q : a.k = 1
    · rw [if_pos (.inl q)] at h
      have hn : a.n < b.n := by unfold cmpI at h; (repeat' split at h) <;> first | assumption | omega
      simp only [encV, ← e, q]
      exact num_dif hn ia ib
    · by_cases q2 : a.k = 2
      · rw [if_pos (.inr q2)] at h
        have hn : a.n < b.n := by unfold cmpI at h; (repeat' split at h) <;> first | assumption | omega
        obtain ⟨_, n0, n1⟩ := vcheck_bool ia ha q2
        obtain ⟨_, m0, m1⟩ := vcheck_bool ib hb (e ▸ q2)
        simp only [encV, ← e, q2]
        exact Dif.head (ofNat_lt (by omega)) [] []
      · rw [if_neg (by omega)] at h
        by_cases q3 : a.k = 3
        · rw [if_pos q3] at h
          have hl : Op.bytesLess a.s.toList b.s.toList = true := by
            unfold cmpS at h; (repeat' split at h) <;> first | assumption | omega
          simp only [encV, ← e, q3]
          exact (text_dif _ _ hl).cons _
        · rw [if_neg q3] at h; cases h
  · have hk : a.k < b.k := by
      have : cmpI a.k b.k ≠ 0 := by unfold cmpI; (repeat' split) <;> omega
      unfold vorder at h
      rw [if_pos this] at h
      unfold cmpI at h; (repeat' split at h) <;> omega
    obtain ⟨c, s, e1, h1⟩ := enc_head ia ha
    obtain ⟨d, t, e2, h2⟩ := enc_head ib hb
    rw [e1, e2]
    refine Dif.head ?_ _ _
    rw [UInt8.lt_iff_toNat_lt]
    rcases h1 with h1 | h1 | h1 | h1 <;> rcases h2 with h2 | h2 | h2 | h2 <;> (obtain ⟨h3, h4⟩ := h1; obtain ⟨h5, h6⟩ := h2; first | (exfalso; omega) | skip)
    · rw [h4.1]; simp; omega
    · rw [h4.1]; simp; omega
    · rw [h4.1, h6]; simp
    · omega
    · rw [h6]; simp; omega
    · rw [h6]; simp; omega
/-! lists -/
def encL (l : List V) : List UInt8 := l.flatMap encV
def lcmp : List V → List V → Int
  | [], [] => 0
  | [], _ :: _ => -1
  | _ :: _, [] => 1
  | a :: l, b :: m => if vorder a b ≠ 0 then vorder a b else lcmp l m
def sameL : List V → List V → Bool
  | [], [] => true
  | a :: l, b :: m => a.same b && sameL l m
  | _, _ => false
def okV (v : V) : Bool := vcheck v == 0
def encode (l : List V) : List UInt8 × Int := if 64 < l.length then ([], 3) else if l.all okV then (encL l, 0) else ([], 9)
end Go.Proofs.Ytfmfmammcjpboaa
