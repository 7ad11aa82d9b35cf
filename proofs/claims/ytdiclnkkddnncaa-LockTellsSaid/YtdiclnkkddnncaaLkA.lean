/- Package lock: Add. -/
import Derived.Test.YtdiclnkkddnncaaLkP
import Derived.Test.YtdiclnkkddnncaaSlB
namespace Go.Proofs.Ytdiclnkkddnncaa
open Go.RowKit
open Go.Shelf
set_option linter.unusedVariables false
set_option linter.unusedSimpArgs false
def addL (l : List Lk) (x : Lk) : List Lk × Int :=
  if chkL l ≠ 0 then ([], chkL l) else if mayL x = false then ([], 1) else if l.any (within x) = true then (l, 0)
  else if (l.filter (fun y => !touches x y)).length = 512 then ([], 51)
  else (putL (l.filter (fun y => !touches x y)) ((l.filter (touches x)).foldl joinL x), 0)
theorem chkFrom_inc : ∀ (l : List Lk) (p : Option Lk), chkLFrom p l = true → (∀ x ∈ l, mayL x = true) ∧ Inc l ∧ ∀ y, p = some y → ∀ x ∈ l, llt y x
  | [], p, h => ⟨by simp, List.Pairwise.nil, fun y _ x hx => by cases hx⟩
  | a :: l, p, h => by
    rw [chkL_cons, Bool.and_eq_true, Bool.and_eq_true] at h
    obtain ⟨⟨h1, h2⟩, h3⟩ := h
    obtain ⟨k1, k2, k3⟩ := chkFrom_inc l (some a) h3
    refine ⟨fun x hx => ?_, List.pairwise_cons.2 ⟨k3 a rfl, k2⟩, fun y hy x hx => ?_⟩
    · rcases List.mem_cons.1 hx with rfl | hx
      · exact h1
      · exact k1 x hx
    · subst hy
      have hya : llt y a := (lorder_neg y a).1 (by simpa [after?] using h2)
      rcases List.mem_cons.1 hx with rfl | hx
      · exact hya
      · exact llt_trans hya (k3 a rfl x hx)
theorem inc_chkFrom : ∀ (l : List Lk) (p : Option Lk), (∀ x ∈ l, mayL x = true) → Inc l → (∀ y, p = some y → ∀ x ∈ l, llt y x) → chkLFrom p l = true
  | [], p, _, _, _ => by simp [chkLFrom]
  | a :: l, p, h1, h2, h3 => by
    rw [chkL_cons, Bool.and_eq_true, Bool.and_eq_true]
    obtain ⟨k1, k2⟩ := List.pairwise_cons.1 h2
    refine ⟨⟨h1 a (by simp), ?_⟩, inc_chkFrom l (some a) (fun x hx => h1 x (by simp [hx])) k2 (fun y hy x hx => by cases hy; exact k1 x hx)⟩
    cases p with
    | none => rfl
    | some y => simp only [after?, decide_eq_true_eq]; exact (lorder_neg y a).2 (h3 y rfl a (by simp))
theorem chkL_iff (l : List Lk) : chkL l = 0 ↔ l.length ≤ 512 ∧ (∀ x ∈ l, mayL x = true) ∧ Inc l := by
  unfold chkL
  constructor
  · intro h
    split at h
    · cases h
    · rename_i q
      split at h
      · rename_i r
        obtain ⟨h1, h2, _⟩ := chkFrom_inc l none r
        exact ⟨by omega, h1, h2⟩
      · cases h
  · rintro ⟨h1, h2, h3⟩
    rw [if_neg (by omega), if_pos (inc_chkFrom l none h2 h3 (fun y h => by cases h))]
theorem chkL_or (l : List Lk) : chkL l = 0 ∨ chkL l = 9 := by unfold chkL; (repeat' split) <;> simp
set_option maxHeartbeats 2000000 in
set_option maxRecDepth 100000 in
theorem lclone_own (A : Option Addr) (c : Nat) (l : List Lk) (w : World) (HA : RowE encL 3 w A l) (hn : A = none → c = 0) (hl : l.length ≤ 1000) :
    Calls Try.prog 27 #[.slice A l.length c] w fun e w' => ∃ v, e = .returned v ∧ w'.ownsRow w.heap.size 35 3 v l.length (l.flatMap encL) ∧ Below w.heap.size w w' := by
  obtain ⟨i0, hi, hz0, hz1, hz2⟩ := infoL
  have q22 : ∀ (w : World) (a : Option Addr) (n c n' c' : Nat), (binOp .eql 28 (.slice a n c) (.slice none n' c')).run Try.prog w = .ok (.bool a.isNone) w := fun w a n c n' c' => Lib.run_eql_slice_nil w _ _ a n c n' c' Try.underlying28
  cases A with
  | none =>
    have h0 : l = [] := by
      cases l with
      | nil => rfl
      | cons a l => obtain ⟨b, off, h, _⟩ := HA 0 a rfl; cases h
    subst h0
    obtain rfl := hn rfl
    go_enter Try.func27, Try.ntmps27
    go_wp2
    go_ret
    exact ⟨_, rfl, World.ownsRow_nil _ _ _ _, Below.refl _ _⟩
  | some ad =>
    have HC : Hid (∀ j u, (l.flatMap encL)[j]? = some u → w.cell? (ad.add j) = some u) := Lib.hid (fun j u hu => by
      by_cases h0 : l = []
      · subst h0; simp at hu
      · obtain ⟨b, off, hA, hlt, hc⟩ := HA.cells encL_len (by decide) h0
        obtain rfl : ad = ⟨b, off, none⟩ := Option.some.inj hA
        rw [Addr.add_lit]; exact hc j u hu)
    clear HA
    go_enter Try.func27, Try.ntmps27
    go_wp2_with (at_builtin; refine wpList_append_own _ rfl _ _ 28 rfl w.heap.size 35 i0 (.agg #[.int .i64 0, .string ⟨#[]⟩, .string ⟨#[]⟩]) 3 40 Try.underlying28 hi hz0 hz1 hz2 rfl (by decide) _ _ _ rfl (World.ownsRow_made w #[] 0 (Nat.le_refl _) (Nat.zero_le _) (by simp)) ad l.length c (l.flatMap encL) rfl ?c1 ?c2 ?c3 ?c4 ?c5 ?c6 ?_)
    case c1 => exact flat_len encL_len l
    case c2 =>
      intro j u hj
      have := HC.out j u hj
      exact (((Below.refl w.heap.size w).alloc (Nat.le_refl _) _).cell (World.block_lt_of_cell? _ _ this)).trans this
    case c3 => exact encL_one l
    case c4 => unfold maxLen; omega
    case c5 => omega
    case c6 => simp
    intro v' w1 hown hgrow hnil
    go_wp2
    go_ret
    refine ⟨v', rfl, by simpa using hown, ?_⟩
    exact ((Below.refl _ w).alloc (Nat.le_refl _) _).grown hgrow (by simp) (by intro k hk; simp [Value.ownBlock] at hk; omega)
set_option maxHeartbeats 2000000 in
set_option maxRecDepth 100000 in
theorem delete_nil (c : Nat) (fn : FuncId) (first cp : Array Value) (B : Nat → Prop) (base : Nat) (p : Lk → Bool) (L : Lk → List (Nat × Nat × Value)) (step : Lk → Lk → Lk) (acc : Lk) (w : World)
    (eg : ∀ args w, (callFunc fn args).run Try.prog w = .ok (.enter fn args) w) (hC : Clo fn first cp B base p L step) (hJ : J base w (L acc)) :
    Calls Try.prog 30 #[.slice none 0 c, .func (.func fn) first cp] w fun e w' => e = .returned (.slice none 0 c) ∧ Kept base B w w' ∧ J base w' (L acc) := by
  have hix := index_gen none c [] fn first cp B base p L step acc w eg hC RowE.nil (fun b off h => by cases h) hJ (by simp)
  clear hJ hC
  go_enter Try.func30, Try.ntmps30
  go_wp2_with fail
  refine hix.mono ?_; rintro e w1 ⟨hk1, ⟨rfl, hno, hL1⟩ | ⟨i, x, rfl, hx, hgx, hpre, hL1⟩⟩
  · have HK1 := Lib.hid hk1
    have HL1 := Lib.hid hL1
    clear hk1 hL1 hno hix
    go_wp2
    go_ret
    exact ⟨rfl, HK1.out, HL1.out⟩
  · simp at hx
/-- DeleteFunc of a row of the call's own; all under b0 but B lies as it lay. -/
theorem delete_own (A : Option Addr) (cap b0 : Nat) (l : List Lk) (fn : FuncId) (first cp : Array Value) (B : Nat → Prop) (base : Nat) (p : Lk → Bool) (L : Lk → List (Nat × Nat × Value)) (step : Lk → Lk → Lk) (acc : Lk) (w : World)
    (eg : ∀ args w, (callFunc fn args).run Try.prog w = .ok (.enter fn args) w) (hC : Clo fn first cp B base p L step)
    (HO : w.ownsRow b0 35 3 (.slice A l.length cap) l.length (l.flatMap encL)) (hb0 : b0 ≤ base) (hg : ∀ b, A = some ⟨b, 0, none⟩ → b < base ∧ ¬ B b ∧ ∀ acc, ∀ q ∈ L acc, q.1 ≠ b) (hJ : J base w (L acc)) (hl : l.length ≤ 1000) :
    Calls Try.prog 30 #[.slice A l.length cap, .func (.func fn) first cp] w fun e w' =>
      ∃ A', e = .returned (.slice A' (l.filter (fun t => !p t)).length cap) ∧ Kept b0 B w w' ∧ w'.ownsRow b0 35 3 (.slice A' (l.filter (fun t => !p t)).length cap) (l.filter (fun t => !p t)).length ((l.filter (fun t => !p t)).flatMap encL) ∧ J base w' (L ((l.filter p).foldl step acc)) := by
  rcases HO.2 with ⟨hv, h0⟩ | ⟨g, cap', cur, hv, hbg, hgg, hnc, hcm, hcs, htake⟩
  · obtain rfl : l = [] := List.eq_nil_of_length_eq_zero h0
    obtain ⟨rfl, rfl⟩ : A = none ∧ cap = 0 := by simpa using hv
    refine (delete_nil 0 fn first cp B base p L step acc w eg hC hJ).mono ?_
    rintro e w' ⟨rfl, h3, h4⟩
    exact ⟨none, rfl, ⟨h3.os, h3.tape, h3.output, h3.size, fun k hk hb => h3.block k (by omega) hb⟩, World.ownsRow_nil _ _ _ _, h4⟩
  · obtain ⟨rfl, rfl⟩ : A = some ⟨g, 0, none⟩ ∧ cap = cap' := by simpa using hv
    obtain ⟨g1, g2, g3⟩ := hg g rfl
    refine (delete_gen g cap b0 l fn first cp B base p L step acc w eg hC HO g1 g2 g3 hJ hl).mono ?_
    rintro e w' ⟨rfl, h3, h4, h5⟩
    exact ⟨_, rfl, ⟨h3.os, h3.tape, h3.output, h3.size, fun k hk hb => h3.block k (by omega) (by rintro (h | h); exact hb h; omega)⟩, h4, h5⟩
end Go.Proofs.Ytdiclnkkddnncaa
