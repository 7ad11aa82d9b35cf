/- Package btree: a span of all, cut; SamePairs of the same pairs; append of a row as a run. -/
import Derived.Test.YtkecbghnapjecaaDeepW
import Derived.Test.YtkecbghnapjecaaAppRow
import Derived.Laws.StructEq
namespace Go.Proofs.Ytkecbghnapjecaa
open Go.RowKit
set_option linter.unusedVariables false
set_option linter.unusedSimpArgs false
theorem take_filter (at' : ByteArray) : ∀ (l : List Pr), RiseP l → l.takeWhile (fun p => sless p.1 at') ++ l.filter (fun p => !sless p.1 at') = l
  | [], _ => rfl
  | a :: l, h => by
    have h' : (∀ b ∈ l, lt? a.1 b.1 = true) ∧ RiseP l := List.pairwise_cons.1 h
    cases q : sless a.1 at' with
    | true =>
      simp only [List.takeWhile_cons, List.filter_cons, q, if_true, Bool.not_true, List.cons_append]
      rw [if_neg (by simp), take_filter at' l h'.2]
    | false =>
      simp only [List.takeWhile_cons, List.filter_cons, q, Bool.not_false, if_true]
      rw [if_neg (by simp), List.nil_append, List.filter_eq_self.2 (fun b hb => ?_)]
      cases q2 : sless b.1 at' with
      | false => rfl
      | true =>
        have := lt_trans' (h'.1 b hb) q2
        rw [show lt? a.1 at' = sless a.1 at' from rfl, q] at this
        cases this
theorem all_facts (s : List Nd) (root : Int) (at' : ByteArray) (ha : at'.toList ≠ []) :
    ∃ l1 l2 er, rangeS s root ⟨#[]⟩ at' = (l1, er) ∧ rangeS s root at' ⟨#[]⟩ = (l2, er) ∧ rangeS s root ⟨#[]⟩ ⟨#[]⟩ = (l1 ++ l2, er) ∧ (l1 ++ l2).length ≤ 2048 := by
  rcases hR : readS s root with _ | ⟨o, d, p⟩
  · exact ⟨[], [], 9, by unfold rangeS; rw [hR], by unfold rangeS; rw [hR], by unfold rangeS; rw [hR]; rfl, by simp⟩
  · cases o with
    | none => exact ⟨[], [], 0, by unfold rangeS; rw [hR], by unfold rangeS; rw [hR], by unfold rangeS; rw [hR]; rfl, by simp⟩
    | some t =>
      obtain ⟨_, _, hb⟩ := readS_deep hR
      obtain ⟨_, h4, h5, _⟩ := readS_ok hR
      have f1 := BndT.facts ⟨#[]⟩ t none none hb
      have f2 := BndT.facts at' t none none hb
      have e1 : eachT ⟨#[]⟩ t = pairsT t := by rw [f1.ev, List.filter_eq_self.2 (fun p _ => by rw [sless_nil]; rfl)]
      have hg : goOn at' = fun p => sless p.1 at' := by
        funext p
        unfold goOn
        cases hq : at'.toList with
        | nil => exact absurd hq ha
        | cons a l => rfl
      have hspl := take_filter at' (pairsT t) f1.up
      refine ⟨(pairsT t).takeWhile (fun p => sless p.1 at'), (pairsT t).filter (fun p => !sless p.1 at'), 0, ?_, ?_, ?_, ?_⟩
      · unfold rangeS; rw [hR]; dsimp only; rw [e1, hg]
      · unfold rangeS; rw [hR]; dsimp only; rw [takeWhile_all (fun p _ => goOn_nil p), f2.ev]
      · rw [range_all hR, hspl]
      · rw [hspl]; omega
theorem run_append_row {α : Type} {enc : α → List Value} {P : Program} {w : World} (base : Nat) (t ty e : TypeId) (i : TypeInfo) (z : Value) (size bytes : Nat) (h1 : P.underlying t = some (.slice e)) (h2 : P.info? e = some i) (h3 : i.zero = some z) (h4 : i.size = size) (h5 : i.bytes = bytes) (h6 : z.cells.size = size) (h7 : 0 < size)
    (hk : ∀ x, (enc x).length = size) (hone : ∀ (l : List α), ∀ u ∈ l.flatMap enc, u.oneCell' = true) (v : Value) (n : Nat) (xs : List Value) (hown : w.ownsRow base e size v n xs)
    (A : Option Addr) (l : List α) (c : Nat) (hA : A = none → c = 0) (HR : RowE enc size w A l) (b1 : n + l.length ≤ maxLen) (b2 : (n + l.length) * bytes ≤ 140737488355328) (hbase : base ≤ w.heap.size) :
    ∃ v' w', (Builtin.append_ #[t, t] ty #[v, .slice A l.length c]).run P w = .ok v' w' ∧ w'.ownsRow base e size v' (n + l.length) (xs ++ l.flatMap enc) ∧ w.grownBy w' v.ownBlock := by
  cases A with
  | none =>
    obtain rfl := hA rfl
    have hl0 : l = [] := by
      cases l with
      | nil => rfl
      | cons y l =>
        obtain ⟨b, off, h, _⟩ := HR 0 y rfl
        cases h
    subst hl0
    exact ⟨v, w, run_append_owned_none (P := P) (w := w) base t ty e i size h1 h2 v n xs hown, by simpa using hown, World.grownBy.refl _ _⟩
  | some ad =>
    have hcell : ∀ j u, (l.flatMap enc)[j]? = some u → w.cell? (ad.add j) = some u := by
      by_cases h0 : l = []
      · subst h0
        intro j u hj
        simp at hj
      · obtain ⟨b, off, hA', _, hc⟩ := RowE.cells hk h7 HR h0
        obtain rfl := Option.some.inj hA'
        intro j u hj
        rw [Addr.add_lit]
        exact hc j u hj
    have hlen : ∀ l : List α, (l.flatMap enc).length = l.length * size := by
      intro l
      induction l with
      | nil => simp
      | cons y l ih => rw [List.flatMap_cons, List.length_append, hk, ih, List.length_cons, Nat.add_mul]; omega
    obtain ⟨v', w', r1, r2, r3, _⟩ := run_append_own (P := P) (w := w) base t ty e i z size bytes h1 h2 h3 h4 h5 h6 h7 v n xs hown ad l.length c (l.flatMap enc) (hlen l) hcell (hone l) b1 b2 hbase
    exact ⟨v', w', r1, r2, r3⟩
theorem own_row {W : World} {base : Nat} {v : Value} {l : List Pr} (h : W.ownsRow base 56 2 v l.length (l.flatMap encPr)) : ∃ A c, v = .slice A l.length c ∧ (A = none → c = 0) ∧ RowE encPr 2 W A l ∧ ∀ a, A = some a → a.block < W.heap.size := by
  have hlt := h.lt
  rcases h.2 with ⟨rfl, h0⟩ | ⟨g, cap, cur, rfl, _⟩
  · have hl : l = [] := List.eq_nil_of_length_eq_zero h0
    subst hl
    exact ⟨none, 0, rfl, fun _ => rfl, RowE.nil, fun a e => by cases e⟩
  · exact ⟨_, cap, rfl, (fun e => by cases e), RowE.owned encPr_len h, fun a e => by obtain rfl := Option.some.inj e; exact (hlt g rfl).2⟩
theorem encPr_one (l : List Pr) : ∀ u ∈ l.flatMap encPr, u.oneCell' = true := fun u hu => by
  obtain ⟨p, _, hp⟩ := List.mem_flatMap.1 hu
  simp [encPr] at hp
  rcases hp with rfl | rfl <;> rfl
def samePB (x0 x1 y0 y1 : ByteArray) : Bool := x0.toList == y0.toList && x1.toList == y1.toList
theorem eqPair (d : Nat) (w : World) (x0 y0 x1 y1 : ByteArray) :
    (Op.equalIn (d + 2) 56 (.agg #[.string x0, .string x1]) (.agg #[.string y0, .string y1])).run Try.prog w = .ok (samePB x0 x1 y0 y1) w := by
  refine eqA_of Try.underlying56 (by kernel_rfl) ?_
  refine eqf_cons (by rfl) (by go_simp; rfl) (by go_simp; rfl) (by go_simp) ?_
  exact eqf_last (by rfl) (by go_simp; rfl) (by go_simp; rfl) (by go_simp)
attribute [local go_sem high] eqPair
set_option maxHeartbeats 4000000 in
set_option maxRecDepth 100000 in
theorem samePairs_same (A B : Option Addr) (c d : Nat) (l : List Pr) (w : World) (HA : RowE encPr 2 w A l) (HB : RowE encPr 2 w B l) (hl : l.length ≤ 140737488355328) :
    Calls Try.prog 17 #[.slice A l.length c, .slice B l.length d] w fun e w' => e = .returned (.bool true) ∧ Below w.heap.size w w' := by
  have RA := Lib.hid HA
  have RB := Lib.hid HB
  clear HA HB
  go_enter Try.func17, Try.ntmps17
  go_wp2
  go_loopw [5] (fun i wr => ∃ j : Nat, j ≤ l.length ∧ i = .int .i64 j ∧ Hid (Below w.heap.size w wr)) (fun i _ => l.length - (Lib.intOf i).toNat)
  case atStart => exact ⟨0, Nat.zero_le _, rfl, Lib.hid (Below.refl _ _)⟩
  case round =>
    obtain ⟨j, hj, rfl, HF⟩ := hrel
    by_cases hlt : j < l.length
    · obtain ⟨x, hx⟩ : ∃ x, l[j]? = some x := ⟨_, List.getElem?_eq_getElem hlt⟩
      obtain ⟨b0, off, rfl, hb0, hc⟩ := RA.out.atE hx HF.out
      obtain ⟨b1, off1, rfl, hb1, hd⟩ := RB.out.atE hx HF.out
      have g0 := hc 0 _ rfl
      have g1 := hc 1 _ rfl
      have e0 := hd 0 _ rfl
      have e1 := hd 1 _ rfl
      simp only [Nat.add_zero] at g0 e0
      clear hx hc hd
      obtain ⟨x0, x1⟩ := x
      dsimp only at g0 g1 e0 e1
      have hs : samePB x0 x1 x0 x1 = true := by simp [samePB]
      go_wp2_with fail
      go_quiet (fail)
      go_wp2
      go_roundw
      case rel => exact ⟨j + 1, by omega, by go_num, Lib.hid (below_drewN HF.out _)⟩
      case measure => simp [Lib.intOf]; omega
    · obtain rfl : j = l.length := by omega
      go_wp2
      go_ret
      exact ⟨rfl, HF.out⟩
end Go.Proofs.Ytkecbghnapjecaa
