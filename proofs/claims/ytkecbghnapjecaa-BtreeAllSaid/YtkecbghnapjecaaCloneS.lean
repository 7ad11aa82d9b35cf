/- slices.Clone of texts; how a state's nodes and a tree of nodes lie. -/
import Derived.Test.YtkecbghnapjecaaMapI
import Derived.Test.YtkecbghnapjecaaAppRow
import Derived.Test.YtkecbghnapjecaaKept
import Derived.Test.YtkecbghnapjecaaAppOwn2
import Derived.Lib.SliceRun
namespace Go.Proofs.Ytkecbghnapjecaa
open Go.RowKit
set_option linter.unusedVariables false
set_option linter.unusedSimpArgs false
theorem encS_one (l : List ByteArray) : ∀ u ∈ l.flatMap encS, u.oneCell' = true := fun u hu => by
  obtain ⟨x, _, hx⟩ := List.mem_flatMap.1 hu
  simp [encS] at hx
  subst hx; rfl
theorem infoS : ∃ i0, Try.prog.info? 9 = some i0 ∧ i0.zero = some (.string ⟨#[]⟩) ∧ i0.size = 1 ∧ i0.bytes = 16 :=
  info_parts (show (Try.prog.info? 9).map (fun i => (i.zero, i.size, i.bytes)) = some (some (.string ⟨#[]⟩), 1, 16) by kernel_rfl)
set_option maxHeartbeats 2000000 in
set_option maxRecDepth 100000 in
/-- Clone, as a row of the call's own. -/
theorem cloneS_own (A : Option Addr) (c : Nat) (l : List ByteArray) (w : World) (HA : RowE encS 1 w A l) (hn : A = none → c = 0) (hl : l.length * 16 ≤ 140737488355328) :
    Calls Try.prog 49 #[.slice A l.length c] w fun e w' => ∃ v, e = .returned v ∧ w'.ownsRow w.heap.size 9 1 v l.length (l.flatMap encS) ∧ Below w.heap.size w w' := by
  obtain ⟨i0, hi, hz0, hz1, hz2⟩ := infoS
  have q22 : ∀ (w : World) (a : Option Addr) (n c n' c' : Nat), (binOp .eql 57 (.slice a n c) (.slice none n' c')).run Try.prog w = .ok (.bool a.isNone) w := fun w a n c n' c' => Lib.run_eql_slice_nil w _ _ a n c n' c' Try.underlying57
  cases A with
  | none =>
    have h0 : l = [] := by
      cases l with
      | nil => rfl
      | cons a l => obtain ⟨b, off, h, _⟩ := HA 0 a rfl; cases h
    subst h0
    obtain rfl := hn rfl
    go_enter Try.func49, Try.ntmps49
    go_wp2
    go_ret
    exact ⟨_, rfl, World.ownsRow_nil _ _ _ _, Below.refl _ _⟩
  | some ad =>
    have HC : Hid (∀ j u, (l.flatMap encS)[j]? = some u → w.cell? (ad.add j) = some u) := Lib.hid (fun j u hu => by
      by_cases h0 : l = []
      · subst h0; simp at hu
      · obtain ⟨b, off, hA, hlt, hc⟩ := HA.cells encS_len (by decide) h0
        obtain rfl : ad = ⟨b, off, none⟩ := Option.some.inj hA
        rw [Addr.add_lit]; exact hc j u hu)
    clear HA
    go_enter Try.func49, Try.ntmps49
    go_wp2_with (at_builtin; refine wpList_append_own _ rfl _ _ 57 rfl w.heap.size 9 i0 (.string ⟨#[]⟩) 1 16 Try.underlying57 hi hz0 hz1 hz2 rfl (by decide) _ _ _ rfl (World.ownsRow_made w #[] 0 (Nat.le_refl _) (Nat.zero_le _) (by simp)) ad l.length c (l.flatMap encS) rfl ?c1 ?c2 ?c3 ?c4 ?c5 ?c6 ?_)
    case c1 => exact flat_len encS_len l
    case c2 =>
      intro j u hj
      have := HC.out j u hj
      exact (((Below.refl w.heap.size w).alloc (Nat.le_refl _) _).cell (World.block_lt_of_cell? _ _ this)).trans this
    case c3 => exact encS_one l
    case c4 => unfold maxLen; omega
    case c5 => omega
    case c6 => simp
    intro v' w1 hown hgrow hnil
    go_wp2
    go_ret
    refine ⟨v', rfl, by simpa using hown, ?_⟩
    exact ((Below.refl _ w).alloc (Nat.le_refl _) _).grown hgrow (by simp) (by intro k hk; simp [Value.ownBlock] at hk; omega)
/-- A state's node in its three cells. -/
def NdAt (W : World) (cs : List Value) (n : Nd) : Prop :=
  ∃ KA kc VA vc IA ic, cs = [.slice KA n.keys.length kc, .slice VA n.vals.length vc, .slice IA n.kids.length ic] ∧ RowE encS 1 W KA n.keys ∧ RowE encS 1 W VA n.vals ∧ RowE encI 1 W IA n.kids ∧ (KA = none → kc = 0) ∧ (VA = none → vc = 0) ∧ (IA = none → ic = 0) ∧
    n.keys.length ≤ kc ∧ n.vals.length ≤ vc ∧ n.kids.length ≤ ic
def NodesAt (W : World) (NA : Option Addr) (s : List Nd) : Prop :=
  ∀ (i : Nat) (n : Nd), s[i]? = some n → ∃ b off cs, NA = some ⟨b, off, none⟩ ∧ b < W.heap.size ∧ NdAt W cs n ∧ ∀ (j : Nat) (v : Value), cs[j]? = some v → W.cell? ⟨b, off + i * 3 + j, none⟩ = some v
theorem NdAt.below {W W' : World} {cs : List Value} {n : Nd} (h : NdAt W cs n) (hb : Below W.heap.size W W') : NdAt W' cs n := by
  obtain ⟨KA, kc, VA, vc, IA, ic, rfl, h1, h2, h3, h4⟩ := h
  exact ⟨KA, kc, VA, vc, IA, ic, rfl, h1.below hb, h2.below hb, h3.below hb, h4⟩
theorem NodesAt.below {W W' : World} {NA : Option Addr} {s : List Nd} (h : NodesAt W NA s) (hb : Below W.heap.size W W') : NodesAt W' NA s := fun i n hi => by
  obtain ⟨b, off, cs, rfl, hlt, hn, hc⟩ := h i n hi
  exact ⟨b, off, cs, rfl, Nat.lt_of_lt_of_le hlt hb.size, hn.below hb, fun j v hv => (hb.cell (p := ⟨b, _, none⟩) hlt).trans (hc j v hv)⟩
def encN (g : Nat) : List Value := [.pointer (some ⟨g, 0, none⟩)]
theorem encN_len (g : Nat) : (encN g).length = 1 := rfl
def OffN (N : Nat) (A : Option Addr) : Prop := ∀ a, A = some a → N ≤ a.block
theorem rowE_kept {α : Type} {enc : α → List Value} {k : Nat} {w w' : World} {B : Nat → Prop} {A : Option Addr} {l : List α} (h : RowE enc k w A l) (hk : Kept w.heap.size B w w') (hA : ∀ a, A = some a → ¬ B a.block) : RowE enc k w' A l := fun i x hi => by
  obtain ⟨b, off, rfl, hb, hc⟩ := h i x hi
  have hnb : ¬ B b := hA ⟨b, off, none⟩ rfl
  exact ⟨b, off, rfl, Nat.lt_of_lt_of_le hb hk.size, fun j v hv q u hu => (hk.cell (p := ⟨b, off + j * k + q, none⟩) hb hnb).trans (hc j v hv q u hu)⟩
/-- A row of the call's own, its block one of P. -/
def OwnP (P : Nat → Prop) (w : World) (e : TypeId) (v : Value) (n : Nat) (xs : List Value) : Prop := w.ownsRow 0 e 1 v n xs ∧ ∀ b, v.ownBlock = some b → P b
theorem OwnP.base {P : Nat → Prop} {w : World} {e : TypeId} {v : Value} {n N : Nat} {xs : List Value} (h : OwnP P w e v n xs) (hN : ∀ b, P b → N ≤ b) : w.ownsRow N e 1 v n xs := by
  refine ⟨h.1.1, ?_⟩
  rcases h.1.2 with hn | ⟨g, cap, cur, rfl, _, rest⟩
  · exact .inl hn
  · exact .inr ⟨g, cap, cur, rfl, hN g (h.2 g rfl), rest⟩
theorem OwnP.of {P : Nat → Prop} {w : World} {e : TypeId} {v : Value} {n N : Nat} {xs : List Value} (h : w.ownsRow N e 1 v n xs) (hP : ∀ b, N ≤ b → b < w.heap.size → P b) : OwnP P w e v n xs :=
  ⟨own_base h (Nat.zero_le _), fun b hb => hP b (h.lt b hb).1 (h.lt b hb).2⟩
theorem OwnP.kept {P B : Nat → Prop} {w w' : World} {e : TypeId} {v : Value} {n : Nat} {xs : List Value} (h : OwnP P w e v n xs) (hk : Kept w.heap.size B w w') (hB : ∀ k, B k → ¬ P k) : OwnP P w' e v n xs :=
  ⟨hk.own h.1 (fun b hb => ⟨(h.1.lt b hb).2, fun q => hB b q (h.2 b hb)⟩), h.2⟩
/-- Which blocks a node's kids may lie in: those that the node itself does not hold. -/
def Rest (P : Nat → Prop) (g : Nat) (kv vv iv : Value) : Nat → Prop := fun b => P b ∧ b ≠ g ∧ kv.ownBlock ≠ some b ∧ vv.ownBlock ≠ some b ∧ iv.ownBlock ≠ some b
/-- A node's own blocks are not one. -/
def Apart (g : Nat) (kv vv iv : Value) : Prop := kv.ownBlock ≠ some g ∧ vv.ownBlock ≠ some g ∧ (∀ b, kv.ownBlock = some b → vv.ownBlock ≠ some b) ∧ iv.ownBlock ≠ some g ∧ ∀ b, iv.ownBlock = some b → kv.ownBlock ≠ some b ∧ vv.ownBlock ≠ some b
mutual
/-- A tree of nodes, from block g on; all in blocks of P, each node's rows its own, no block in two of them. -/
def TrAt (w : World) (P : Nat → Prop) (g : Nat) : Tr → Prop
  | .mk ks vs ts => ∃ kv vv iv ps, Box w g [kv, vv, iv] ∧ OwnP P w 9 kv ks.length (ks.flatMap encS) ∧ OwnP P w 9 vv vs.length (vs.flatMap encS) ∧ OwnP P w 67 iv ts.length (ps.flatMap encN) ∧ P g ∧ Apart g kv vv iv ∧ TrsAt w (Rest P g kv vv iv) ps ts
def TrsAt (w : World) (P : Nat → Prop) (ps : List Nat) : List Tr → Prop
  | [] => ps = []
  | t :: ts => ∃ p q P1, ps = p :: q ∧ (∀ b, P1 b → P b) ∧ TrAt w P1 p t ∧ TrsAt w (fun b => P b ∧ ¬ P1 b) q ts
end
mutual
theorem TrAt.kept {w w' : World} {B : Nat → Prop} (hk : Kept w.heap.size B w w') : ∀ {t : Tr} {P : Nat → Prop} {g : Nat}, (∀ k, B k → ¬ P k) → TrAt w P g t → TrAt w' P g t
  | .mk ks vs ts, P, g, hB, h => by
    unfold TrAt at h ⊢
    obtain ⟨kv, vv, iv, ps, h0, h1, h2, h3, h4, h5, h6⟩ := h
    exact ⟨kv, vv, iv, ps, h0.kept hk h0.lt (fun hb => hB g hb h4), h1.kept hk hB, h2.kept hk hB, h3.kept hk hB, h4, h5, TrsAt.kept hk (fun k hk h => hB k hk h.1) h6⟩
theorem TrsAt.kept {w w' : World} {B : Nat → Prop} (hk : Kept w.heap.size B w w') : ∀ {ts : List Tr} {P : Nat → Prop} {ps : List Nat}, (∀ k, B k → ¬ P k) → TrsAt w P ps ts → TrsAt w' P ps ts
  | [], P, ps, hB, h => by unfold TrsAt at h ⊢; exact h
  | t :: ts, P, ps, hB, h => by
    unfold TrsAt at h ⊢
    obtain ⟨p, q, P1, e, h0, h1, h2⟩ := h
    exact ⟨p, q, P1, e, h0, TrAt.kept hk (fun k hk h => hB k hk (h0 k h)) h1, TrsAt.kept hk (fun k hk h => hB k hk h.1) h2⟩
end
mutual
theorem TrAt.mono {w : World} : ∀ {t : Tr} {P P' : Nat → Prop} {g : Nat}, (∀ b, b < w.heap.size → P b → P' b) → TrAt w P g t → TrAt w P' g t
  | .mk ks vs ts, P, P', g, hP, h => by
    unfold TrAt at h ⊢
    obtain ⟨kv, vv, iv, ps, h0, h1, h2, h3, h4, h5, h6⟩ := h
    have ho : ∀ {v : Value} {n : Nat} {e : TypeId} {xs : List Value}, OwnP P w e v n xs → OwnP P' w e v n xs := fun ho => ⟨ho.1, fun b hb => hP b (ho.1.lt b hb).2 (ho.2 b hb)⟩
    exact ⟨kv, vv, iv, ps, h0, ho h1, ho h2, ho h3, hP g h0.lt h4, h5, TrsAt.mono (fun b hb h => ⟨hP b hb h.1, h.2⟩) h6⟩
theorem TrsAt.mono {w : World} : ∀ {ts : List Tr} {P P' : Nat → Prop} {ps : List Nat}, (∀ b, b < w.heap.size → P b → P' b) → TrsAt w P ps ts → TrsAt w P' ps ts
  | [], P, P', ps, hP, h => by unfold TrsAt at h ⊢; exact h
  | t :: ts, P, P', ps, hP, h => by
    unfold TrsAt at h ⊢
    obtain ⟨p, q, P1, e, h0, h1, h2⟩ := h
    exact ⟨p, q, fun b => P1 b ∧ P' b, e, fun b h => h.2, TrAt.mono (fun b hb h => ⟨h, hP b hb (h0 b h)⟩) h1, TrsAt.mono (fun b hb h => ⟨hP b hb h.1, fun h' => h.2 h'.1⟩) h2⟩
end
theorem TrAt.below {P : Nat → Prop} {w w' : World} (hb : Below w.heap.size w w') {t : Tr} {g : Nat} (h : TrAt w P g t) : TrAt w' P g t := h.kept (B := fun _ => False) (Kept.of_below hb (Nat.le_refl _)) (fun _ h => h.elim)
theorem TrsAt.below {P : Nat → Prop} {w w' : World} (hb : Below w.heap.size w w') {ts : List Tr} {ps : List Nat} (h : TrsAt w P ps ts) : TrsAt w' P ps ts := h.kept (B := fun _ => False) (Kept.of_below hb (Nat.le_refl _)) (fun _ h => h.elim)
theorem TrsAt.snoc {w : World} {t : Tr} {g : Nat} : ∀ {ts : List Tr} {P Q P' : Nat → Prop} {ps : List Nat}, TrsAt w P ps ts → TrAt w Q g t → (∀ b, P b → P' b) → (∀ b, Q b → P' b ∧ ¬ P b) → TrsAt w P' (ps ++ [g]) (ts ++ [t])
  | [], P, Q, P', ps, h, hg, h1, h2 => by
    unfold TrsAt at h
    subst h
    show TrsAt w P' [g] [t]
    unfold TrsAt
    exact ⟨g, [], Q, rfl, fun b hb => (h2 b hb).1, hg, by unfold TrsAt; rfl⟩
  | s :: ts, P, Q, P', ps, h, hg, h1, h2 => by
    unfold TrsAt at h
    obtain ⟨p, q, P1, rfl, h0, h3, h4⟩ := h
    show TrsAt w P' (p :: (q ++ [g])) (s :: (ts ++ [t]))
    unfold TrsAt
    exact ⟨p, q ++ [g], P1, rfl, fun b hb => h1 b (h0 b hb), h3, TrsAt.snoc h4 hg (fun b hb => ⟨h1 b hb.1, hb.2⟩) (fun b hb => ⟨⟨(h2 b hb).1, fun h => (h2 b hb).2 (h0 b h)⟩, fun h => (h2 b hb).2 h.1⟩)⟩
end Go.Proofs.Ytkecbghnapjecaa
