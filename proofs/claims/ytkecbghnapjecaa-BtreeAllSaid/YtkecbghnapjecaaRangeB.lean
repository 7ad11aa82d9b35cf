/- Package btree: Range. -/
import Derived.Test.YtkecbghnapjecaaEachB
import Derived.Test.YtkecbghnapjecaaCmpS
import Derived.Test.YtkecbghnapjecaaTopW
import Derived.Test.YtkecbghnapjecaaAppOwn2
namespace Go.Proofs.Ytkecbghnapjecaa
open Go.RowKit Go.Shelf
set_option linter.unusedVariables false
set_option linter.unusedSimpArgs false
attribute [local go_sem] Oper.semAt_some
def encPr (p : Pr) : List Value := [.string p.1, .string p.2]
theorem encPr_len (p : Pr) : (encPr p).length = 2 := rfl
/-- Is a pair ahead of the end? -/
def goOn (til : ByteArray) (p : Pr) : Bool := til.toList.isEmpty || sless p.1 til
def rangeS (s : List Nd) (root : Int) (fr til : ByteArray) : List Pr × Int :=
  match readS s root with
  | none => ([], 9)
  | some (none, _, _) => ([], 0)
  | some (some t, _, _) => ((eachT fr t).takeWhile (goOn til), 0)
theorem takeWhile_all {α : Type} {f : α → Bool} : ∀ {l : List α}, (∀ p ∈ l, f p = true) → l.takeWhile f = l
  | [], _ => rfl
  | a :: l, h => by
    rw [List.takeWhile_cons, if_pos (h a (List.mem_cons_self ..)), takeWhile_all (fun p hp => h p (List.mem_cons_of_mem _ hp))]
theorem takeWhile_upto {α : Type} {f : α → Bool} {x : α} : ∀ {pre l : List α}, (∀ p ∈ pre, f p = true) → f x = false → pre ++ [x] <+: l → l.takeWhile f = pre
  | [], l, _, hx, ⟨r, hr⟩ => by
    subst hr
    simp [List.takeWhile_cons, hx]
  | a :: pre, l, h, hx, ⟨r, hr⟩ => by
    subst hr
    have ih := takeWhile_upto (l := (pre ++ [x]) ++ r) (fun p hp => h p (List.mem_cons_of_mem _ hp)) hx ⟨r, rfl⟩
    simp only [List.cons_append, List.takeWhile_cons, h a (List.mem_cons_self ..), if_true]
    rw [ih]
theorem compare_neg : ∀ a b : List UInt8, decide (0 ≤ Lib.compareBytes a b) = !(Op.bytesLess a b)
  | [], [] => by simp [Lib.compareBytes, Op.bytesLess]
  | [], _ :: _ => by simp [Lib.compareBytes, Op.bytesLess]
  | _ :: _, [] => by simp [Lib.compareBytes, Op.bytesLess]
  | a :: l, b :: m => by
    have ih := compare_neg l m
    simp only [Lib.compareBytes, Op.bytesLess]
    by_cases h : a < b
    · simp [h]
    · by_cases h2 : b < a
      · have h3 : ¬ a = b := by rintro rfl; exact h h2
        simp [h, h2, h3]
      · have h3 : a = b := by
          have h1 : ¬ a.toNat < b.toNat := fun q => h (UInt8.lt_iff_toNat_lt.2 q)
          have h4 : ¬ b.toNat < a.toNat := fun q => h2 (UInt8.lt_iff_toNat_lt.2 q)
          exact UInt8.toNat_inj.1 (by omega)
        subst h3
        simp only [h, if_false, decide_false, Bool.false_or, beq_self_eq_true, Bool.true_and]
        exact ih
theorem Box.cells {W : World} {b : Nat} {v : Value} {vs : List Value} (h : Box W b (v :: vs)) : ∃ o : Obj, W.heap[b]? = some o ∧ o.isCells = true := by
  have hc := h.c 0 _ rfl
  cases ho : W.heap[b]? with
  | none => simp [World.cell?, ho] at hc
  | some o =>
    cases o <;> first
      | exact ⟨_, rfl, rfl⟩
      | (simp [World.cell?, ho] at hc; done)
theorem box_ownFrom {B b : Nat} {W W' : World} {row : Option Nat} {v : Value} {vs : List Value} (h : Box W b (v :: vs)) (hg : W.grownBy W' row) (hr : ∀ r, row = some r → B ≤ r ∧ ∃ o : Obj, W.heap[r]? = some o ∧ o.isCells = false) : Box W' b (v :: vs) :=
  h.grown hg (fun e => by
    obtain ⟨_, o, ho, hc⟩ := hr b e.symm
    obtain ⟨o', ho', hc'⟩ := h.cells
    rw [ho] at ho'
    obtain rfl := Option.some.inj ho'
    rw [hc] at hc'; cases hc')
theorem own_ownFrom {B base k n : Nat} {e : TypeId} {W W' : World} {row : Option Nat} {v : Value} {xs : List Value} (h : W.ownsRow base e k v n xs) (hg : W.grownBy W' row) (hr : ∀ r, row = some r → B ≤ r ∧ ∃ o : Obj, W.heap[r]? = some o ∧ o.isCells = false) : W'.ownsRow base e k v n xs := by
  refine ⟨h.1, ?_⟩
  rcases h.2 with h0 | ⟨g, cap, cur, hv, hb, hg0, rest⟩
  · exact .inl h0
  · refine .inr ⟨g, cap, cur, hv, hb, (hg.block g (Array.getElem?_eq_some_iff.1 hg0).1 (fun e => ?_)).trans hg0, rest⟩
    obtain ⟨_, o, ho, hc⟩ := hr g e.symm
    rw [hg0] at ho
    obtain rfl := Option.some.inj ho
    cases hc
theorem KeepsFrom.of_below {B : Nat} {W W' : World} (h : Below W.heap.size W W') : KeepsFrom B W W' := ⟨h.size, fun k o _ ho _ => (h.block k (Array.getElem?_eq_some_iff.1 ho).1).trans ho⟩
set_option maxRecDepth 100000 in
set_option maxHeartbeats 2000000 in
theorem range1_in (F : Fence) (hd : F.depth = none) (n : Nat) (h36 : F.fn 36) (hf : F.fn 37) (hro : F.round = none) (l M g t8 t4 : Nat) (t : Tr) (fr : ByteArray) (J Jx : List Pr → World → Prop)
    (hY : YieldsOk F l M (eachT fr t).length J Jx) (P : Nat → Prop) (W : World) (HT : RdT W P g t) (hO : OkT t) (hPM : ∀ b, P b → b < M) (hMW : M ≤ W.heap.size) (H8 : Box W t8 [.pointer (some ⟨g, 0, none⟩)]) (H4 : Box W t4 [.string fr]) (h0 : J [] W) :
    CallsIn F n Try.prog 36 #[.func (.yield l) #[] #[], .pointer (some ⟨t8, 0, none⟩), .pointer (some ⟨t4, 0, none⟩)] W fun e W' => (∃ v, e = .returned v) ∧ ((∃ ys, ys = eachT fr t ∧ J ys W') ∨ (∃ pre, pre <+: eachT fr t ∧ Jx pre W')) := by
  have hdd : ∀ k : Nat, (F.depth.isSome = true → 1 ≤ k) := fun k h => by rw [hd] at h; cases h
  have he := each_in F hd hf hro l M (eachT fr t).length J Jx hY fr (szT t) t (Nat.le_refl _) (n - 1) [] P g W HT hO hPM hMW h0 (by simp)
  have HE := Lib.hid he
  have c8 := H8.c 0 _ rfl
  have c4 := H4.c 0 _ rfl
  clear he HT hO hPM H8 H4 h0
  refine callsIn_of_wp Try.func36 rfl h36 ?_ hro
  simp only [Try.ntmps36, List.size_toArray, List.length_cons, List.length_nil, Nat.reduceAdd, Nat.reduceSub, Array.replicate_succ, Array.replicate_zero, List.push_toArray, List.append_toArray, List.nil_append, List.cons_append]
  gi_wp2_with fail
  refine HE.out.mono ?_
  rintro e W1 (⟨rfl, hJ1, _⟩ | ⟨rfl, q, hq, hx⟩)
  · have HJ1 := Lib.hid hJ1
    clear hJ1 HE
    gi_wp2_with fail
    go_end0
    exact ⟨⟨_, rfl⟩, .inl ⟨_, rfl, by simpa using HJ1.out⟩⟩
  · have HX1 := Lib.hid (And.intro hq hx)
    clear hq hx HE
    gi_wp2_with fail
    go_end0
    exact ⟨⟨_, rfl⟩, .inr ⟨q, HX1.out.1, by simpa using HX1.out.2⟩⟩
mutual
theorem eachT_len (fr : ByteArray) : ∀ t : Tr, OkT t → (eachT fr t).length ≤ (pairsT t).length
  | .mk ks vs ts, hO => by
    obtain ⟨_, _, _, hl, hi, ho⟩ := hO.parts
    by_cases h0 : ts = []
    · subst h0
      rw [eachT_leaf, pairsT_leaf]
      exact List.length_filter_le _ _
    · rw [eachT_node fr ks vs h0, pairsT_node ks vs h0]
      exact eachTs_len fr ts ks ho
theorem eachTs_len (fr : ByteArray) : ∀ (ts : List Tr) (ks : List ByteArray), OkTs ts → (eachTs fr ks ts).length ≤ (pairsTs ts).length
  | [], ks, _ => by simp [eachTs, pairsTs]
  | t :: ts, ks, h => by
    unfold OkTs at h
    have h1 := eachT_len fr t h.1
    have h2 := eachTs_len fr ts ks.tail h.2
    rw [eachTs_cons, pairsTs_cons, List.length_append, List.length_append]
    cases ks with
    | nil =>
      dsimp only at h2 ⊢
      omega
    | cons k ks =>
      dsimp only at h2 ⊢
      by_cases hk : sless fr k = true
      · rw [if_pos hk]; omega
      · rw [if_neg hk]; simp only [List.length_nil]; omega
end
/-- What holds behind some rounds: 'out' has the pairs. -/
def rangeI (w wl : World) (til : ByteArray) (t8 : Nat) (pre : List Pr) (W : World) : Prop := (∃ v, Box W (t8 + 1) [v] ∧ W.ownsRow (t8 + 1 + 1) 56 2 v pre.length (pre.flatMap encPr)) ∧ Box W (w.heap.size + 1 + 1) [.string til] ∧ Below w.heap.size w W ∧ wl.heap.size ≤ W.heap.size ∧ ∀ p ∈ pre, goOn til p = true
theorem rangeI_own (w wl : World) (til : ByteArray) (t8 : Nat) (h8 : w.heap.size ≤ t8) (hwl : w.heap.size ≤ wl.heap.size) : OwnFrom wl.heap.size (rangeI w wl til t8) := fun s A B row hs hg hr => by
  obtain ⟨⟨v, h1, h2⟩, h3, h4, h5, h6⟩ := hs
  exact ⟨⟨v, box_ownFrom h1 hg hr, own_ownFrom h2 hg hr⟩, box_ownFrom h3 hg hr, h4.grown hg h4.size (fun k hk => by have := (hr k hk).1; omega), Nat.le_trans h5 hg.size, h6⟩
theorem rangeI_alloc {w wl : World} {til : ByteArray} {t8 : Nat} {pre : List Pr} {W : World} (h : rangeI w wl til t8 pre W) (o : Obj) : rangeI w wl til t8 pre (W.alloc o) := by
  obtain ⟨⟨v, h1, h2⟩, h3, h4, h5, h6⟩ := h
  exact ⟨⟨v, h1.alloc o, h2.alloc o⟩, h3.alloc o, h4.alloc h4.size o, by simp; omega, h6⟩
theorem own_cells {W : World} {base k n : Nat} {e : TypeId} {v : Value} {xs : List Value} (h : W.ownsRow base e k v n xs) : ∀ (j : Nat) (o : Obj), v.ownBlock = some j → W.heap[j]? = some o → o.isCells = true := by
  intro j o hj ho
  rcases h.2 with ⟨rfl, _⟩ | ⟨g, cap, cur, rfl, _, hg, _⟩
  · simp [Value.ownBlock] at hj
  · obtain rfl : g = j := by simpa [Value.ownBlock] using hj
    rw [hg] at ho
    obtain rfl := Option.some.inj ho
    rfl
/-- A pair is appended to 'out'. -/
theorem range_step {w wl W w1 : World} {til : ByteArray} {t8 : Nat} {pre : List Pr} {x : Pr} {v v' : Value} {cs : Array Value} (h8 : w.heap.size + 1 + 1 < t8) (hwl : wl.heap.size = t8 + 1 + 1) (hsz : wl.heap.size ≤ W.heap.size)
    (hB : Box W (t8 + 1) [v]) (hOW : W.ownsRow (t8 + 1 + 1) 56 2 v pre.length (pre.flatMap encPr)) (hTL : Box W (w.heap.size + 1 + 1) [.string til]) (hBL : Below w.heap.size w W) (hGO : ∀ p ∈ pre, goOn til p = true) (hG : goOn til x = true)
    (hown : w1.ownsRow (t8 + 1 + 1) 56 2 v' (pre.length + 1) (pre.flatMap encPr ++ encPr x)) (hgr : (W.alloc (.cells cs 56)).grownBy w1 v.ownBlock) :
    KeepsFrom wl.heap.size W (w1.setCell ⟨t8 + 1, 0, none⟩ v') ∧ KpM (t8 + 1) W (w1.setCell ⟨t8 + 1, 0, none⟩ v') ∧ rangeI w wl til t8 (pre ++ [x]) (w1.setCell ⟨t8 + 1, 0, none⟩ v') := by
  have hlt := hOW.lt
  have hne : ∀ b, b ≤ t8 + 1 → some b ≠ v.ownBlock := fun b hb e => by have := (hlt b e.symm).1; omega
  have hb : Below (t8 + 1) W (w1.setCell ⟨t8 + 1, 0, none⟩ v') := (((Below.refl (t8 + 1) W).alloc (by omega) _).grown hgr (by simp; omega) (fun k hk => by have := (hlt k hk).1; omega)).setCell (p := ⟨t8 + 1, 0, none⟩) (Nat.le_refl _) _
  have hk : KeepsOthers W (w1.setCell ⟨t8 + 1, 0, none⟩ v') := ((KeepsOthers.alloc W _).trans (KeepsOthers.of_grownBy hgr (own_cells (hOW.alloc _)))).trans (KeepsOthers.setCell _ _ _)
  refine ⟨hk.from _, ⟨hb.os, hb.tape, hb.output, hb.size, fun k hk _ => hb.block k hk⟩, ⟨v', ?_, ?_⟩, ?_, ?_, ?_, ?_⟩
  · exact ((hB.alloc _).grown hgr (hne _ (Nat.le_refl _))).set 0 v' (by simp)
  · have h1 := ownsRow_setCell_below hown (a := ⟨t8 + 1, 0, none⟩) (by simp) v'
    rw [List.length_append, List.flatMap_append]
    simpa using h1
  · exact ((hTL.alloc _).grown hgr (hne _ (by omega))).other ⟨t8 + 1, 0, none⟩ _ (by simp; omega)
  · exact hBL.trans (hb.mono (by omega))
  · exact Nat.le_trans hsz hb.size
  · intro p hp
    rcases List.mem_append.1 hp with h | h
    · exact hGO p h
    · obtain rfl : p = x := by simpa using h
      exact hG
set_option maxRecDepth 100000 in
set_option maxHeartbeats 8000000 in
theorem range_any (NA : Option Addr) (nc : Nat) (root : Int) (s : List Nd) (fr til : ByteArray) (w : World) (hN : NodesOk w NA nc s) (hroot : InR root) :
    Calls Try.prog 19 #[.agg #[.slice NA s.length nc, .int .i64 root], .string fr, .string til] w fun e w' => ∃ v, e = .returned (.tuple #[v, .int .i64 (rangeS s root fr til).2]) ∧ w'.ownsRow w.heap.size 56 2 v (rangeS s root fr til).1.length ((rangeS s root fr til).1.flatMap encPr) ∧ Below w.heap.size w w' := by
  have hmf : ∀ (fn : Fn) (first cap : Array Value) (w : World), (Instr.makeFunc fn first cap).run Try.prog w = .ok (.func fn first cap) w := fun _ _ _ _ => rfl
  have hF0 : Below w.heap.size w (((w.alloc (.cells #[.slice NA s.length nc, .int .i64 root] 27)).alloc (.cells #[.string fr] 9)).alloc (.cells #[.string til] 9)) := (by (repeat (first | (with_reducible exact Below.refl _ _) | apply below_alloc _ (Nat.le_refl _) | refine below_set ?_ (by first | exact Nat.le_refl _ | omega) | apply below_drewN | refine below_step ?_ HB)))
  have hr := read_gen NA nc root s _ (hN.below hF0) hroot
  have HRD := Lib.hid hr
  have H4 := Lib.hid ((Box.new (w.alloc (.cells #[.slice NA s.length nc, .int .i64 root] 27)) #[.string fr] 9).alloc (.cells #[.string til] 9))
  have H5 := Lib.hid (Box.new ((w.alloc (.cells #[.slice NA s.length nc, .int .i64 root] 27)).alloc (.cells #[.string fr] 9)) #[.string til] 9)
  have HF := Lib.hid hF0
  simp only [World.size_alloc] at H4 H5
  obtain ⟨RR, hRR⟩ : ∃ RR, rangeS s root fr til = RR := ⟨_, rfl⟩
  rw [hRR]
  unfold rangeS at hRR
  have HOK : Hid (∀ t d p, readS s root = some (some t, d, p) → OkT t ∧ p = (pairsT t).length ∧ p ≤ 2048 ∧ szT t = s.length) := Lib.hid (fun t d p h => readS_ok h)
  generalize readS s root = R at *
  have HRR := Lib.hid hRR
  clear hr hF0 hN hRR
  refine (callsIn_wide (n := 5)).1 ?_
  refine callsIn_of_wp_marks Try.func19 rfl trivial ?_ rfl
  simp only [Try.ntmps19, List.size_toArray, List.length_cons, List.length_nil, Nat.reduceAdd, Nat.reduceSub, Array.replicate_succ, Array.replicate_zero, List.push_toArray, List.append_toArray, List.nil_append, List.cons_append]
  gi_wp2_with fail
  refine ⟨trivial, ?_⟩
  gi_at_call 26
  refine (callsIn_wide.2 HRD.out).mono ?_
  rintro e w3 ⟨p0, rfl, hT, hb⟩
  have hlt3 := hb.size
  replace H4 := Lib.hid (H4.out.step hb)
  replace H5 := Lib.hid (H5.out.step hb)
  replace HF := Lib.hid (below_step' HF.out hb)
  simp only [World.size_alloc] at hlt3
  clear hb HRD
  rcases R with _ | ⟨o, d, p⟩
  · have hRR : RR = ([], 9) := HRR.out.symm
    subst hRR
    obtain rfl : p0 = .pointer none := hT
    simp only [rdD, rdP, rdE]
    clear HRR HOK
    gi_wp2_with fail
    refine ⟨_, by simp [results, Try.results19, go_sem]; rfl, ?_⟩
    exact ⟨_, rfl, World.ownsRow_nil _ _ _ _, HF.out.alloc HF.out.size _⟩
  · simp only [rdD, rdP, rdE]
    cases o with
    | none =>
      have hRR : RR = ([], 0) := HRR.out.symm
      subst hRR
      obtain rfl : p0 = .pointer none := hT
      clear HRR HOK
      gi_wp2_with fail
      refine ⟨_, by simp [results, Try.results19, go_sem]; rfl, ?_⟩
      exact ⟨_, rfl, World.ownsRow_nil _ _ _ _, HF.out.alloc HF.out.size _⟩
    | some t =>
      obtain ⟨g, rfl, hT⟩ := hT
      have hOk := HOK.out t d p rfl
      have HT := Lib.hid (hT.rd.mono (P' := fun b => b < w3.heap.size) (fun b hb _ => hb))
      have HR2 : Hid (RR = ((eachT fr t).takeWhile (goOn til), 0)) := Lib.hid HRR.out.symm
      have HO := Lib.hid hOk
      clear HRR HOK hT hOk
      gi_wp2_with fail
      have H8 := Lib.hid ((Box.new w3 #[.pointer (some ⟨g, 0, none⟩)] 67).alloc (.cells #[.slice none 0 0] 36))
      have H12 := Lib.hid (Box.new (w3.alloc (.cells #[.pointer (some ⟨g, 0, none⟩)] 67)) #[.slice none 0 0] 36)
      have hb2 : Below w3.heap.size w3 ((w3.alloc (.cells #[.pointer (some ⟨g, 0, none⟩)] 67)).alloc (.cells #[.slice none 0 0] 36)) := ((Below.refl _ _).alloc (Nat.le_refl _) _).alloc (by simp) _
      replace H4 := Lib.hid (H4.out.step hb2)
      replace H5 := Lib.hid (H5.out.step hb2)
      replace HF := Lib.hid (below_step' HF.out hb2)
      replace HT := Lib.hid (HT.out.below hb2)
      have hwl : ((w3.alloc (.cells #[.pointer (some ⟨g, 0, none⟩)] 67)).alloc (.cells #[.slice none 0 0] 36)).heap.size = w3.heap.size + 1 + 1 := by simp
      simp only [World.size_alloc] at H12
      clear hb2
      generalize ((w3.alloc (.cells #[.pointer (some ⟨g, 0, none⟩)] 67)).alloc (.cells #[.slice none 0 0] 36)) = wl at *
      generalize w3.heap.size = t8 at *
      refine wpIn_rangeFunc_ownH (α := Pr) (Kp := KpM (t8 + 1)) rfl (by decide) (gf := 36) (lb := #[.pointer (some ⟨t8, 0, none⟩), .pointer (some ⟨w.heap.size + 1, 0, none⟩)]) rfl trivial (enters_of Try.func36 (by kernel_rfl) rfl)
        (encs := fun x => #[aggPr x]) (S := fun ys => ys = eachT fr t) (Sp := fun pre => pre <+: eachT fr t) (N := (eachT fr t).length) (w0 := wl)
        (fun l J Jx W hW hJ _ hY h0 => range1_in Fence.wide rfl 4 trivial trivial rfl l (t8 + 1) g t8 (w.heap.size + 1) t fr J Jx (fun m pre x W hj hl => YieldAt.anyDepth rfl m (hY pre x W hj hl)) _ W (HT.out.below hW) HO.out.1 (fun b hb => by omega) (by have := hW.size; omega) (H8.out.step hW) (H4.out.step hW) h0)
        (fun h k => h.trans k) (fun W l o o' hl _ _ _ => KpM.putObj W l o o' (by omega)) (Below.refl _ _) (fun _ => rfl)
        (rangeI w wl til t8) (fun c pre W => c = .exit 0 ∧ ∃ pre0 x, pre = pre0 ++ [x] ∧ goOn til x = false ∧ rangeI w wl til t8 pre0 W)
        (rangeI_own w wl til t8 (by omega) HF.out.size) (fun c s A B row hs hg hr => by
          obtain ⟨h1, pre0, x, h2, h3, h4⟩ := hs
          exact ⟨h1, pre0, x, h2, h3, rangeI_own w wl til t8 (by omega) HF.out.size pre0 A B row h4 hg hr⟩)
        ⟨⟨_, H12.out, World.ownsRow_nil _ _ _ _⟩, H5.out, HF.out, Nat.le_refl _, fun p hp => by cases hp⟩
        (fun x a' W => ∃ Bx, wl.heap.size ≤ Bx ∧ Box W Bx [.string x.1, .string x.2] ∧ a' = { tmps := #[.agg #[.slice NA s.length nc, .int .i64 root], .string fr, .string til, .pointer (some ⟨w.heap.size, 0, none⟩), .pointer (some ⟨w.heap.size + 1, 0, none⟩), .pointer (some ⟨w.heap.size + 1 + 1, 0, none⟩), .slice none 0 0, .int .i64 0, .pointer (some ⟨t8, 0, none⟩), .int .i64 d, .int .i64 p, .int .i64 0, .pointer (some ⟨t8 + 1, 0, none⟩), .pointer (some ⟨Bx, 0, none⟩), .tuple #[.pointer (some ⟨g, 0, none⟩), .int .i64 d, .int .i64 p, .int .i64 0], .agg #[.slice NA s.length nc, .int .i64 root], .tuple #[.pointer (some ⟨g, 0, none⟩), .int .i64 d, .int .i64 p, .int .i64 0], .pointer (some ⟨g, 0, none⟩), .int .i64 d, .int .i64 p, .int .i64 0, .int .i64 0, .bool false, .bool false, .pointer (some ⟨g, 0, none⟩), .bool false, .bool false, undef, .func (.func 36) #[] #[.pointer (some ⟨t8, 0, none⟩), .pointer (some ⟨w.heap.size + 1, 0, none⟩)], aggPr x, undef, undef, undef, undef, undef, undef, undef, undef, undef, undef, undef, undef, undef, undef], defers := [] })
        (fun x a' s A B row hs hg hr => by obtain ⟨Bx, h1, h2, h3⟩ := hs; exact ⟨Bx, h1, box_ownFrom h2 hg hr, h3⟩)
        ?assign ?body ?done ?stop
      case assign =>
        rintro l pre ⟨xk, xv⟩ W K hI hK
        unfold aggPr
        dsimp only at hK ⊢
        have HI := Lib.hid hI
        clear hI
        gi_wp2
        exact hK _ _ ((KeepsOthers.alloc _ _).from _) (Kept.of_below ((Below.refl _ W).alloc (Nat.le_refl _) _) (by have := HI.out.2.2.2.1; omega)) (rangeI_alloc HI.out _) ⟨W.heap.size, HI.out.2.2.2.1, Box.new W #[.string xk, .string xv] _, rfl⟩
      case body =>
        rintro l pre ⟨xk, xv⟩ a' W hl hr hI ⟨Bx, hBx, bX, rfl⟩ hlt
        obtain ⟨iP, hp0, hp1, hp2, hp3⟩ := info_parts (show (Try.prog.info? 56).map (fun i => (i.zero, i.size, i.bytes)) = some (some (.agg #[.string ⟨#[]⟩, .string ⟨#[]⟩]), 2, 32) by kernel_rfl)
        have hlen : pre.length < 2048 := by
          have h1 := eachT_len fr t HO.out.1
          have h2 := HO.out.2.1
          have h3 := HO.out.2.2.1
          omega
        obtain ⟨⟨v, hB, hown⟩, hTl, hbl, hwsz, hgo⟩ := hI
        have HB := Lib.hid hB
        have HOW := Lib.hid hown
        have HTL := Lib.hid hTl
        have HBL := Lib.hid hbl
        have HGO := Lib.hid hgo
        have HBX := Lib.hid bX
        have hcmp := compare_neg xk.toList til.toList
        rw [ByteArray.toList_eq, ByteArray.toList_eq] at hcmp
        have hst1 : goOn til (xk, xv) = true → rangeI w wl til t8 (pre ++ [(xk, xv)]) W → True := fun _ _ => trivial
        unfold aggPr
        dsimp only
        clear hst1 hB hown hTl hbl hgo bX hlt hr
        cases hg : goOn til (xk, xv) with
        | false =>
          have hne : til.toList ≠ [] := fun e => by unfold goOn at hg; rw [e] at hg; simp at hg
          have hne2 : (til.toList == []) = false := by rw [beq_eq_false_iff_ne]; exact hne
          have hls : sless xk til = false := by unfold goOn at hg; simp at hg; exact hg.2
          have hcp : 0 ≤ Lib.compareBytes xk.data.toList til.data.toList := by
            unfold sless at hls
            rw [ByteArray.toList_eq, ByteArray.toList_eq] at hls
            rw [hls] at hcmp
            simpa using hcmp
          have HG := Lib.hid hg
          clear hcmp hls hne hg
          generalize hcv : Lib.compareBytes xk.data.toList til.data.toList = cv at *
          have cHTL0 := HTL.out.c 0 _ rfl; have fHTL0 := HTL.out.f 0 (by simp); have lHTL := HTL.out.lt; have cHBX0 := HBX.out.c 0 _ rfl; have fHBX0 := HBX.out.f 0 (by simp); have cHBX1 := HBX.out.c 1 _ rfl; have fHBX1 := HBX.out.f 1 (by simp); have lHBX := HBX.out.lt
          gi_wp2_with fail
          refine ⟨trivial, ?_⟩
          gi_at_call 38
          refine (CallsIn.inRound l (callsIn_wide.2 (compare_any _ _ _))).mono ?_
          rintro e W1 ⟨rfl, rfl⟩
          gi_wp2_with fail
          clear cHTL0 fHTL0 lHTL; clear cHBX0 fHBX0 cHBX1 fHBX1 lHBX
          exact ⟨KeepsFrom.refl _ _, rfl, pre, (xk, xv), rfl, HG.out, ⟨_, HB.out, HOW.out⟩, HTL.out, HBL.out, hwsz, HGO.out⟩
        | true =>
          have HG := Lib.hid hg
          have cHTL0 := HTL.out.c 0 _ rfl; have fHTL0 := HTL.out.f 0 (by simp); have lHTL := HTL.out.lt; have cHBX0 := HBX.out.c 0 _ rfl; have fHBX0 := HBX.out.f 0 (by simp); have cHBX1 := HBX.out.c 1 _ rfl; have fHBX1 := HBX.out.f 1 (by simp); have lHBX := HBX.out.lt; have cHB0 := HB.out.c 0 _ rfl; have fHB0 := HB.out.f 0 (by simp); have lHB := HB.out.lt
          by_cases he : til.toList = []
          · have he2 : (til.toList == []) = true := by rw [he]; rfl
            clear hcmp hg
            gi_wp2_with fail
            refine ⟨trivial, ?_⟩
            gi_wp2_with (gi_at_builtin; refine wpListIn_append_own _ rfl _ _ 36 rfl (t8 + 1 + 1) 56 iP (.agg #[.string ⟨#[]⟩, .string ⟨#[]⟩]) 2 32 Try.underlying36 hp0 hp1 hp2 hp3 rfl (by decide) _ _ _ rfl (HOW.out.alloc _) ⟨W.heap.size, 0, none⟩ 1 1 [.string xk, .string xv] rfl rfl ?c1 ?c2 ?c3 ?c4 ?c5 ?_)
            rotate_right
            rintro v' w1 hown' hgrow _
            obtain ⟨g', cap', rfl⟩ := ownsRow_succ hown'
            have hS := Lib.hid (range_step (x := (xk, xv)) (by omega) hwl hwsz HB.out HOW.out HTL.out HBL.out HGO.out HG.out hown' hgrow)
            have hne : some (t8 + 1) ≠ v.ownBlock := fun e => by have := (HOW.out.lt _ e.symm).1; omega
            have HB1 := Lib.hid ((HB.out.alloc _).grown hgrow hne)
            clear hown' hgrow hne HB HBX HTL
            have cHB10 := HB1.out.c 0 _ rfl; have fHB10 := HB1.out.f 0 (by simp); have lHB1 := HB1.out.lt
            gi_wp2_with fail
            exact hS.out
            · rintro (_ | _ | j) u hu
              · obtain rfl := Option.some.inj hu
                exact cell_new rfl (j := 0) rfl
              · obtain rfl := Option.some.inj hu
                exact cell_new rfl (j := 1) rfl
              · simp at hu
            · intro u hu
              simp at hu
              rcases hu with rfl | rfl <;> simp [Value.oneCell']
            · unfold maxLen; omega
            · omega
            · simp; omega
          · have he2 : (til.toList == []) = false := by rw [beq_eq_false_iff_ne]; exact he
            have hls : sless xk til = true := by unfold goOn at hg; simp at hg; rcases hg with hg | hg; exact absurd hg he; exact hg
            have hcp : ¬ 0 ≤ Lib.compareBytes xk.data.toList til.data.toList := by
              unfold sless at hls
              rw [ByteArray.toList_eq, ByteArray.toList_eq] at hls
              rw [hls] at hcmp
              intro h
              rw [decide_eq_true h] at hcmp
              simp at hcmp
            clear hcmp hls hg
            generalize hcv : Lib.compareBytes xk.data.toList til.data.toList = cv at *
            gi_wp2_with fail
            refine ⟨trivial, ?_⟩
            gi_at_call 38
            refine (CallsIn.inRound l (callsIn_wide.2 (compare_any _ _ _))).mono ?_
            rintro e W1 ⟨rfl, rfl⟩
            rw [hcv]
            gi_wp2_with (gi_at_builtin; refine wpListIn_append_own _ rfl _ _ 36 rfl (t8 + 1 + 1) 56 iP (.agg #[.string ⟨#[]⟩, .string ⟨#[]⟩]) 2 32 Try.underlying36 hp0 hp1 hp2 hp3 rfl (by decide) _ _ _ rfl (HOW.out.alloc _) ⟨W.heap.size, 0, none⟩ 1 1 [.string xk, .string xv] rfl rfl ?d1 ?d2 ?d3 ?d4 ?d5 ?_)
            rotate_right
            rintro v' w1 hown' hgrow _
            obtain ⟨g', cap', rfl⟩ := ownsRow_succ hown'
            have hS := Lib.hid (range_step (x := (xk, xv)) (by omega) hwl hwsz HB.out HOW.out HTL.out HBL.out HGO.out HG.out hown' hgrow)
            have hne : some (t8 + 1) ≠ v.ownBlock := fun e => by have := (HOW.out.lt _ e.symm).1; omega
            have HB1 := Lib.hid ((HB.out.alloc _).grown hgrow hne)
            clear hown' hgrow hne HB HBX HTL
            have cHB10 := HB1.out.c 0 _ rfl; have fHB10 := HB1.out.f 0 (by simp); have lHB1 := HB1.out.lt
            gi_wp2_with fail
            exact hS.out
            · rintro (_ | _ | j) u hu
              · obtain rfl := Option.some.inj hu
                exact cell_new rfl (j := 0) rfl
              · obtain rfl := Option.some.inj hu
                exact cell_new rfl (j := 1) rfl
              · simp at hu
            · intro u hu
              simp at hu
              rcases hu with rfl | rfl <;> simp [Value.oneCell']
            · unfold maxLen; omega
            · omega
            · simp; omega
      case done =>
        rintro D ys W hD hys hI hK
        have HI := Lib.hid (rangeI_own w wl til t8 (by omega) HF.out.size |>.putObj (.deferred none) hI hD hK rfl)
        have HRX : Hid (RR = (ys, 0)) := Lib.hid (by
          rw [HR2.out, ← hys, takeWhile_all hI.2.2.2.2])
        obtain ⟨⟨v, hB, hown⟩, hTl, hbl, hwsz, hgo⟩ := hI
        have HOW := Lib.hid (OwnFrom.putObj (B := wl.heap.size) (I := fun (xs : List Pr) W => W.ownsRow (t8 + 1 + 1) 56 2 v xs.length (xs.flatMap encPr)) (fun s A B row hs hg hr => own_ownFrom hs hg hr) (.deferred none) hown hD hK rfl)
        have HB := Lib.hid hB
        clear hB hown hTl hbl hgo hys
        dsimp only
        have cHB0 := HB.out.c 0 _ rfl; have fHB0 := HB.out.f 0 (by simp); have lHB := HB.out.lt
        gi_wp2_with fail
        refine ⟨by simp, .inl ⟨_, _, rfl, run_takeDeferred hK, ?_⟩⟩
        refine ⟨_, by simp [results, Try.results19, go_sem]; rfl, ?_⟩
        obtain ⟨_, _, hbl2, _⟩ := HI.out
        rw [HRX.out]
        exact ⟨_, rfl, own_base HOW.out (by omega), hbl2⟩
      case stop =>
        rintro D c pre W hD hpre ⟨rfl, pre0, x, rfl, hx, hI⟩ hK
        have HI := Lib.hid (rangeI_own w wl til t8 (by omega) HF.out.size |>.putObj (.deferred none) hI hD hK rfl)
        have HRX : Hid (RR = (pre0, 0)) := Lib.hid (by
          rw [HR2.out, takeWhile_upto hI.2.2.2.2 hx hpre])
        obtain ⟨⟨v, hB, hown⟩, hTl, hbl, hwsz, hgo⟩ := hI
        have HOW := Lib.hid (OwnFrom.putObj (B := wl.heap.size) (I := fun (xs : List Pr) W => W.ownsRow (t8 + 1 + 1) 56 2 v xs.length (xs.flatMap encPr)) (fun s A B row hs hg hr => own_ownFrom hs hg hr) (.deferred none) hown hD hK rfl)
        have HB := Lib.hid hB
        clear hB hown hTl hbl hgo hpre hx
        dsimp only
        have cHB0 := HB.out.c 0 _ rfl; have fHB0 := HB.out.f 0 (by simp); have lHB := HB.out.lt
        gi_wp2_with fail
        refine ⟨by simp, .inl ⟨_, _, rfl, run_takeDeferred hK, ?_⟩⟩
        refine ⟨_, by simp [results, Try.results19, go_sem]; rfl, ?_⟩
        obtain ⟨_, _, hbl2, _⟩ := HI.out
        rw [HRX.out]
        exact ⟨_, rfl, own_base HOW.out (by omega), hbl2⟩
end Go.Proofs.Ytkecbghnapjecaa
