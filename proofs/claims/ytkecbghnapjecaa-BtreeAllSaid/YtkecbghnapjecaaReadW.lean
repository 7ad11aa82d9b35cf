/- Package btree: read: a state's nodes. -/
import Derived.Test.YtkecbghnapjecaaNodeW
import Derived.Test.YtkecbghnapjecaaReadC
namespace Go.Proofs.Ytkecbghnapjecaa
open Go.RowKit
set_option linter.unusedVariables false
set_option linter.unusedSimpArgs false
/-- What read makes of a state. -/
def readS (s : List Nd) (root : Int) : Option (Option Tr × Int × Int) :=
  if s = [] then (if root = -1 then some (none, 0, 0) else none)
  else match nodeS s (s.length + 1) ⟨[], 0, 0⟩ 1 root none none with
    | none => none
    | some (t, r) => if r.met.length = s.length then some (some t, r.leaf, r.pairs) else none
def readPost (w : World) : Option (Option Tr × Int × Int) → Ending → World → Prop
  | none, e, w' => e = .returned (.tuple #[.pointer none, .int .i64 0, .int .i64 0, .int .i64 9]) ∧ Below w.heap.size w w'
  | some (none, d, p), e, w' => e = .returned (.tuple #[.pointer none, .int .i64 d, .int .i64 p, .int .i64 0]) ∧ Below w.heap.size w w'
  | some (some t, d, p), e, w' => ∃ g, e = .returned (.tuple #[.pointer (some ⟨g, 0, none⟩), .int .i64 d, .int .i64 p, .int .i64 0]) ∧ TrAt w' (fun b => w.heap.size ≤ b) g t ∧ Below w.heap.size w w'
/-- The four results' cells, and what read lays ahead of the walk. -/
theorem catch4 {w wp : World} {x y z : Value} {y0 : Int} (HB1 : Hid (Box wp (w.heap.size + 1) [x])) (HB2 : Hid (Box wp (w.heap.size + 1 + 1) [y])) (HB3 : Hid (Box wp (w.heap.size + 1 + 1 + 1) [z])) (HB4 : Hid (Box wp (w.heap.size + 1 + 1 + 1 + 1) [.int .i64 y0])) (c : Int) (ho1 : x.oneCell' = true) (ho2 : y.oneCell' = true) (ho3 : z.oneCell' = true) :
    CallsD Try.prog 41 #[.pointer (some ⟨w.heap.size + 1, 0, none⟩), .pointer (some ⟨w.heap.size + 1 + 1, 0, none⟩), .pointer (some ⟨w.heap.size + 1 + 1 + 1, 0, none⟩), .pointer (some ⟨w.heap.size + 1 + 1 + 1 + 1, 0, none⟩)] (.panicking (pan c)) wp fun r u' w' =>
      r = .returned (.tuple #[]) ∧ u' = .panicking [{ v := Value.iface 29 (Value.int IntKind.i64 c), recovered := true }] ∧ w' = (((wp.setCell ⟨w.heap.size + 1, 0, none⟩ (.pointer none)).setCell ⟨w.heap.size + 1 + 1, 0, none⟩ (.int .i64 0)).setCell ⟨w.heap.size + 1 + 1 + 1, 0, none⟩ (.int .i64 0)).setCell ⟨w.heap.size + 1 + 1 + 1 + 1, 0, none⟩ (.int .i64 c) :=
  catch_panicking _ _ _ _ _ _ _ _ _ _ (by simp) (by simp) (by simp) (by simp) (by simp) (by simp) (HB1.out.c 0 _ rfl) (HB2.out.c 0 _ rfl) (HB3.out.c 0 _ rfl) (HB4.out.c 0 _ rfl) (HB1.out.f 0 (by simp)) (HB2.out.f 0 (by simp)) (HB3.out.f 0 (by simp)) (HB4.out.f 0 (by simp)) ho1 ho2 ho3
/-- What lies in the four cells behind four stores. -/
theorem four4 {w wp : World} {x y z u x' y' z' u' : Value} (HB1 : Box wp (w.heap.size + 1) [x]) (HB2 : Box wp (w.heap.size + 1 + 1) [y]) (HB3 : Box wp (w.heap.size + 1 + 1 + 1) [z]) (HB4 : Box wp (w.heap.size + 1 + 1 + 1 + 1) [u]) (HF : Below w.heap.size w wp) :
    ∀ wz, wz = (((wp.setCell ⟨w.heap.size + 1, 0, none⟩ x').setCell ⟨w.heap.size + 1 + 1, 0, none⟩ y').setCell ⟨w.heap.size + 1 + 1 + 1, 0, none⟩ z').setCell ⟨w.heap.size + 1 + 1 + 1 + 1, 0, none⟩ u' → (wz.cell? ⟨w.heap.size + 1, 0, none⟩ = some x' ∧ wz.cell? ⟨w.heap.size + 1 + 1, 0, none⟩ = some y' ∧ wz.cell? ⟨w.heap.size + 1 + 1 + 1, 0, none⟩ = some z' ∧ wz.cell? ⟨w.heap.size + 1 + 1 + 1 + 1, 0, none⟩ = some u') ∧ Below w.heap.size w wz ∧ (∀ k, k ≠ w.heap.size + 1 → k ≠ w.heap.size + 1 + 1 → k ≠ w.heap.size + 1 + 1 + 1 → k ≠ w.heap.size + 1 + 1 + 1 + 1 → wz.heap[k]? = wp.heap[k]?) ∧ wz.heap.size = wp.heap.size := by
  rintro wz rfl
  have h1 := (((HB1.set 0 x' (by simp <;> omega)).other ⟨w.heap.size + 1 + 1, 0, none⟩ y' (by simp <;> omega)).other ⟨w.heap.size + 1 + 1 + 1, 0, none⟩ z' (by simp <;> omega)).other ⟨w.heap.size + 1 + 1 + 1 + 1, 0, none⟩ u' (by simp <;> omega)
  have h2 := (((HB2.other ⟨w.heap.size + 1, 0, none⟩ x' (by simp <;> omega)).set 0 y' (by simp <;> omega)).other ⟨w.heap.size + 1 + 1 + 1, 0, none⟩ z' (by simp <;> omega)).other ⟨w.heap.size + 1 + 1 + 1 + 1, 0, none⟩ u' (by simp <;> omega)
  have h3 := (((HB3.other ⟨w.heap.size + 1, 0, none⟩ x' (by simp <;> omega)).other ⟨w.heap.size + 1 + 1, 0, none⟩ y' (by simp <;> omega)).set 0 z' (by simp <;> omega)).other ⟨w.heap.size + 1 + 1 + 1 + 1, 0, none⟩ u' (by simp <;> omega)
  have h4 := (((HB4.other ⟨w.heap.size + 1, 0, none⟩ x' (by simp <;> omega)).other ⟨w.heap.size + 1 + 1, 0, none⟩ y' (by simp <;> omega)).other ⟨w.heap.size + 1 + 1 + 1, 0, none⟩ z' (by simp <;> omega)).set 0 u' (by simp <;> omega)
  refine ⟨⟨h1.c 0 _ rfl, h2.c 0 _ rfl, h3.c 0 _ rfl, h4.c 0 _ rfl⟩, (((HF.setCell (p := ⟨w.heap.size + 1, 0, none⟩) (by simp) x').setCell (p := ⟨w.heap.size + 1 + 1, 0, none⟩) (by simp <;> omega) y').setCell (p := ⟨w.heap.size + 1 + 1 + 1, 0, none⟩) (by simp <;> omega) z').setCell (p := ⟨w.heap.size + 1 + 1 + 1 + 1, 0, none⟩) (by simp <;> omega) u', fun k e1 e2 e3 e4 => ?_, by simp⟩
  rw [heap_setCell_other _ _ _ _ e4, heap_setCell_other _ _ _ _ e3, heap_setCell_other _ _ _ _ e2, heap_setCell_other _ _ _ _ e1]
theorem node_all (w0 : World) (NA : Option Addr) (nc : Nat) (root : Int) (s : List Nd) (hN : NodesOk w0 NA nc s) : ∀ f, NodeGo w0 NA nc root s f
  | 0 => node_zero w0 NA nc root s
  | f + 1 => node_step w0 NA nc root s f hN (node_all w0 NA nc root s hN f)
set_option maxHeartbeats 2000000 in
set_option maxRecDepth 100000 in
theorem read_any (NA : Option Addr) (nc : Nat) (root : Int) (s : List Nd) (w : World) (hN : NodesOk w NA nc s) (hroot : InR root) :
    Calls Try.prog 26 #[.agg #[.slice NA s.length nc, .int .i64 root]] w fun e w' => readPost w (readS s root) e w' := by
  have hmf : ∀ (fn : Fn) (first cap : Array Value) (w : World), (Instr.makeFunc fn first cap).run Try.prog w = .ok (.func fn first cap) w := fun _ _ _ _ => rfl
  have hmm := @run_makeMap Try.prog
  have hnode := node_all w NA nc root s hN (s.length + 1)
  obtain ⟨RS, hRS⟩ : ∃ RS, readS s root = RS := ⟨_, rfl⟩
  rw [hRS]
  unfold readS at hRS
  have HRS := Lib.hid hRS
  have HNODE := Lib.hid hnode
  have hns := hN.hn
  clear hRS hN hnode
  have HB0 := Lib.hid (((((Box.new w #[.slice NA s.length nc, .int .i64 root] 27).alloc (.cells #[.pointer none] 67)).alloc (.cells #[.int .i64 0] 3)).alloc (.cells #[.int .i64 0] 3)).alloc (.cells #[.int .i64 0] 29))
  have HB1 := Lib.hid ((((Box.new (w.alloc (.cells #[.slice NA s.length nc, .int .i64 root] 27)) #[.pointer none] 67).alloc (.cells #[.int .i64 0] 3)).alloc (.cells #[.int .i64 0] 3)).alloc (.cells #[.int .i64 0] 29))
  have HB2 := Lib.hid (((Box.new ((w.alloc (.cells #[.slice NA s.length nc, .int .i64 root] 27)).alloc (.cells #[.pointer none] 67)) #[.int .i64 0] 3).alloc (.cells #[.int .i64 0] 3)).alloc (.cells #[.int .i64 0] 29))
  have HB3 := Lib.hid ((Box.new (((w.alloc (.cells #[.slice NA s.length nc, .int .i64 root] 27)).alloc (.cells #[.pointer none] 67)).alloc (.cells #[.int .i64 0] 3)) #[.int .i64 0] 3).alloc (.cells #[.int .i64 0] 29))
  have HB4 := Lib.hid (Box.new ((((w.alloc (.cells #[.slice NA s.length nc, .int .i64 root] 27)).alloc (.cells #[.pointer none] 67)).alloc (.cells #[.int .i64 0] 3)).alloc (.cells #[.int .i64 0] 3)) #[.int .i64 0] 29)
  have HF : Hid (Below w.heap.size w (((((w.alloc (.cells #[.slice NA s.length nc, .int .i64 root] 27)).alloc (.cells #[.pointer none] 67)).alloc (.cells #[.int .i64 0] 3)).alloc (.cells #[.int .i64 0] 3)).alloc (.cells #[.int .i64 0] 29))) := Lib.hid (by (repeat (first | (with_reducible exact Below.refl _ _) | apply below_alloc _ (Nat.le_refl _) | refine below_set ?_ (by first | exact Nat.le_refl _ | omega) | apply below_drewN | refine below_step ?_ HB)))
  simp only [World.size_alloc] at HB1 HB2 HB3 HB4
  have HS5 : Hid ((((((w.alloc (.cells #[.slice NA s.length nc, .int .i64 root] 27)).alloc (.cells #[.pointer none] 67)).alloc (.cells #[.int .i64 0] 3)).alloc (.cells #[.int .i64 0] 3)).alloc (.cells #[.int .i64 0] 29)).heap.size = w.heap.size + 1 + 1 + 1 + 1 + 1) := Lib.hid (by simp)
  go_enter_defers Try.func26, Try.ntmps26
  go_upto_region 2 with (fail)
  generalize (((((w.alloc (.cells #[.slice NA s.length nc, .int .i64 root] 27)).alloc (.cells #[.pointer none] 67)).alloc (.cells #[.int .i64 0] 3)).alloc (.cells #[.int .i64 0] 3)).alloc (.cells #[.int .i64 0] 29)) = w5 at *
  by_cases h0 : s = []
  · rw [if_pos h0] at HRS
    have hl0 : (s.length : Int) = 0 := by rw [h0]; rfl
    clear HNODE h0
    by_cases h1 : root = -1
    · rw [if_pos h1] at HRS
      have hRS := HRS.out
      subst hRS
      have h1' : (root == -1) = true := by rw [h1]; rfl
      clear HRS h1
      have cHB00 := HB0.out.c 0 _ rfl; have fHB00 := HB0.out.f 0 (by simp); have cHB01 := HB0.out.c 1 _ rfl; have fHB01 := HB0.out.f 1 (by simp); have lHB0 := HB0.out.lt; have cHB10 := HB1.out.c 0 _ rfl; have fHB10 := HB1.out.f 0 (by simp); have lHB1 := HB1.out.lt; have cHB20 := HB2.out.c 0 _ rfl; have fHB20 := HB2.out.f 0 (by simp); have lHB2 := HB2.out.lt; have cHB30 := HB3.out.c 0 _ rfl; have fHB30 := HB3.out.f 0 (by simp); have lHB3 := HB3.out.lt; have cHB40 := HB4.out.c 0 _ rfl; have fHB40 := HB4.out.f 0 (by simp); have lHB4 := HB4.out.lt
      go_wp2_with (go_at_call 42; first | ((with_reducible refine (need_false _ _).mono ?_); rintro e w' ⟨rfl, rfl⟩) | ((with_reducible refine (need_true _ _).mono ?_); rintro e w' ⟨rfl, rfl⟩))
      refine leaves_cons (f := 41) (args := #[.pointer (some ⟨w.heap.size + 1, 0, none⟩), .pointer (some ⟨w.heap.size + 1 + 1, 0, none⟩), .pointer (some ⟨w.heap.size + 1 + 1 + 1, 0, none⟩), .pointer (some ⟨w.heap.size + 1 + 1 + 1 + 1, 0, none⟩)]) (by simp) (by simp [go_sem]) ?_
      refine (catch_idle _ _ _ _ _).mono ?_
      rintro e u' w'' ⟨rfl, rfl, hw''⟩
      obtain ⟨⟨z1, z2, z3, z4⟩, hF9, _, _⟩ := four4 HB1.out HB2.out HB3.out HB4.out HF.out _ hw''
      clear hw''
      refine ⟨_, by simp [results, Try.results26, go_sem, z1, z2, z3, z4]; rfl, ?_⟩
      exact ⟨rfl, hF9⟩
    · rw [if_neg h1] at HRS
      have hRS := HRS.out
      subst hRS
      have h1' : (root == -1) = false := by rw [beq_eq_false_iff_ne]; exact h1
      clear HRS h1
      have cHB00 := HB0.out.c 0 _ rfl; have fHB00 := HB0.out.f 0 (by simp); have cHB01 := HB0.out.c 1 _ rfl; have fHB01 := HB0.out.f 1 (by simp); have lHB0 := HB0.out.lt
      go_wp2_with (go_at_call 42; first | ((with_reducible refine (need_false _ _).mono ?_); rintro e w' ⟨rfl, rfl⟩) | ((with_reducible refine (need_true _ _).mono ?_); rintro e w' ⟨rfl, rfl⟩))
      clear cHB00 fHB00 cHB01 fHB01 lHB0
      refine leaves_cons (f := 41) (args := #[.pointer (some ⟨w.heap.size + 1, 0, none⟩), .pointer (some ⟨w.heap.size + 1 + 1, 0, none⟩), .pointer (some ⟨w.heap.size + 1 + 1 + 1, 0, none⟩), .pointer (some ⟨w.heap.size + 1 + 1 + 1 + 1, 0, none⟩)]) (by simp) (by simp [go_sem]) ?_
      refine (catch4 HB1 HB2 HB3 HB4 9 rfl rfl rfl).mono ?_
      rintro e u' w'' ⟨rfl, rfl, hw''⟩
      obtain ⟨⟨z1, z2, z3, z4⟩, hF9, _, _⟩ := four4 HB1.out HB2.out HB3.out HB4.out HF.out _ hw''
      clear hw''
      refine ⟨_, by simp [results, Try.results26, go_sem, z1, z2, z3, z4]; rfl, ?_⟩
      exact ⟨rfl, hF9⟩
  · rw [if_neg h0] at HRS
    have hl0 : ((s.length : Int) == 0) = false := by rw [beq_eq_false_iff_ne]; have := List.length_pos_iff.2 h0; omega
    clear h0
    have cHB00 := HB0.out.c 0 _ rfl; have fHB00 := HB0.out.f 0 (by simp); have cHB01 := HB0.out.c 1 _ rfl; have fHB01 := HB0.out.f 1 (by simp); have lHB0 := HB0.out.lt
    go_upto_region 6 with (fail)
    clear cHB00 fHB00 cHB01 fHB01 lHB0
    clear hl0 hmm
    have hsz5 := HS5.out
    have HMm := Lib.hid ((IntsAt.made w5).below ((Below.refl _ _).alloc (Nat.le_refl _) (.cells #[.slice NA s.length nc, .int .i64 root, .map (some (w5.heap.size)), .int .i64 0, .int .i64 0] 97)))
    have HR := Lib.hid (Box.new (w5.alloc (.map #[] 0)) #[.slice NA s.length nc, .int .i64 root, .map (some (w5.heap.size)), .int .i64 0, .int .i64 0] 97)
    simp only [World.size_alloc] at HR
    replace HF := Lib.hid ((HF.out.alloc HF.out.size (.map #[] 0)).alloc (Nat.le_trans HF.out.size (by simp)) (.cells #[.slice NA s.length nc, .int .i64 root, .map (some (w5.heap.size)), .int .i64 0, .int .i64 0] 97))
    replace HB0 := Lib.hid ((HB0.out.alloc (.map #[] 0)).alloc (.cells #[.slice NA s.length nc, .int .i64 root, .map (some (w5.heap.size)), .int .i64 0, .int .i64 0] 97))
    replace HB1 := Lib.hid ((HB1.out.alloc (.map #[] 0)).alloc (.cells #[.slice NA s.length nc, .int .i64 root, .map (some (w5.heap.size)), .int .i64 0, .int .i64 0] 97))
    replace HB2 := Lib.hid ((HB2.out.alloc (.map #[] 0)).alloc (.cells #[.slice NA s.length nc, .int .i64 root, .map (some (w5.heap.size)), .int .i64 0, .int .i64 0] 97))
    replace HB3 := Lib.hid ((HB3.out.alloc (.map #[] 0)).alloc (.cells #[.slice NA s.length nc, .int .i64 root, .map (some (w5.heap.size)), .int .i64 0, .int .i64 0] 97))
    replace HB4 := Lib.hid ((HB4.out.alloc (.map #[] 0)).alloc (.cells #[.slice NA s.length nc, .int .i64 root, .map (some (w5.heap.size)), .int .i64 0, .int .i64 0] 97))
    have hsz6 : ((w5.alloc (.map #[] 0)).alloc (.cells #[.slice NA s.length nc, .int .i64 root, .map (some (w5.heap.size)), .int .i64 0, .int .i64 0] 97)).heap.size = w.heap.size + 1 + 1 + 1 + 1 + 1 + 1 + 1 := by simp; omega
    rw [hsz5] at *
    clear HS5 hsz5
    generalize ((w5.alloc (.map #[] 0)).alloc (.cells #[.slice NA s.length nc, .int .i64 root, .map (some (w.heap.size + 1 + 1 + 1 + 1 + 1)), .int .i64 0, .int .i64 0] 97)) = w6 at *
    have hok := HNODE.out w6 (w.heap.size + 1 + 1 + 1 + 1 + 1 + 1) (w.heap.size + 1 + 1 + 1 + 1 + 1) ⟨[], 0, 0⟩ 1 root (.pointer none) (.pointer none) none none ⟨HF.out, by omega, by omega, by omega, HR.out, HMm.out, rfl, rfl, by simp, by simp, by simp, hroot, by simp, by simp⟩
    clear HR HMm HNODE
    generalize nodeS s (s.length + 1) ⟨[], 0, 0⟩ 1 root none none = RN at *
    have cHB00 := HB0.out.c 0 _ rfl; have fHB00 := HB0.out.f 0 (by simp); have cHB01 := HB0.out.c 1 _ rfl; have fHB01 := HB0.out.f 1 (by simp); have lHB0 := HB0.out.lt; have cHB10 := HB1.out.c 0 _ rfl; have fHB10 := HB1.out.f 0 (by simp); have lHB1 := HB1.out.lt
    go_wp2_with fail
    clear cHB00 fHB00 cHB01 fHB01 lHB0
    refine hok.mono ?_
    rintro e w7 hpost
    clear hok
    cases RN with
    | none =>
      have hRS := HRS.out
      subst hRS
      obtain ⟨rfl, hk⟩ := hpost
      have hb6 := hk.to_below (M := w.heap.size + 1 + 1 + 1 + 1 + 1) (by omega) (fun k hk => by omega)
      replace HB1 := Lib.hid (HB1.out.below hb6 (by omega))
      replace HB2 := Lib.hid (HB2.out.below hb6 (by omega))
      replace HB3 := Lib.hid (HB3.out.below hb6 (by omega))
      replace HB4 := Lib.hid (HB4.out.below hb6 (by omega))
      replace HF := Lib.hid (HF.out.trans (hb6.mono (by omega)))
      clear hk HRS
      go_wp2_with fail
      refine leaves_cons (f := 41) (args := #[.pointer (some ⟨w.heap.size + 1, 0, none⟩), .pointer (some ⟨w.heap.size + 1 + 1, 0, none⟩), .pointer (some ⟨w.heap.size + 1 + 1 + 1, 0, none⟩), .pointer (some ⟨w.heap.size + 1 + 1 + 1 + 1, 0, none⟩)]) (by simp) (by simp [go_sem]) ?_
      refine (catch4 HB1 HB2 HB3 HB4 9 rfl rfl rfl).mono ?_
      rintro e u' w'' ⟨rfl, rfl, hw''⟩
      obtain ⟨⟨z1, z2, z3, z4⟩, hF9, _, _⟩ := four4 HB1.out HB2.out HB3.out HB4.out HF.out _ hw''
      clear hw''
      refine ⟨_, by simp [results, Try.results26, go_sem, z1, z2, z3, z4]; rfl, ?_⟩
      exact ⟨rfl, hF9⟩
    | some tr =>
      obtain ⟨t, r2⟩ := tr
      obtain ⟨g, rfl, hT, hR, hM, hk⟩ := hpost
      clear cHB10 fHB10
      have hb6 := hk.to_below (M := w.heap.size + 1 + 1 + 1 + 1 + 1) (by omega) (fun k hk => by omega)
      replace HB0 := Lib.hid (HB0.out.below hb6 (by omega))
      replace HB1 := Lib.hid (HB1.out.below hb6 (by omega))
      replace HB2 := Lib.hid (HB2.out.below hb6 (by omega))
      replace HB3 := Lib.hid (HB3.out.below hb6 (by omega))
      replace HB4 := Lib.hid (HB4.out.below hb6 (by omega))
      replace HF := Lib.hid (HF.out.trans (hb6.mono (by omega)))
      have HT : Hid (TrAt w7 (fun b => w.heap.size + 1 + 1 + 1 + 1 + 1 + 1 + 1 ≤ b) g t) := Lib.hid (hT.mono (fun b _ h => by omega))
      have HR := Lib.hid hR
      have HM := Lib.hid hM
      clear hT hR hM hk hb6 hsz6 lHB1
      have cHB10 := HB1.out.c 0 _ rfl; have fHB10 := HB1.out.f 0 (by simp); have lHB1 := HB1.out.lt
      go_upto_region 7 with (fail)
      clear cHB10 fHB10 lHB1
      replace HR := Lib.hid (HR.out.other ⟨w.heap.size + 1, 0, none⟩ (.pointer (some ⟨g, 0, none⟩)) (by simp))
      replace HM := Lib.hid (HM.out.grown (grown_set w7 ⟨w.heap.size + 1, 0, none⟩ (.pointer (some ⟨g, 0, none⟩))) (fun e => by have := Option.some.inj e; simp only at this; omega))
      replace HT := Lib.hid (HT.out.kept (w' := w7.setCell ⟨w.heap.size + 1, 0, none⟩ (.pointer (some ⟨g, 0, none⟩))) (B := fun k => k = w.heap.size + 1) ((Kept.refl _ _ w7).set _ _ (.inr rfl)) (fun k hk h => by omega))
      replace HF := Lib.hid (HF.out.setCell (p := ⟨w.heap.size + 1, 0, none⟩) (by simp) (.pointer (some ⟨g, 0, none⟩)))
      have hB1 := HB1.out.set 0 (.pointer (some ⟨g, 0, none⟩)) (by simp)
      replace HB1 : Hid (Box _ _ [.pointer (some ⟨g, 0, none⟩)]) := Lib.hid hB1
      replace HB0 := Lib.hid (HB0.out.other ⟨w.heap.size + 1, 0, none⟩ (.pointer (some ⟨g, 0, none⟩)) (by simp))
      replace HB2 := Lib.hid (HB2.out.other ⟨w.heap.size + 1, 0, none⟩ (.pointer (some ⟨g, 0, none⟩)) (by simp))
      replace HB3 := Lib.hid (HB3.out.other ⟨w.heap.size + 1, 0, none⟩ (.pointer (some ⟨g, 0, none⟩)) (by simp))
      replace HB4 := Lib.hid (HB4.out.other ⟨w.heap.size + 1, 0, none⟩ (.pointer (some ⟨g, 0, none⟩)) (by simp))
      clear hB1
      generalize w7.setCell ⟨w.heap.size + 1, 0, none⟩ (.pointer (some ⟨g, 0, none⟩)) = w8 at *
      generalize hrb : w.heap.size + 1 + 1 + 1 + 1 + 1 + 1 = rb at *
      generalize hmb : w.heap.size + 1 + 1 + 1 + 1 + 1 = mb at *
      refine wp_lift ?_
      refine stage_begin (S := fun (L' : Array Bool) (w' : World) => Box w' w.heap.size [.slice NA s.length nc, .int .i64 root] ∧ Box w' rb [.slice NA s.length nc, .int .i64 root, .map (some (mb)), .int .i64 r2.leaf, .int .i64 r2.pairs] ∧ IntsAt w' mb r2.met) (by kernel_rfl) ?_
      have hS0 : Box w8.drew w.heap.size [.slice NA s.length nc, .int .i64 root] ∧ Box w8.drew rb [.slice NA s.length nc, .int .i64 root, .map (some (mb)), .int .i64 r2.leaf, .int .i64 r2.pairs] ∧ IntsAt w8.drew mb r2.met := ⟨HB0.out.drew, HR.out.drew, HM.out.below (below_drewN (Below.refl _ _) 1)⟩
      replace HB0 := Lib.hid HB0.out.drew
      replace HB1 := Lib.hid HB1.out.drew
      replace HB2 := Lib.hid HB2.out.drew
      replace HB3 := Lib.hid HB3.out.drew
      replace HB4 := Lib.hid HB4.out.drew
      replace HR := Lib.hid HR.out.drew
      replace HT : Hid (TrAt w8.drew _ g t) := Lib.hid (HT.out.below (below_drewN (Below.refl _ _) 1))
      replace HF : Hid (Below w.heap.size w w8.drew) := Lib.hid (below_drewN HF.out 1)
      replace HM : Hid (IntsAt w8.drew mb r2.met) := Lib.hid (HM.out.below (below_drewN (Below.refl _ _) 1))
      generalize w8.drew = w9 at *
      refine stage_take (i := 0) (oi := { dst := some 24, op := Go.Op.move (Go.Operand.tmp 6), type := 94, pos := "btree.go:107", after := #[], guard := none }) (v := ?_) (T := fun _ => True) rfl (by kernel_rfl) (by kernel_rfl) (by kernel_rfl) (by kernel_rfl) (fun _ _ _ h => lift_put (by decide) h) (fun L' w' hW hS => trivial) (fun L' w' hS => hS) (Or.inl ⟨by rfl, ?_⟩) trivial (hS0) ?_
      rotate_left 1
      · intro w9 _; go_simp; (try with_reducible rfl)
      try simp only [Act.put, List.setIfInBounds_toArray, List.set_cons_zero, List.set_cons_succ]
      refine stage_take (i := 1) (oi := { dst := some 25, op := Go.Op.nilCheck (Go.Operand.tmp 24), type := 0, pos := "btree.go:107", after := #[{ on := 0, ground := Go.Ground.data }], guard := none }) (v := ?_) (T := fun _ => True) rfl (by kernel_rfl) (by kernel_rfl) (by kernel_rfl) (by kernel_rfl) (fun _ _ _ h => lift_put (by decide) h) (fun L' w' hW hS => trivial) (fun L' w' hS => hS) (Or.inl ⟨by rfl, ?_⟩) trivial (hS0) ?_
      rotate_left 1
      · intro w9 _; go_simp; (try with_reducible rfl)
      try simp only [Act.put, List.setIfInBounds_toArray, List.set_cons_zero, List.set_cons_succ]
      refine stage_take (i := 2) (oi := { dst := some 26, op := Go.Op.fieldAddr 97 (Go.Operand.tmp 25) 1, type := 0, pos := "btree.go:107", after := #[{ on := 1, ground := Go.Ground.data }], guard := none }) (v := ?_) (T := fun _ => True) rfl (by kernel_rfl) (by kernel_rfl) (by kernel_rfl) (by kernel_rfl) (fun _ _ _ h => lift_put (by decide) h) (fun L' w' hW hS => trivial) (fun L' w' hS => hS) (Or.inl ⟨by rfl, ?_⟩) trivial (hS0) ?_
      rotate_left 1
      · intro w9 _; go_simp; (try with_reducible rfl)
      try simp only [Act.put, List.setIfInBounds_toArray, List.set_cons_zero, List.set_cons_succ]
      refine stage_take (i := 3) (oi := { dst := some 27, op := Go.Op.load 95 (Go.Operand.tmp 26), type := 95, pos := "btree.go:107", after := #[{ on := 2, ground := Go.Ground.data }], guard := none }) (v := ?_) (T := fun w' : World => Box w' w.heap.size [.slice NA s.length nc, .int .i64 root] ∧ Box w' rb [.slice NA s.length nc, .int .i64 root, .map (some (mb)), .int .i64 r2.leaf, .int .i64 r2.pairs] ∧ IntsAt w' mb r2.met) rfl (by kernel_rfl) (by kernel_rfl) (by kernel_rfl) (by kernel_rfl) (fun _ _ _ h => lift_put (by decide) h) (fun L' w' hW hS => hS) (fun L' w' hS => hS) (Or.inl ⟨by rfl, ?_⟩) (hS0) (hS0) ?_
      rotate_left 1
      · intro w9 zA; have z2 := zA.2.1.c 2 _ rfl; clear zA; go_simp; (try with_reducible rfl)
      try simp only [Act.put, List.setIfInBounds_toArray, List.set_cons_zero, List.set_cons_succ]
      refine stage_take (i := 4) (oi := { dst := some 28, op := Go.Op.call { callee := Go.Callee.builtin Go.Builtin.len, args := #[Go.Operand.tmp 27], argTypes := #[95] }, type := 3, pos := "btree.go:107", after := #[{ on := 3, ground := Go.Ground.data }], guard := none }) (v := ?_) (T := fun w' : World => Box w' w.heap.size [.slice NA s.length nc, .int .i64 root] ∧ Box w' rb [.slice NA s.length nc, .int .i64 root, .map (some (mb)), .int .i64 r2.leaf, .int .i64 r2.pairs] ∧ IntsAt w' mb r2.met) rfl (by kernel_rfl) (by kernel_rfl) (by kernel_rfl) (by kernel_rfl) (fun _ _ _ h => lift_put (by decide) h) (fun L' w' hW hS => hS) (fun L' w' hS => hS) (Or.inl ⟨by rfl, ?_⟩) (hS0) (hS0) ?_
      rotate_left 1
      · intro w9 zA; have zl := zA.2.2.len; clear zA; go_simp; (try with_reducible rfl)
      try simp only [Act.put, List.setIfInBounds_toArray, List.set_cons_zero, List.set_cons_succ]
      refine stage_take (i := 5) (oi := { dst := some 29, op := Go.Op.fieldAddr 27 (Go.Operand.tmp 1) 0, type := 0, pos := "btree.go:107", after := #[], guard := none }) (v := ?_) (T := fun _ => True) rfl (by kernel_rfl) (by kernel_rfl) (by kernel_rfl) (by kernel_rfl) (fun _ _ _ h => lift_put (by decide) h) (fun L' w' hW hS => trivial) (fun L' w' hS => hS) (Or.inl ⟨by rfl, ?_⟩) trivial (hS0) ?_
      rotate_left 1
      · intro w9 _; go_simp; (try with_reducible rfl)
      try simp only [Act.put, List.setIfInBounds_toArray, List.set_cons_zero, List.set_cons_succ]
      refine stage_take (i := 6) (oi := { dst := some 30, op := Go.Op.load 25 (Go.Operand.tmp 29), type := 25, pos := "btree.go:107", after := #[{ on := 5, ground := Go.Ground.data }], guard := none }) (v := ?_) (T := fun w' : World => Box w' w.heap.size [.slice NA s.length nc, .int .i64 root] ∧ Box w' rb [.slice NA s.length nc, .int .i64 root, .map (some (mb)), .int .i64 r2.leaf, .int .i64 r2.pairs] ∧ IntsAt w' mb r2.met) rfl (by kernel_rfl) (by kernel_rfl) (by kernel_rfl) (by kernel_rfl) (fun _ _ _ h => lift_put (by decide) h) (fun L' w' hW hS => hS) (fun L' w' hS => hS) (Or.inl ⟨by rfl, ?_⟩) (hS0) (hS0) ?_
      rotate_left 1
      · intro w9 zA; have z0 := zA.1.c 0 _ rfl; clear zA; go_simp; (try with_reducible rfl)
      try simp only [Act.put, List.setIfInBounds_toArray, List.set_cons_zero, List.set_cons_succ]
      refine stage_take (i := 7) (oi := { dst := some 31, op := Go.Op.call { callee := Go.Callee.builtin Go.Builtin.len, args := #[Go.Operand.tmp 30], argTypes := #[25] }, type := 3, pos := "btree.go:107", after := #[{ on := 6, ground := Go.Ground.data }], guard := none }) (v := ?_) (T := fun w' : World => Box w' w.heap.size [.slice NA s.length nc, .int .i64 root] ∧ Box w' rb [.slice NA s.length nc, .int .i64 root, .map (some (mb)), .int .i64 r2.leaf, .int .i64 r2.pairs] ∧ IntsAt w' mb r2.met) rfl (by kernel_rfl) (by kernel_rfl) (by kernel_rfl) (by kernel_rfl) (fun _ _ _ h => lift_put (by decide) h) (fun L' w' hW hS => hS) (fun L' w' hS => hS) (Or.inl ⟨by rfl, ?_⟩) (hS0) (hS0) ?_
      rotate_left 1
      · intro w9 zA; skip; clear zA; go_simp; (try with_reducible rfl)
      try simp only [Act.put, List.setIfInBounds_toArray, List.set_cons_zero, List.set_cons_succ]
      refine stage_take (i := 8) (oi := { dst := some 32, op := Go.Op.binOp Go.BinOp.eql 3 (Go.Operand.tmp 28) (Go.Operand.tmp 31) 3, type := 4, pos := "btree.go:107", after := #[{ on := 4, ground := Go.Ground.data }, { on := 7, ground := Go.Ground.data }], guard := none }) (v := ?_) (T := fun _ => True) rfl (by kernel_rfl) (by kernel_rfl) (by kernel_rfl) (by kernel_rfl) (fun _ _ _ h => lift_put (by decide) h) (fun L' w' hW hS => trivial) (fun L' w' hS => hS) (Or.inl ⟨by rfl, ?_⟩) trivial (hS0) ?_
      rotate_left 1
      · intro w9 _; go_simp; (try with_reducible rfl)
      try simp only [Act.put, List.setIfInBounds_toArray, List.set_cons_zero, List.set_cons_succ]
      clear hS0
      refine stage_all (rs := [9]) (by kernel_rfl) (by simp) (fun i0 hi0 => ?_)
      obtain rfl : i0 = 9 := by simpa using hi0
      refine stage_step (S := fun (L' : Array Bool) (w' : World) => Box w' w.heap.size [.slice NA s.length nc, .int .i64 root] ∧ Box w' rb [.slice NA s.length nc, .int .i64 root, .map (some (mb)), .int .i64 r2.leaf, .int .i64 r2.pairs] ∧ IntsAt w' mb r2.met) (o := { dst := some 33, op := Go.Op.call { callee := Go.Callee.value (Go.Operand.func 42), args := #[Go.Operand.tmp 32, Go.Operand.const (Go.Value.int Go.IntKind.i64 9)], argTypes := #[4, 29] }, type := 0, pos := "btree.go:107", after := #[{ on := 8, ground := Go.Ground.data }, { on := 4, ground := Go.Ground.chain }], guard := none }) (by rfl) (fun K2 hK => ?_)
      go_simp
      by_cases hml : r2.met.length = s.length
      · have hml2 : ((r2.met.length : Int) == (s.length : Int)) = true := by rw [hml]; simp
        rw [hml2]
        go_wp2_with (go_at_call 42; first | ((with_reducible refine (need_false _ _).mono ?_); rintro e w' ⟨rfl, rfl⟩) | ((with_reducible refine (need_true _ _).mono ?_); rintro e w' ⟨rfl, rfl⟩))
        refine hK.out _ _ (⟨HB0.out, HR.out, HM.out⟩) ?_
        clear hK K2
        try simp only [Act.put, List.setIfInBounds_toArray, List.set_cons_zero, List.set_cons_succ]
        refine stage_done (by kernel_rfl) ?_ _
        refine lift_normal ?_
        go_wp2_with fail
        refine wp_lift ?_
        refine stage_begin (S := fun (L' : Array Bool) (w' : World) => w'.cell? ⟨w.heap.size + 1, 0, none⟩ = some (.pointer (some ⟨g, 0, none⟩)) ∧ Box w' rb [.slice NA s.length nc, .int .i64 root, .map (some (mb)), .int .i64 r2.leaf, .int .i64 r2.pairs]) (by kernel_rfl) ?_
        have hS0 : w9.drew.cell? ⟨w.heap.size + 1, 0, none⟩ = some (.pointer (some ⟨g, 0, none⟩)) ∧ Box w9.drew rb [.slice NA s.length nc, .int .i64 root, .map (some (mb)), .int .i64 r2.leaf, .int .i64 r2.pairs] := ⟨HB1.out.drew.c 0 _ rfl, HR.out.drew⟩
        replace HB1 := Lib.hid HB1.out.drew
        replace HB2 := Lib.hid HB2.out.drew
        replace HB3 := Lib.hid HB3.out.drew
        replace HB4 := Lib.hid HB4.out.drew
        replace HR := Lib.hid HR.out.drew
        replace HT : Hid (TrAt w9.drew _ g t) := Lib.hid (HT.out.below (below_drewN (Below.refl _ _) 1))
        replace HF : Hid (Below w.heap.size w w9.drew) := Lib.hid (below_drewN HF.out 1)
        clear HB0
        generalize w9.drew = wa at *
        refine stage_take (i := 0) (oi := { dst := some 34, op := Go.Op.load 67 (Go.Operand.tmp 2), type := 67, pos := "btree.go:108", after := #[], guard := none }) (v := ?_) (T := fun w' : World => w'.cell? ⟨w.heap.size + 1, 0, none⟩ = some (.pointer (some ⟨g, 0, none⟩)) ∧ Box w' rb [.slice NA s.length nc, .int .i64 root, .map (some (mb)), .int .i64 r2.leaf, .int .i64 r2.pairs]) rfl (by kernel_rfl) (by kernel_rfl) (by kernel_rfl) (by kernel_rfl) (fun _ _ _ h => lift_put (by decide) h) (fun L' w' hW hS => hS) (fun L' w' hS => hS) (Or.inl ⟨by rfl, ?_⟩) (hS0) (hS0) ?_
        rotate_left 1
        · intro w9 zA; have z0 := zA.1; clear zA; go_simp; (try with_reducible rfl)
        try simp only [Act.put, List.setIfInBounds_toArray, List.set_cons_zero, List.set_cons_succ]
        refine stage_take (i := 1) (oi := { dst := some 35, op := Go.Op.move (Go.Operand.tmp 6), type := 94, pos := "btree.go:108", after := #[], guard := none }) (v := ?_) (T := fun _ => True) rfl (by kernel_rfl) (by kernel_rfl) (by kernel_rfl) (by kernel_rfl) (fun _ _ _ h => lift_put (by decide) h) (fun L' w' hW hS => trivial) (fun L' w' hS => hS) (Or.inl ⟨by rfl, ?_⟩) trivial (hS0) ?_
        rotate_left 1
        · intro w9 _; go_simp; (try with_reducible rfl)
        try simp only [Act.put, List.setIfInBounds_toArray, List.set_cons_zero, List.set_cons_succ]
        refine stage_take (i := 2) (oi := { dst := some 36, op := Go.Op.nilCheck (Go.Operand.tmp 35), type := 0, pos := "btree.go:108", after := #[{ on := 1, ground := Go.Ground.data }], guard := none }) (v := ?_) (T := fun _ => True) rfl (by kernel_rfl) (by kernel_rfl) (by kernel_rfl) (by kernel_rfl) (fun _ _ _ h => lift_put (by decide) h) (fun L' w' hW hS => trivial) (fun L' w' hS => hS) (Or.inl ⟨by rfl, ?_⟩) trivial (hS0) ?_
        rotate_left 1
        · intro w9 _; go_simp; (try with_reducible rfl)
        try simp only [Act.put, List.setIfInBounds_toArray, List.set_cons_zero, List.set_cons_succ]
        refine stage_take (i := 3) (oi := { dst := some 37, op := Go.Op.fieldAddr 97 (Go.Operand.tmp 36) 2, type := 0, pos := "btree.go:108", after := #[{ on := 2, ground := Go.Ground.data }], guard := none }) (v := ?_) (T := fun _ => True) rfl (by kernel_rfl) (by kernel_rfl) (by kernel_rfl) (by kernel_rfl) (fun _ _ _ h => lift_put (by decide) h) (fun L' w' hW hS => trivial) (fun L' w' hS => hS) (Or.inl ⟨by rfl, ?_⟩) trivial (hS0) ?_
        rotate_left 1
        · intro w9 _; go_simp; (try with_reducible rfl)
        try simp only [Act.put, List.setIfInBounds_toArray, List.set_cons_zero, List.set_cons_succ]
        refine stage_take (i := 4) (oi := { dst := some 38, op := Go.Op.load 3 (Go.Operand.tmp 37), type := 3, pos := "btree.go:108", after := #[{ on := 3, ground := Go.Ground.data }], guard := none }) (v := ?_) (T := fun w' : World => w'.cell? ⟨w.heap.size + 1, 0, none⟩ = some (.pointer (some ⟨g, 0, none⟩)) ∧ Box w' rb [.slice NA s.length nc, .int .i64 root, .map (some (mb)), .int .i64 r2.leaf, .int .i64 r2.pairs]) rfl (by kernel_rfl) (by kernel_rfl) (by kernel_rfl) (by kernel_rfl) (fun _ _ _ h => lift_put (by decide) h) (fun L' w' hW hS => hS) (fun L' w' hS => hS) (Or.inl ⟨by rfl, ?_⟩) (hS0) (hS0) ?_
        rotate_left 1
        · intro w9 zA; have z0 := zA.2.c 3 _ rfl; clear zA; go_simp; (try with_reducible rfl)
        try simp only [Act.put, List.setIfInBounds_toArray, List.set_cons_zero, List.set_cons_succ]
        refine stage_take (i := 5) (oi := { dst := some 39, op := Go.Op.move (Go.Operand.tmp 6), type := 94, pos := "btree.go:108", after := #[], guard := none }) (v := ?_) (T := fun _ => True) rfl (by kernel_rfl) (by kernel_rfl) (by kernel_rfl) (by kernel_rfl) (fun _ _ _ h => lift_put (by decide) h) (fun L' w' hW hS => trivial) (fun L' w' hS => hS) (Or.inl ⟨by rfl, ?_⟩) trivial (hS0) ?_
        rotate_left 1
        · intro w9 _; go_simp; (try with_reducible rfl)
        try simp only [Act.put, List.setIfInBounds_toArray, List.set_cons_zero, List.set_cons_succ]
        refine stage_take (i := 6) (oi := { dst := some 40, op := Go.Op.nilCheck (Go.Operand.tmp 39), type := 0, pos := "btree.go:108", after := #[{ on := 5, ground := Go.Ground.data }], guard := none }) (v := ?_) (T := fun _ => True) rfl (by kernel_rfl) (by kernel_rfl) (by kernel_rfl) (by kernel_rfl) (fun _ _ _ h => lift_put (by decide) h) (fun L' w' hW hS => trivial) (fun L' w' hS => hS) (Or.inl ⟨by rfl, ?_⟩) trivial (hS0) ?_
        rotate_left 1
        · intro w9 _; go_simp; (try with_reducible rfl)
        try simp only [Act.put, List.setIfInBounds_toArray, List.set_cons_zero, List.set_cons_succ]
        refine stage_take (i := 7) (oi := { dst := some 41, op := Go.Op.fieldAddr 97 (Go.Operand.tmp 40) 3, type := 0, pos := "btree.go:108", after := #[{ on := 6, ground := Go.Ground.data }], guard := none }) (v := ?_) (T := fun _ => True) rfl (by kernel_rfl) (by kernel_rfl) (by kernel_rfl) (by kernel_rfl) (fun _ _ _ h => lift_put (by decide) h) (fun L' w' hW hS => trivial) (fun L' w' hS => hS) (Or.inl ⟨by rfl, ?_⟩) trivial (hS0) ?_
        rotate_left 1
        · intro w9 _; go_simp; (try with_reducible rfl)
        try simp only [Act.put, List.setIfInBounds_toArray, List.set_cons_zero, List.set_cons_succ]
        refine stage_take (i := 8) (oi := { dst := some 42, op := Go.Op.load 3 (Go.Operand.tmp 41), type := 3, pos := "btree.go:108", after := #[{ on := 7, ground := Go.Ground.data }], guard := none }) (v := ?_) (T := fun w' : World => w'.cell? ⟨w.heap.size + 1, 0, none⟩ = some (.pointer (some ⟨g, 0, none⟩)) ∧ Box w' rb [.slice NA s.length nc, .int .i64 root, .map (some (mb)), .int .i64 r2.leaf, .int .i64 r2.pairs]) rfl (by kernel_rfl) (by kernel_rfl) (by kernel_rfl) (by kernel_rfl) (fun _ _ _ h => lift_put (by decide) h) (fun L' w' hW hS => hS) (fun L' w' hS => hS) (Or.inl ⟨by rfl, ?_⟩) (hS0) (hS0) ?_
        rotate_left 1
        · intro w9 zA; have z0 := zA.2.c 4 _ rfl; clear zA; go_simp; (try with_reducible rfl)
        try simp only [Act.put, List.setIfInBounds_toArray, List.set_cons_zero, List.set_cons_succ]
        refine stage_all (rs := [9]) (by kernel_rfl) (by simp) (fun i0 hi0 => ?_)
        obtain rfl : i0 = 9 := by simpa using hi0
        refine stage_step (S := fun (L' : Array Bool) (w' : World) => w'.cell? ⟨w.heap.size + 1, 0, none⟩ = some (.pointer (some ⟨g, 0, none⟩)) ∧ Box w' rb [.slice NA s.length nc, .int .i64 root, .map (some (mb)), .int .i64 r2.leaf, .int .i64 r2.pairs]) (o := { dst := none, op := Go.Op.store 67 (Go.Operand.tmp 2) (Go.Operand.tmp 34), type := 0, pos := "btree.go:108", after := #[{ on := 0, ground := Go.Ground.data }, { on := 0, ground := Go.Ground.phase }, { on := 1, ground := Go.Ground.textOnly Go.Departure.lateStoresUnsure }, { on := 2, ground := Go.Ground.textOnly Go.Departure.lateStoresUnsure }, { on := 3, ground := Go.Ground.textOnly Go.Departure.lateStoresUnsure }, { on := 4, ground := Go.Ground.textOnly Go.Departure.lateStoresUnsure }, { on := 5, ground := Go.Ground.textOnly Go.Departure.lateStoresUnsure }, { on := 6, ground := Go.Ground.textOnly Go.Departure.lateStoresUnsure }, { on := 7, ground := Go.Ground.textOnly Go.Departure.lateStoresUnsure }, { on := 8, ground := Go.Ground.textOnly Go.Departure.lateStoresUnsure }], guard := none }) (by rfl) (fun K2 hK => ?_)
        have c9 := HB1.out.c 0 _ rfl
        have f9 := HB1.out.f 0 (by simp)
        go_simp
        clear c9 f9
        have HC1 := HB1.out.set 0 (.pointer (some ⟨g, 0, none⟩)) (by simp)
        have HC2 := HB2.out.other ⟨w.heap.size + 1, 0, none⟩ (.pointer (some ⟨g, 0, none⟩)) (by simp <;> omega)
        have HC3 := HB3.out.other ⟨w.heap.size + 1, 0, none⟩ (.pointer (some ⟨g, 0, none⟩)) (by simp <;> omega)
        have HC4 := HB4.out.other ⟨w.heap.size + 1, 0, none⟩ (.pointer (some ⟨g, 0, none⟩)) (by simp <;> omega)
        have HCR := HR.out.other ⟨w.heap.size + 1, 0, none⟩ (.pointer (some ⟨g, 0, none⟩)) (by simp <;> omega)
        have HCT := HT.out.kept (w' := (wa.setCell ⟨w.heap.size + 1, 0, none⟩ (.pointer (some ⟨g, 0, none⟩)))) (B := fun k => k = w.heap.size + 1) ((Kept.refl _ _ wa).set _ _ (.inr rfl)) (fun k hk h => by omega)
        have HCF : Below w.heap.size w (wa.setCell ⟨w.heap.size + 1, 0, none⟩ (.pointer (some ⟨g, 0, none⟩))) := HF.out.setCell (p := ⟨w.heap.size + 1, 0, none⟩) (by simp <;> omega) _
        clear HB1
        clear HB2
        clear HB3
        clear HB4
        have HB1 : Hid (Box (wa.setCell ⟨w.heap.size + 1, 0, none⟩ (.pointer (some ⟨g, 0, none⟩))) (w.heap.size + 1) [.pointer (some ⟨g, 0, none⟩)]) := Lib.hid HC1
        have HB2 : Hid (Box (wa.setCell ⟨w.heap.size + 1, 0, none⟩ (.pointer (some ⟨g, 0, none⟩))) (w.heap.size + 1 + 1) [.int .i64 0]) := Lib.hid HC2
        have HB3 : Hid (Box (wa.setCell ⟨w.heap.size + 1, 0, none⟩ (.pointer (some ⟨g, 0, none⟩))) (w.heap.size + 1 + 1 + 1) [.int .i64 0]) := Lib.hid HC3
        have HB4 : Hid (Box (wa.setCell ⟨w.heap.size + 1, 0, none⟩ (.pointer (some ⟨g, 0, none⟩))) (w.heap.size + 1 + 1 + 1 + 1) [.int .i64 0]) := Lib.hid HC4
        replace HR := Lib.hid HCR
        replace HT := Lib.hid HCT
        replace HF := Lib.hid HCF
        clear hS0 HC1 HC2 HC3 HC4 HCR HCT HCF
        generalize (wa.setCell ⟨w.heap.size + 1, 0, none⟩ (.pointer (some ⟨g, 0, none⟩))) = wb0 at *
        have hS0 : wb0.cell? ⟨w.heap.size + 1, 0, none⟩ = some (.pointer (some ⟨g, 0, none⟩)) ∧ Box wb0 rb [.slice NA s.length nc, .int .i64 root, .map (some (mb)), .int .i64 r2.leaf, .int .i64 r2.pairs] := ⟨HB1.out.c 0 _ rfl, HR.out⟩
        refine hK.out _ _ (hS0) ?_
        clear hK K2
        try simp only [Act.put, List.setIfInBounds_toArray, List.set_cons_zero, List.set_cons_succ]
        refine stage_all (rs := [10]) (by kernel_rfl) (by simp) (fun i0 hi0 => ?_)
        obtain rfl : i0 = 10 := by simpa using hi0
        refine stage_step (S := fun (L' : Array Bool) (w' : World) => w'.cell? ⟨w.heap.size + 1, 0, none⟩ = some (.pointer (some ⟨g, 0, none⟩)) ∧ Box w' rb [.slice NA s.length nc, .int .i64 root, .map (some (mb)), .int .i64 r2.leaf, .int .i64 r2.pairs]) (o := { dst := none, op := Go.Op.store 3 (Go.Operand.tmp 3) (Go.Operand.tmp 38), type := 0, pos := "btree.go:108", after := #[{ on := 4, ground := Go.Ground.data }, { on := 9, ground := Go.Ground.chain }, { on := 0, ground := Go.Ground.phase }, { on := 1, ground := Go.Ground.phase }, { on := 2, ground := Go.Ground.phase }, { on := 3, ground := Go.Ground.phase }, { on := 4, ground := Go.Ground.phase }, { on := 5, ground := Go.Ground.textOnly Go.Departure.lateStoresUnsure }, { on := 6, ground := Go.Ground.textOnly Go.Departure.lateStoresUnsure }, { on := 7, ground := Go.Ground.textOnly Go.Departure.lateStoresUnsure }, { on := 8, ground := Go.Ground.textOnly Go.Departure.lateStoresUnsure }, { on := 9, ground := Go.Ground.phase }], guard := none }) (by rfl) (fun K2 hK => ?_)
        have c9 := HB2.out.c 0 _ rfl
        have f9 := HB2.out.f 0 (by simp)
        go_simp
        clear c9 f9
        have HC1 := HB1.out.other ⟨w.heap.size + 1 + 1, 0, none⟩ (.int .i64 r2.leaf) (by simp <;> omega)
        have HC2 := HB2.out.set 0 (.int .i64 r2.leaf) (by simp)
        have HC3 := HB3.out.other ⟨w.heap.size + 1 + 1, 0, none⟩ (.int .i64 r2.leaf) (by simp <;> omega)
        have HC4 := HB4.out.other ⟨w.heap.size + 1 + 1, 0, none⟩ (.int .i64 r2.leaf) (by simp <;> omega)
        have HCR := HR.out.other ⟨w.heap.size + 1 + 1, 0, none⟩ (.int .i64 r2.leaf) (by simp <;> omega)
        have HCT := HT.out.kept (w' := (wb0.setCell ⟨w.heap.size + 1 + 1, 0, none⟩ (.int .i64 r2.leaf))) (B := fun k => k = w.heap.size + 1 + 1) ((Kept.refl _ _ wb0).set _ _ (.inr rfl)) (fun k hk h => by omega)
        have HCF : Below w.heap.size w (wb0.setCell ⟨w.heap.size + 1 + 1, 0, none⟩ (.int .i64 r2.leaf)) := HF.out.setCell (p := ⟨w.heap.size + 1 + 1, 0, none⟩) (by simp <;> omega) _
        clear HB1
        clear HB2
        clear HB3
        clear HB4
        have HB1 : Hid (Box (wb0.setCell ⟨w.heap.size + 1 + 1, 0, none⟩ (.int .i64 r2.leaf)) (w.heap.size + 1) [.pointer (some ⟨g, 0, none⟩)]) := Lib.hid HC1
        have HB2 : Hid (Box (wb0.setCell ⟨w.heap.size + 1 + 1, 0, none⟩ (.int .i64 r2.leaf)) (w.heap.size + 1 + 1) [.int .i64 r2.leaf]) := Lib.hid HC2
        have HB3 : Hid (Box (wb0.setCell ⟨w.heap.size + 1 + 1, 0, none⟩ (.int .i64 r2.leaf)) (w.heap.size + 1 + 1 + 1) [.int .i64 0]) := Lib.hid HC3
        have HB4 : Hid (Box (wb0.setCell ⟨w.heap.size + 1 + 1, 0, none⟩ (.int .i64 r2.leaf)) (w.heap.size + 1 + 1 + 1 + 1) [.int .i64 0]) := Lib.hid HC4
        replace HR := Lib.hid HCR
        replace HT := Lib.hid HCT
        replace HF := Lib.hid HCF
        clear hS0 HC1 HC2 HC3 HC4 HCR HCT HCF
        generalize (wb0.setCell ⟨w.heap.size + 1 + 1, 0, none⟩ (.int .i64 r2.leaf)) = wb1 at *
        have hS0 : wb1.cell? ⟨w.heap.size + 1, 0, none⟩ = some (.pointer (some ⟨g, 0, none⟩)) ∧ Box wb1 rb [.slice NA s.length nc, .int .i64 root, .map (some (mb)), .int .i64 r2.leaf, .int .i64 r2.pairs] := ⟨HB1.out.c 0 _ rfl, HR.out⟩
        refine hK.out _ _ (hS0) ?_
        clear hK K2
        try simp only [Act.put, List.setIfInBounds_toArray, List.set_cons_zero, List.set_cons_succ]
        refine stage_all (rs := [11]) (by kernel_rfl) (by simp) (fun i0 hi0 => ?_)
        obtain rfl : i0 = 11 := by simpa using hi0
        refine stage_step (S := fun (L' : Array Bool) (w' : World) => w'.cell? ⟨w.heap.size + 1, 0, none⟩ = some (.pointer (some ⟨g, 0, none⟩)) ∧ Box w' rb [.slice NA s.length nc, .int .i64 root, .map (some (mb)), .int .i64 r2.leaf, .int .i64 r2.pairs]) (o := { dst := none, op := Go.Op.store 3 (Go.Operand.tmp 4) (Go.Operand.tmp 42), type := 0, pos := "btree.go:108", after := #[{ on := 8, ground := Go.Ground.data }, { on := 10, ground := Go.Ground.chain }, { on := 0, ground := Go.Ground.phase }, { on := 1, ground := Go.Ground.phase }, { on := 2, ground := Go.Ground.phase }, { on := 3, ground := Go.Ground.phase }, { on := 4, ground := Go.Ground.phase }, { on := 5, ground := Go.Ground.phase }, { on := 6, ground := Go.Ground.phase }, { on := 7, ground := Go.Ground.phase }, { on := 8, ground := Go.Ground.phase }, { on := 9, ground := Go.Ground.phase }, { on := 10, ground := Go.Ground.phase }], guard := none }) (by rfl) (fun K2 hK => ?_)
        have c9 := HB3.out.c 0 _ rfl
        have f9 := HB3.out.f 0 (by simp)
        go_simp
        clear c9 f9
        have HC1 := HB1.out.other ⟨w.heap.size + 1 + 1 + 1, 0, none⟩ (.int .i64 r2.pairs) (by simp <;> omega)
        have HC2 := HB2.out.other ⟨w.heap.size + 1 + 1 + 1, 0, none⟩ (.int .i64 r2.pairs) (by simp <;> omega)
        have HC3 := HB3.out.set 0 (.int .i64 r2.pairs) (by simp)
        have HC4 := HB4.out.other ⟨w.heap.size + 1 + 1 + 1, 0, none⟩ (.int .i64 r2.pairs) (by simp <;> omega)
        have HCR := HR.out.other ⟨w.heap.size + 1 + 1 + 1, 0, none⟩ (.int .i64 r2.pairs) (by simp <;> omega)
        have HCT := HT.out.kept (w' := (wb1.setCell ⟨w.heap.size + 1 + 1 + 1, 0, none⟩ (.int .i64 r2.pairs))) (B := fun k => k = w.heap.size + 1 + 1 + 1) ((Kept.refl _ _ wb1).set _ _ (.inr rfl)) (fun k hk h => by omega)
        have HCF : Below w.heap.size w (wb1.setCell ⟨w.heap.size + 1 + 1 + 1, 0, none⟩ (.int .i64 r2.pairs)) := HF.out.setCell (p := ⟨w.heap.size + 1 + 1 + 1, 0, none⟩) (by simp <;> omega) _
        clear HB1
        clear HB2
        clear HB3
        clear HB4
        have HB1 : Hid (Box (wb1.setCell ⟨w.heap.size + 1 + 1 + 1, 0, none⟩ (.int .i64 r2.pairs)) (w.heap.size + 1) [.pointer (some ⟨g, 0, none⟩)]) := Lib.hid HC1
        have HB2 : Hid (Box (wb1.setCell ⟨w.heap.size + 1 + 1 + 1, 0, none⟩ (.int .i64 r2.pairs)) (w.heap.size + 1 + 1) [.int .i64 r2.leaf]) := Lib.hid HC2
        have HB3 : Hid (Box (wb1.setCell ⟨w.heap.size + 1 + 1 + 1, 0, none⟩ (.int .i64 r2.pairs)) (w.heap.size + 1 + 1 + 1) [.int .i64 r2.pairs]) := Lib.hid HC3
        have HB4 : Hid (Box (wb1.setCell ⟨w.heap.size + 1 + 1 + 1, 0, none⟩ (.int .i64 r2.pairs)) (w.heap.size + 1 + 1 + 1 + 1) [.int .i64 0]) := Lib.hid HC4
        replace HR := Lib.hid HCR
        replace HT := Lib.hid HCT
        replace HF := Lib.hid HCF
        clear hS0 HC1 HC2 HC3 HC4 HCR HCT HCF
        generalize (wb1.setCell ⟨w.heap.size + 1 + 1 + 1, 0, none⟩ (.int .i64 r2.pairs)) = wb2 at *
        have hS0 : wb2.cell? ⟨w.heap.size + 1, 0, none⟩ = some (.pointer (some ⟨g, 0, none⟩)) ∧ Box wb2 rb [.slice NA s.length nc, .int .i64 root, .map (some (mb)), .int .i64 r2.leaf, .int .i64 r2.pairs] := ⟨HB1.out.c 0 _ rfl, HR.out⟩
        refine hK.out _ _ (hS0) ?_
        clear hK K2
        try simp only [Act.put, List.setIfInBounds_toArray, List.set_cons_zero, List.set_cons_succ]
        refine stage_all (rs := [12]) (by kernel_rfl) (by simp) (fun i0 hi0 => ?_)
        obtain rfl : i0 = 12 := by simpa using hi0
        refine stage_step (S := fun (L' : Array Bool) (w' : World) => w'.cell? ⟨w.heap.size + 1, 0, none⟩ = some (.pointer (some ⟨g, 0, none⟩)) ∧ Box w' rb [.slice NA s.length nc, .int .i64 root, .map (some (mb)), .int .i64 r2.leaf, .int .i64 r2.pairs]) (o := { dst := none, op := Go.Op.store 29 (Go.Operand.tmp 5) (Go.Operand.const (Go.Value.int Go.IntKind.i64 0)), type := 0, pos := "btree.go:108", after := #[{ on := 11, ground := Go.Ground.chain }, { on := 0, ground := Go.Ground.phase }, { on := 1, ground := Go.Ground.phase }, { on := 2, ground := Go.Ground.phase }, { on := 3, ground := Go.Ground.phase }, { on := 4, ground := Go.Ground.phase }, { on := 5, ground := Go.Ground.phase }, { on := 6, ground := Go.Ground.phase }, { on := 7, ground := Go.Ground.phase }, { on := 8, ground := Go.Ground.phase }, { on := 9, ground := Go.Ground.phase }, { on := 10, ground := Go.Ground.phase }, { on := 11, ground := Go.Ground.phase }], guard := none }) (by rfl) (fun K2 hK => ?_)
        have c9 := HB4.out.c 0 _ rfl
        have f9 := HB4.out.f 0 (by simp)
        go_simp
        clear c9 f9
        have HC1 := HB1.out.other ⟨w.heap.size + 1 + 1 + 1 + 1, 0, none⟩ (.int .i64 0) (by simp <;> omega)
        have HC2 := HB2.out.other ⟨w.heap.size + 1 + 1 + 1 + 1, 0, none⟩ (.int .i64 0) (by simp <;> omega)
        have HC3 := HB3.out.other ⟨w.heap.size + 1 + 1 + 1 + 1, 0, none⟩ (.int .i64 0) (by simp <;> omega)
        have HC4 := HB4.out.set 0 (.int .i64 0) (by simp)
        have HCR := HR.out.other ⟨w.heap.size + 1 + 1 + 1 + 1, 0, none⟩ (.int .i64 0) (by simp <;> omega)
        have HCT := HT.out.kept (w' := (wb2.setCell ⟨w.heap.size + 1 + 1 + 1 + 1, 0, none⟩ (.int .i64 0))) (B := fun k => k = w.heap.size + 1 + 1 + 1 + 1) ((Kept.refl _ _ wb2).set _ _ (.inr rfl)) (fun k hk h => by omega)
        have HCF : Below w.heap.size w (wb2.setCell ⟨w.heap.size + 1 + 1 + 1 + 1, 0, none⟩ (.int .i64 0)) := HF.out.setCell (p := ⟨w.heap.size + 1 + 1 + 1 + 1, 0, none⟩) (by simp <;> omega) _
        clear HB1
        clear HB2
        clear HB3
        clear HB4
        have HB1 : Hid (Box (wb2.setCell ⟨w.heap.size + 1 + 1 + 1 + 1, 0, none⟩ (.int .i64 0)) (w.heap.size + 1) [.pointer (some ⟨g, 0, none⟩)]) := Lib.hid HC1
        have HB2 : Hid (Box (wb2.setCell ⟨w.heap.size + 1 + 1 + 1 + 1, 0, none⟩ (.int .i64 0)) (w.heap.size + 1 + 1) [.int .i64 r2.leaf]) := Lib.hid HC2
        have HB3 : Hid (Box (wb2.setCell ⟨w.heap.size + 1 + 1 + 1 + 1, 0, none⟩ (.int .i64 0)) (w.heap.size + 1 + 1 + 1) [.int .i64 r2.pairs]) := Lib.hid HC3
        have HB4 : Hid (Box (wb2.setCell ⟨w.heap.size + 1 + 1 + 1 + 1, 0, none⟩ (.int .i64 0)) (w.heap.size + 1 + 1 + 1 + 1) [.int .i64 0]) := Lib.hid HC4
        replace HR := Lib.hid HCR
        replace HT := Lib.hid HCT
        replace HF := Lib.hid HCF
        clear hS0 HC1 HC2 HC3 HC4 HCR HCT HCF
        generalize (wb2.setCell ⟨w.heap.size + 1 + 1 + 1 + 1, 0, none⟩ (.int .i64 0)) = wb3 at *
        have hS0 : wb3.cell? ⟨w.heap.size + 1, 0, none⟩ = some (.pointer (some ⟨g, 0, none⟩)) ∧ Box wb3 rb [.slice NA s.length nc, .int .i64 root, .map (some (mb)), .int .i64 r2.leaf, .int .i64 r2.pairs] := ⟨HB1.out.c 0 _ rfl, HR.out⟩
        refine hK.out _ _ (hS0) ?_
        clear hK K2
        try simp only [Act.put, List.setIfInBounds_toArray, List.set_cons_zero, List.set_cons_succ]
        refine stage_done (by kernel_rfl) ?_ _
        refine lift_normal ?_
        go_wp2_with fail
        refine leaves_cons (f := 41) (args := #[.pointer (some ⟨w.heap.size + 1, 0, none⟩), .pointer (some ⟨w.heap.size + 1 + 1, 0, none⟩), .pointer (some ⟨w.heap.size + 1 + 1 + 1, 0, none⟩), .pointer (some ⟨w.heap.size + 1 + 1 + 1 + 1, 0, none⟩)]) (by simp) (by simp [go_sem]) ?_
        refine (catch_idle _ _ _ _ _).mono ?_
        rintro e u' w'' ⟨rfl, rfl, rfl⟩
        have z1 := HB1.out.c 0 _ rfl
        have z2 := HB2.out.c 0 _ rfl
        have z3 := HB3.out.c 0 _ rfl
        have z4 := HB4.out.c 0 _ rfl
        refine ⟨_, by simp [results, Try.results26, go_sem, z1, z2, z3, z4]; rfl, ?_⟩
        have hRS := HRS.out
        rw [if_pos hml] at hRS
        subst hRS
        exact ⟨g, rfl, HT.out.mono (fun b _ h => by omega), HF.out⟩
      · have hml2 : ((r2.met.length : Int) == (s.length : Int)) = false := by rw [beq_eq_false_iff_ne]; omega
        rw [hml2]
        go_wp2_with (go_at_call 42; first | ((with_reducible refine (need_false _ _).mono ?_); rintro e w' ⟨rfl, rfl⟩) | ((with_reducible refine (need_true _ _).mono ?_); rintro e w' ⟨rfl, rfl⟩))
        intro a' hd h6
        replace hd : a'.defers = [{ target := Target.fn (Fn.func 41) #[.pointer (some ⟨w.heap.size + 1, 0, none⟩), .pointer (some ⟨w.heap.size + 1 + 1, 0, none⟩), .pointer (some ⟨w.heap.size + 1 + 1 + 1, 0, none⟩), .pointer (some ⟨w.heap.size + 1 + 1 + 1 + 1, 0, none⟩)], args := #[] }] := hd
        have t2 : a'.tmps[2]? = some (.pointer (some ⟨w.heap.size + 1, 0, none⟩)) := h6 2 (by decide)
        have t3 : a'.tmps[3]? = some (.pointer (some ⟨w.heap.size + 1 + 1, 0, none⟩)) := h6 3 (by decide)
        have t4 : a'.tmps[4]? = some (.pointer (some ⟨w.heap.size + 1 + 1 + 1, 0, none⟩)) := h6 4 (by decide)
        have t5 : a'.tmps[5]? = some (.pointer (some ⟨w.heap.size + 1 + 1 + 1 + 1, 0, none⟩)) := h6 5 (by decide)
        clear h6
        show Leaves _ _ a'.tmps _ a'.defers _ _
        rw [hd]
        refine leaves_cons (f := 41) (args := #[.pointer (some ⟨w.heap.size + 1, 0, none⟩), .pointer (some ⟨w.heap.size + 1 + 1, 0, none⟩), .pointer (some ⟨w.heap.size + 1 + 1 + 1, 0, none⟩), .pointer (some ⟨w.heap.size + 1 + 1 + 1 + 1, 0, none⟩)]) (by simp) (by simp [go_sem]) ?_
        refine (catch4 HB1 HB2 HB3 HB4 9 rfl rfl rfl).mono ?_
        rintro e u' w'' ⟨rfl, rfl, hw''⟩
        obtain ⟨⟨z1, z2, z3, z4⟩, hF9, _, _⟩ := four4 HB1.out HB2.out HB3.out HB4.out HF.out _ hw''
        clear hw''
        refine ⟨_, by simp [results, Try.results26, go_sem, t2, t3, t4, t5, z1, z2, z3, z4]; rfl, ?_⟩
        have hRS := HRS.out
        rw [if_neg hml] at hRS
        subst hRS
        exact ⟨rfl, hF9⟩
end Go.Proofs.Ytkecbghnapjecaa
