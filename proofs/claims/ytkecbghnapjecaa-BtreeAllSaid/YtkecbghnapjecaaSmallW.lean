/- Package btree: Depth, Check, New. -/
import Derived.Test.YtkecbghnapjecaaReadW
import Derived.Test.YtkecbghnapjecaaBinS
import Derived.Test.YtkecbghnapjecaaRowP
namespace Go.Proofs.Ytkecbghnapjecaa
open Go.RowKit
set_option linter.unusedVariables false
set_option linter.unusedSimpArgs false
abbrev RdR := Option (Option Tr × Int × Int)
def rdD (R : RdR) : Int := match R with | none => 0 | some x => x.2.1
def rdP (R : RdR) : Int := match R with | none => 0 | some x => x.2.2
def rdE (R : RdR) : Int := match R with | none => 9 | some _ => 0
def rdT (R : RdR) : Option Tr := match R with | none => none | some x => x.1
/-- A pointer to a tree, or none. -/
def PtrT (w : World) (P : Nat → Prop) (p : Value) : Option Tr → Prop
  | none => p = .pointer none
  | some t => ∃ g, p = .pointer (some ⟨g, 0, none⟩) ∧ TrAt w P g t
theorem read_gen (NA : Option Addr) (nc : Nat) (root : Int) (s : List Nd) (w : World) (hN : NodesOk w NA nc s) (hroot : InR root) :
    Calls Try.prog 26 #[.agg #[.slice NA s.length nc, .int .i64 root]] w fun e w' => ∃ p, e = .returned (.tuple #[p, .int .i64 (rdD (readS s root)), .int .i64 (rdP (readS s root)), .int .i64 (rdE (readS s root))]) ∧ PtrT w' (fun b => w.heap.size ≤ b) p (rdT (readS s root)) ∧ Below w.heap.size w w' := by
  refine (read_any NA nc root s w hN hroot).mono ?_
  intro e w' h
  cases hR : readS s root with
  | none =>
    rw [hR] at h
    exact ⟨_, h.1, rfl, h.2⟩
  | some x =>
    obtain ⟨o, d, p⟩ := x
    rw [hR] at h
    cases o with
    | none => exact ⟨_, h.1, rfl, h.2⟩
    | some t =>
      obtain ⟨g, h1, h2, h3⟩ := h
      exact ⟨_, h1, ⟨g, rfl, h2⟩, h3⟩
theorem NodesOk.below {w w' : World} {NA : Option Addr} {nc : Nat} {s : List Nd} (h : NodesOk w NA nc s) (hb : Below w.heap.size w w') : NodesOk w' NA nc s := ⟨h.hs.below hb, h.hk, h.hn⟩
set_option maxRecDepth 100000 in
theorem depth_any (NA : Option Addr) (nc : Nat) (root : Int) (s : List Nd) (w : World) (hN : NodesOk w NA nc s) (hroot : InR root) :
    Calls Try.prog 18 #[.agg #[.slice NA s.length nc, .int .i64 root]] w fun e w' => e = .returned (.tuple #[.int .i64 (rdD (readS s root)), .int .i64 (rdE (readS s root))]) ∧ Below w.heap.size w w' := by
  have hr := read_gen NA nc root s _ (hN.below ((Below.refl _ w).alloc (Nat.le_refl _) (.cells #[.slice NA s.length nc, .int .i64 root] 27))) hroot
  have HR := Lib.hid hr
  clear hr hN
  generalize rdD (readS s root) = d at *
  generalize rdE (readS s root) = er at *
  go_enter Try.func18, Try.ntmps18
  go_wp2_with fail
  refine HR.out.mono ?_
  rintro e w2 ⟨p, rfl, _, hb⟩
  clear HR
  go_wp2
  go_ret2
  exact ⟨rfl, below_step' ((Below.refl _ w).alloc (Nat.le_refl _) _) hb⟩
set_option maxRecDepth 100000 in
theorem check_any (NA : Option Addr) (nc : Nat) (root : Int) (s : List Nd) (w : World) (hN : NodesOk w NA nc s) (hroot : InR root) :
    Calls Try.prog 23 #[.agg #[.slice NA s.length nc, .int .i64 root]] w fun e w' => e = .returned (.int .i64 (rdE (readS s root))) ∧ Below w.heap.size w w' := by
  have hr := read_gen NA nc root s _ (hN.below ((Below.refl _ w).alloc (Nat.le_refl _) (.cells #[.slice NA s.length nc, .int .i64 root] 27))) hroot
  have HR := Lib.hid hr
  clear hr hN
  generalize rdE (readS s root) = er at *
  go_enter Try.func23, Try.ntmps23
  go_wp2_with fail
  refine HR.out.mono ?_
  rintro e w2 ⟨p, rfl, _, hb⟩
  clear HR
  go_wp2
  go_ret
  exact ⟨rfl, below_step' ((Below.refl _ w).alloc (Nat.le_refl _) _) hb⟩
set_option maxRecDepth 100000 in
theorem new_any (w : World) : Calls Try.prog 24 #[] w fun e w' => e = .returned (.agg #[.slice none 0 0, .int .i64 (-1)]) ∧ Below w.heap.size w w' := by
  go_enter Try.func24, Try.ntmps24
  go_wp2
  have hX := Box.new w #[.slice none 0 0, .int .i64 (-1)] 27
  have hF : Below w.heap.size w (w.alloc (.cells #[.slice none 0 0, .int .i64 (-1)] 27)) := (by (repeat (first | (with_reducible exact Below.refl _ _) | apply below_alloc _ (Nat.le_refl _) | refine below_set ?_ (by first | exact Nat.le_refl _ | omega) | apply below_drewN | refine below_step ?_ HB)))
  generalize w.alloc (.cells #[.slice none 0 0, .int .i64 (-1)] 27) = wz at *
  have z0 := hX.c 0 _ rfl
  have z1 := hX.c 1 _ rfl
  refine bodyPost_ret (by simp [results, Try.results24, go_sem, z0, z1]; rfl) rfl ?_
  exact ⟨rfl, hF⟩
end Go.Proofs.Ytkecbghnapjecaa
