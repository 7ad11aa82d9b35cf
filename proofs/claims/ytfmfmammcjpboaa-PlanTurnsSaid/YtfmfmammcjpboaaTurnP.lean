/- plan.Choose of a table that may not be; of one condition with two sides. -/
import Derived.Test.YtfmfmammcjpboaaChooseG
import Derived.Test.YtfmfmammcjpboaaAsksG
import Derived.Test.YtfmfmammcjpboaaAliveW
import Derived.Test.YtfmfmammcjpboaaOfG
namespace Go.Proofs.Ytfmfmammcjpboaa
open Go.RowKit
set_option linter.unusedVariables false
set_option linter.unusedSimpArgs false
set_option maxHeartbeats 4000000 in
set_option maxRecDepth 100000 in
theorem choose_not (nm : ByteArray) (A : Option Addr) (cs : List Col) (ca : Nat) (k : Int) (B : Option Addr) (xs : List Ixd) (cb : Nat) (C : Option Addr) (n cw : Nat) (w : World) (HR : RowE encC 3 w A cs) (HX : RowE encX 2 w B xs) (hm : MaxL w) (hk : -9223372036854775808 ≤ k ∧ k ≤ 9223372036854775807) (hcs : ∀ c ∈ cs, c.name.size ≤ maxLen) (hxs : ∀ x ∈ xs, x.name.size ≤ maxLen ∧ -9223372036854775808 ≤ x.col ∧ x.col ≤ 9223372036854775807) (hmay : mayT nm cs k xs = false) :
    Calls Try.prog 8 #[.agg #[.string nm, .slice A cs.length ca, .int .i64 k, .slice B xs.length cb], .slice C n cw] w fun r w' => r = .returned (.tuple #[aggP zeroP, .int .i64 9]) ∧ Below w.heap.size w w' := by
  have HBT := Lib.hid ((Box.new w #[.string nm, .slice A cs.length ca, .int .i64 k, .slice B xs.length cb] 38).alloc (.cells #[.int .i64 0, .bool false, .int .i64 0, .int .i64 0, .string ⟨#[]⟩, .bool false, .bool false, .int .i64 0, .int .i64 0, .string ⟨#[]⟩, .bool false, .bool false] 32))
  have HBR := Lib.hid (Box.new (w.alloc (.cells #[.string nm, .slice A cs.length ca, .int .i64 k, .slice B xs.length cb] 38)) #[.int .i64 0, .bool false, .int .i64 0, .int .i64 0, .string ⟨#[]⟩, .bool false, .bool false, .int .i64 0, .int .i64 0, .string ⟨#[]⟩, .bool false, .bool false] 32)
  have HF : Hid (Below w.heap.size w ((w.alloc (.cells #[.string nm, .slice A cs.length ca, .int .i64 k, .slice B xs.length cb] 38)).alloc (.cells #[.int .i64 0, .bool false, .int .i64 0, .int .i64 0, .string ⟨#[]⟩, .bool false, .bool false, .int .i64 0, .int .i64 0, .string ⟨#[]⟩, .bool false, .bool false] 32))) := Lib.hid (by (repeat (first | (with_reducible exact Below.refl _ _) | apply below_alloc _ (Nat.le_refl _) | refine below_set ?_ (by first | exact Nat.le_refl _ | omega) | apply below_drewN | refine below_step ?_ HB)))
  simp only [World.size_alloc] at HBR
  have hmy := fun W (hW : Below w.heap.size w W) => may_any nm A B cs xs ca cb k W (HR.below hW) (HX.below hW) (hm.below hW) hk hcs hxs
  rw [hmay] at hmy
  have HMY := Lib.hid hmy
  clear hmy hmay HR HX hm hcs hxs
  go_enter Try.func8, Try.ntmps8
  go_wp2_with fail
  generalize ((w.alloc (.cells #[.string nm, .slice A cs.length ca, .int .i64 k, .slice B xs.length cb] 38)).alloc (.cells #[.int .i64 0, .bool false, .int .i64 0, .int .i64 0, .string ⟨#[]⟩, .bool false, .bool false, .int .i64 0, .int .i64 0, .string ⟨#[]⟩, .bool false, .bool false] 32)) = w2 at *
  refine (HMY.out w2 HF.out).mono ?_; rintro r w3 ⟨rfl, h⟩
  replace HBR := Lib.hid (HBR.out.below h HBR.out.lt); replace HF := Lib.hid (below_step' HF.out h)
  clear h HMY HBT
  have cHBR0 := HBR.out.c 0 _ rfl; have fHBR0 := HBR.out.f 0 (by simp); have cHBR1 := HBR.out.c 1 _ rfl; have fHBR1 := HBR.out.f 1 (by simp); have cHBR2 := HBR.out.c 2 _ rfl; have fHBR2 := HBR.out.f 2 (by simp); have cHBR3 := HBR.out.c 3 _ rfl; have fHBR3 := HBR.out.f 3 (by simp); have cHBR4 := HBR.out.c 4 _ rfl; have fHBR4 := HBR.out.f 4 (by simp); have cHBR5 := HBR.out.c 5 _ rfl; have fHBR5 := HBR.out.f 5 (by simp); have cHBR6 := HBR.out.c 6 _ rfl; have fHBR6 := HBR.out.f 6 (by simp); have cHBR7 := HBR.out.c 7 _ rfl; have fHBR7 := HBR.out.f 7 (by simp); have cHBR8 := HBR.out.c 8 _ rfl; have fHBR8 := HBR.out.f 8 (by simp); have cHBR9 := HBR.out.c 9 _ rfl; have fHBR9 := HBR.out.f 9 (by simp); have cHBR10 := HBR.out.c 10 _ rfl; have fHBR10 := HBR.out.f 10 (by simp); have cHBR11 := HBR.out.c 11 _ rfl; have fHBR11 := HBR.out.f 11 (by simp); have lHBR := HBR.out.lt
  go_wp2
  clear cHBR0 fHBR0 cHBR1 fHBR1 cHBR2 fHBR2 cHBR3 fHBR3 cHBR4 fHBR4 cHBR5 fHBR5 cHBR6 fHBR6 cHBR7 fHBR7 cHBR8 fHBR8 cHBR9 fHBR9 cHBR10 fHBR10 cHBR11 fHBR11 lHBR
  have HP := Lib.hid (puts12 HBR.out (.int .i64 0) (.bool false) (.int .i64 0) (.int .i64 0) (.string ⟨#[]⟩) (.bool false) (.bool false) (.int .i64 0) (.int .i64 0) (.string ⟨#[]⟩) (.bool false) (.bool false))
  replace HF := Lib.hid (puts12_below HF.out (show w.heap.size ≤ w.heap.size + 1 by omega) (.int .i64 0) (.bool false) (.int .i64 0) (.int .i64 0) (.string ⟨#[]⟩) (.bool false) (.bool false) (.int .i64 0) (.int .i64 0) (.string ⟨#[]⟩) (.bool false) (.bool false))
  clear HBR
  generalize ((((((((((((w3.setCell ⟨w.heap.size + 1, 0, none⟩ (.int .i64 0)).setCell ⟨w.heap.size + 1, 1, none⟩ (.bool false)).setCell ⟨w.heap.size + 1, 2, none⟩ (.int .i64 0)).setCell ⟨w.heap.size + 1, 3, none⟩ (.int .i64 0)).setCell ⟨w.heap.size + 1, 4, none⟩ (.string ⟨#[]⟩)).setCell ⟨w.heap.size + 1, 5, none⟩ (.bool false)).setCell ⟨w.heap.size + 1, 6, none⟩ (.bool false)).setCell ⟨w.heap.size + 1, 7, none⟩ (.int .i64 0)).setCell ⟨w.heap.size + 1, 8, none⟩ (.int .i64 0)).setCell ⟨w.heap.size + 1, 9, none⟩ (.string ⟨#[]⟩)).setCell ⟨w.heap.size + 1, 10, none⟩ (.bool false)).setCell ⟨w.heap.size + 1, 11, none⟩ (.bool false)) = w9 at *
  have cHP0 := HP.out.c 0 _ rfl; have fHP0 := HP.out.f 0 (by simp); have cHP1 := HP.out.c 1 _ rfl; have fHP1 := HP.out.f 1 (by simp); have cHP2 := HP.out.c 2 _ rfl; have fHP2 := HP.out.f 2 (by simp); have cHP3 := HP.out.c 3 _ rfl; have fHP3 := HP.out.f 3 (by simp); have cHP4 := HP.out.c 4 _ rfl; have fHP4 := HP.out.f 4 (by simp); have cHP5 := HP.out.c 5 _ rfl; have fHP5 := HP.out.f 5 (by simp); have cHP6 := HP.out.c 6 _ rfl; have fHP6 := HP.out.f 6 (by simp); have cHP7 := HP.out.c 7 _ rfl; have fHP7 := HP.out.f 7 (by simp); have cHP8 := HP.out.c 8 _ rfl; have fHP8 := HP.out.f 8 (by simp); have cHP9 := HP.out.c 9 _ rfl; have fHP9 := HP.out.f 9 (by simp); have cHP10 := HP.out.c 10 _ rfl; have fHP10 := HP.out.f 10 (by simp); have cHP11 := HP.out.c 11 _ rfl; have fHP11 := HP.out.f 11 (by simp); have lHP := HP.out.lt
  refine bodyPost_ret (by simp [results, Try.results8, go_sem, cHP0, cHP1, cHP2, cHP3, cHP4, cHP5, cHP6, cHP7, cHP8, cHP9, cHP10, cHP11]; rfl) rfl ?_
  exact ⟨rfl, HF.out⟩
theorem ex0 (n : Nat) (op : Int) (v : V) (W : World) : ExAt n W ⟨op, v, ⟨#[]⟩, ⟨#[]⟩, none, 0, 0⟩ (.mk op v ⟨#[]⟩ ⟨#[]⟩ []) := by
  cases n with
  | zero => trivial
  | succ n => exact ⟨rfl, rfl, rfl, rfl, rfl, by simp, [], rfl, RowE.nil, fun i g a h => by simp at h⟩
/-- A side of a condition. -/
def sideE (op : Int) (v : V) : Eh := ⟨op, v, ⟨#[]⟩, ⟨#[]⟩, none, 0, 0⟩
def condE (op : Int) (g : Nat) : Eh := ⟨op, ⟨0, 0, ⟨#[]⟩⟩, ⟨#[]⟩, ⟨#[]⟩, some ⟨g, 0, none⟩, 2, 2⟩
def askC (op : Int) (x y : Eh) (a kd : Int) : Pl × Bool := if asking op 2 = true then asksP op x y a kd else (zeroP, false)
def chosen (nm : ByteArray) (cs : List Col) (k : Int) (xs : List Ixd) (ask : Int → Int → Pl × Bool) : Pl × Int :=
  if mayT nm cs k xs = true then (pickP (plansL (fun a kd _ => ask a kd) cs k xs [condE 0 0] xs.length), 0) else (zeroP, 9)
theorem plansL_const (ask : Int → Int → Pl × Bool) (cs : List Col) (k : Int) (xs : List Ixd) (a b : Eh) (n : Nat) : plansL (fun p kd _ => ask p kd) cs k xs [a] n = plansL (fun p kd _ => ask p kd) cs k xs [b] n := by
  unfold plansL
  apply List.map_congr_left
  intro i _
  unfold planAt
  split
  · rfl
  · split <;> rfl
theorem choose_cond (nm : ByteArray) (A : Option Addr) (cs : List Col) (ca : Nat) (k : Int) (B : Option Addr) (xs : List Ixd) (cb : Nat) (op xo yo : Int) (xv yv : V) (g h : Nat) (w : World) (HR : RowE encC 3 w A cs) (HX : RowE encX 2 w B xs) (hm : MaxL w) (hk : -9223372036854775808 ≤ k ∧ k ≤ 9223372036854775807) (hcs : ∀ c ∈ cs, c.name.size ≤ maxLen) (hxs : ∀ x ∈ xs, x.name.size ≤ maxLen ∧ -9223372036854775808 ≤ x.col ∧ x.col ≤ 9223372036854775807)
    (hop : op = 8 ∨ op = 9 ∨ op = 10 ∨ op = 11 ∨ op = 12 ∨ op = 13) (hxo : xo = 0 ∨ xo = 1) (hyo : yo = 0 ∨ yo = 1) (Hh : Box w h (cellsE (condE op g))) (Hg : Box w g (cellsE (sideE xo xv) ++ cellsE (sideE yo yv))) :
    Calls Try.prog 8 #[.agg #[.string nm, .slice A cs.length ca, .int .i64 k, .slice B xs.length cb], .slice (some ⟨h, 0, none⟩) 1 1] w fun r w' => r = .returned (.tuple #[aggP (chosen nm cs k xs (askC op (sideE xo xv) (sideE yo yv))).1, .int .i64 (chosen nm cs k xs (askC op (sideE xo xv) (sideE yo yv))).2]) ∧ Below w.heap.size w w' := by
  by_cases hmay : mayT nm cs k xs = true
  · have hlg := Hg.lt
    have hcg := Hg.c
    have q := choose_gen nm A cs ca k B xs cb h 0 1 (.leaf (condE op g)) (.mk op ⟨0, 0, ⟨#[]⟩⟩ ⟨#[]⟩ ⟨#[]⟩ [.mk xo xv ⟨#[]⟩ ⟨#[]⟩ [], .mk yo yv ⟨#[]⟩ ⟨#[]⟩ []]) (fun a kd _ => askC op (sideE xo xv) (sideE yo yv) a kd) w HR HX hm hk hcs hxs hmay Hh.lt (fun j v hv => by rw [Nat.zero_add]; exact Hh.c j v hv)
      (ex2 (n := 11) Hg (ex0 11 xo xv w) (ex0 11 yo yv w))
      (by rcases hop with rfl | rfl | rfl | rfl | rfl | rfl <;> rcases hxo with rfl | rfl <;> rcases hyo with rfl | rfl <;> rfl)
      (by rintro ⟨e, _⟩; have : op = 14 := e; omega)
      (by
        intro z hz at1 kind W hW
        obtain rfl : z = condE op g := by simpa [Tr.leaves] using hz
        exact asks_any (condE op g) (sideE xo xv) (sideE yo yv) at1 kind W (fun _ => ⟨g, 0, rfl, Nat.lt_of_lt_of_le hlg hW.size, fun j v hv => by rw [Nat.zero_add]; exact (hW.cell (p := ⟨g, _, none⟩) hlg).trans (hcg j v hv)⟩))
    unfold chosen
    rw [if_pos hmay]
    have e : plansL (fun a kd _ => askC op (sideE xo xv) (sideE yo yv) a kd) cs k xs (Tr.leaf (condE op g)).leaves xs.length = plansL (fun a kd _ => askC op (sideE xo xv) (sideE yo yv) a kd) cs k xs [condE 0 0] xs.length := plansL_const _ cs k xs _ _ _
    rw [e] at q
    exact q
  · unfold chosen
    rw [if_neg hmay]
    exact choose_not nm A cs ca k B xs cb _ 1 1 w HR HX hm hk hcs hxs (by simpa using hmay)
/-- The other way round. -/
def turned (op : Int) : Int := if op = 10 then 12 else if op = 11 then 13 else if op = 12 then 10 else if op = 13 then 11 else op
theorem ask_turned {op : Int} (hop : op = 8 ∨ op = 9 ∨ op = 10 ∨ op = 11 ∨ op = 12 ∨ op = 13) (v : V) (u : V) : askC (turned op) (sideE 0 v) (sideE 1 u) = askC op (sideE 1 u) (sideE 0 v) := by
  funext a kd
  rcases hop with rfl | rfl | rfl | rfl | rfl | rfl <;> rfl
end Go.Proofs.Ytfmfmammcjpboaa
