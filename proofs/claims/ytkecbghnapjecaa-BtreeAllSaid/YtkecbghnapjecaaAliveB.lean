/- The law's filled, alive. -/
import Derived.Test.YtkecbghnapjecaaGetW
import Derived.Test.YtkecbghnapjecaaStage
namespace Go.Proofs.Ytkecbghnapjecaa
open Go.RowKit
set_option linter.unusedVariables false
set_option linter.unusedSimpArgs false
def bang : ByteArray := ⟨#[33]⟩
/-- The state behind the first j puts. -/
def fillS (l : List ByteArray) (j : Nat) : List Nd × Int := (l.take j).foldl (fun x k => (putS x.1 x.2 k (k ++ bang)).1) ([], -1)
theorem fillS_succ {l : List ByteArray} {j : Nat} {k : ByteArray} (h : l[j]? = some k) : fillS l (j + 1) = (putS (fillS l j).1 (fillS l j).2 k (k ++ bang)).1 := by
  unfold fillS
  rw [List.take_add_one, h, List.foldl_append]
  rfl
/-- Bounds of a state that put gives. -/
def StB (x : List Nd × Int) : Prop := x.1.length ≤ 20000 ∧ (∀ n ∈ x.1, n.keys.length ≤ 9 ∧ n.vals.length ≤ 9 ∧ n.kids.length ≤ 10 ∧ ∀ y ∈ n.kids, 0 ≤ y ∧ y < 20000) ∧ -1 ≤ x.2 ∧ x.2 ≤ 0
theorem StB.of {t : Tr} (h : Wid t) (hs : szT t ≤ 20000) : StB (layT 0 t, 0) := by
  refine ⟨by rw [layT_len]; exact hs, fun n hn => ?_, by simp, by simp⟩
  obtain ⟨h1, h2, h3, h4⟩ := layT_bounds t 0 h n hn
  exact ⟨h1, h2, h3, fun y hy => by have := h4 y hy; push_cast at this; omega⟩
theorem StB.nil (r : Int) (h : -1 ≤ r ∧ r ≤ 0) : StB ([], r) := ⟨by simp, by simp, h.1, h.2⟩
theorem StB.put (s : List Nd) (root : Int) (key value : ByteArray) : StB (putS s root key value).1 := by
  unfold putS
  split
  · exact StB.nil 0 (by simp)
  · exact StB.of (by rw [Wid.iff]; simp [Wids]) (by simp [szT_mk, szTs])
  · rename_i t d p h
    split
    · exact StB.nil 0 (by simp)
    · obtain ⟨hO, hp, hp48, _⟩ := readS_ok h
      have h1 := szT_pairs t hO
      have h2 := szT_put key value (szT t) t (Nat.le_refl _) hO
      have hw := putK_wid key value (szT t) t (Nat.le_refl _) hO
      unfold topT
      split
      · have := szT_split (putK key value t)
        refine StB.of ?_ ?_
        · rw [Wid.iff]
          simp only [List.length_cons, List.length_nil]
          exact ⟨by omega, by omega, by omega, Wids.iff.2 (fun t ht => by
            simp only [List.mem_cons, List.not_mem_nil, or_false] at ht
            rcases ht with rfl | rfl
            · exact hw.split.1
            · exact hw.split.2)⟩
        · simp only [szT_mk, szTs]; omega
      · exact StB.of hw (by omega)
theorem StAt.nodes {w : World} {M c : Nat} {A : Option Addr} {x : List Nd × Int} (h : StAt w M (.agg #[.slice A x.1.length c, .int .i64 x.2]) x) (hb : StB x) : NodesOk w A c x.1 := by
  obtain ⟨A', c', e, hN, _⟩ := h
  obtain ⟨rfl, _⟩ : A = A' ∧ _ := by simpa using e
  exact ⟨hN (fun _ => False) w (fun _ h => h.elim) (Kept.refl _ _ _), fun n hn => by
    obtain ⟨h1, h2, h3, h4⟩ := hb.2.1 n hn
    exact ⟨by omega, by omega, by omega, fun y hy => by have := h4 y hy; constructor <;> omega⟩, by have := hb.1; omega⟩
theorem StB.root {x : List Nd × Int} (h : StB x) : InR x.2 := by have := h.2.2; constructor <;> omega
theorem StAt.empty (w : World) (M : Nat) (r : Int) : StAt w M (.agg #[.slice none 0 0, .int .i64 r]) ([], r) := ⟨none, 0, rfl, fun _ _ _ _ => NodesAt.nil, Nat.le_refl _, fun _ => rfl, fun _ h => by cases h⟩
theorem num_any (e0 : Int) (w : World) : Calls Try.prog 13 #[.int .i64 e0] w fun e w' => e = .returned (.int .i64 e0) ∧ w = w' := by
  go_enter Try.func13, Try.ntmps13
  go_wp2
  go_ret
  exact ⟨rfl, rfl⟩
set_option maxHeartbeats 4000000 in
set_option maxRecDepth 100000 in
theorem filled_any (A : Option Addr) (c : Nat) (l : List ByteArray) (w : World) (HR : RowE encS 1 w A l) (hl : l.length ≤ 100) (hks : ∀ k ∈ l, k.size ≤ 1000) (hok : ∀ j k, l[j]? = some k → (putS (fillS l j).1 (fillS l j).2 k (k ++ bang)).2 = 0) :
    Calls Try.prog 34 #[.slice A l.length c] w fun e w' => ∃ v, e = .returned (.tuple #[v, .bool true]) ∧ StAt w' w.heap.size v (fillS l l.length) ∧ Below w.heap.size w w' := by
  have hbang : ∀ k : ByteArray, k ++ { data := #[33] } = k ++ bang := fun _ => rfl
  have HRW := Lib.hid HR
  have HOK := Lib.hid hok
  have HKS := Lib.hid hks
  have HX := Lib.hid (Box.new w #[.slice none 0 0, .int .i64 0] 27)
  have hn := Lib.hid (new_any (w.alloc (.cells #[.slice none 0 0, .int .i64 0] 27)))
  clear HR hok hks
  go_enter Try.func34, Try.ntmps34
  go_wp2_with fail
  refine hn.out.mono ?_
  rintro e w1 ⟨rfl, hb⟩
  replace HX := Lib.hid (HX.out.step hb)
  have hlt1 : w.heap.size < w1.heap.size := HX.out.lt
  have hF : Below w.heap.size w w1 := below_step' ((Below.refl _ w).alloc (Nat.le_refl _) _) hb
  have HF := Lib.hid hF
  clear hb hn hF
  go_wp2_with fail
  have HS := Lib.hid (Box.new w1 #[.slice none 0 0, .int .i64 (-1)] 27)
  replace HX := Lib.hid (HX.out.alloc (.cells #[.slice none 0 0, .int .i64 (-1)] 27))
  replace HF := Lib.hid (HF.out.alloc HF.out.size (.cells #[.slice none 0 0, .int .i64 (-1)] 27))
  have hs2 : (w1.alloc (.cells #[.slice none 0 0, .int .i64 (-1)] 27)).heap.size = w1.heap.size + 1 := by simp
  generalize w1.alloc (.cells #[.slice none 0 0, .int .i64 (-1)] 27) = w2 at *
  generalize hsb : w1.heap.size = sb at *
  have HST := Lib.hid (StAt.empty w2 w2.heap.size (-1))
  have hf0 : fillS l 0 = ([], -1) := rfl
  have HF0 := Lib.hid hf0
  have hBn := StB.nil (-1) (by simp)
  have HBN := Lib.hid hBn
  clear hf0 hsb hBn
  go_loopw [5] (fun i wr => ∃ (j M : Nat) (x : List Nd × Int) (SA : Option Addr) (sc : Nat), j ≤ l.length ∧ i = .int .i64 j ∧ Hid (fillS l j = x) ∧ Hid (StB x) ∧ Hid (Box wr sb [.slice SA x.1.length sc, .int .i64 x.2]) ∧ Hid (StAt wr M (.agg #[.slice SA x.1.length sc, .int .i64 x.2]) x) ∧ Hid (Box wr w.heap.size [.slice none 0 0, .int .i64 0]) ∧ Hid (Below w.heap.size w wr) ∧ sb < M ∧ M ≤ wr.heap.size) (fun i _ => l.length - (Lib.intOf i).toNat)
  case atStart => exact ⟨0, w2.heap.size, ([], -1), none, 0, Nat.zero_le _, rfl, HF0, HBN, HS, HST, HX, HF, by omega, Nat.le_refl _⟩
  case round =>
  clear HS HST HX HF HF0 HBN hs2
  obtain ⟨j, M, x, SA, sc, hj, rfl, HFX, HSB, HS, HST, HX, HF, hsM, hMr⟩ := hrel
  by_cases hlt : j < l.length
  · obtain ⟨key, hk⟩ : ∃ key, l[j]? = some key := ⟨_, List.getElem?_eq_getElem hlt⟩
    have hnx := fillS_succ hk
    have hok1 := HOK.out j key hk
    rw [HFX.out] at hnx hok1
    have HNX := Lib.hid hnx
    have HPUT : Hid (∀ (W : World) (M : Nat), StAt W M (.agg #[.slice SA x.1.length sc, .int .i64 x.2]) x → Calls Try.prog 9 #[.agg #[.slice SA x.1.length sc, .int .i64 x.2], .string key, .string (key ++ bang)] W fun e w' => ∃ v, e = .returned (.tuple #[v, .int .i64 0]) ∧ StAt w' W.heap.size v (putS x.1 x.2 key (key ++ bang)).1 ∧ Below W.heap.size W w') := Lib.hid (fun W M h => by
      have hp := put_top SA sc x.2 x.1 key (key ++ bang) W (h.nodes HSB.out) HSB.out.root
      rw [hok1] at hp
      exact hp)
    obtain ⟨bL, oL, rfl, hbL, hcl⟩ := HRW.out.atE hk HF.out
    have hcL : wr.cell? ⟨bL, oL + j, none⟩ = some (.string key) := by have := hcl 0 _ rfl; simpa using this
    have hsbd : sb < wr.drew.heap.size := by show sb < wr.heap.size; omega
    have hjl1 : (j : Int) < 100 := by omega
    have hk9 := HKS.out key (List.mem_of_getElem? hk)
    have hcs : ¬ 9223372036854775807 < key.size + 1 := by omega
    clear hnx hok1 hk hcl HOK
    go_upto_region 5 with (fail)
    clear hjl1
    refine stage_begin (S := fun (L' : Array Bool) (w' : World) => Box w' sb [.slice SA x.1.length sc, .int .i64 x.2] ∧ w'.cell? ⟨bL, oL + j, none⟩ = some (.string key)) (by kernel_rfl) ?_
    have hdr : Below wr.heap.size wr wr.drew := below_drewN (Below.refl _ _) 1
    have HCL := Lib.hid hcL
    replace HS := Lib.hid (HS.out.step hdr)
    replace HX := Lib.hid (HX.out.step hdr)
    replace HF := Lib.hid (below_step' HF.out hdr)
    replace HCL := Lib.hid ((hdr.cell (World.block_lt_of_cell? _ _ HCL.out)).trans HCL.out)
    replace HST := Lib.hid (HST.out.below hdr)
    clear hdr hcL
    generalize wr.drew = wd at *
    have hS0 : Box wd sb [.slice SA x.1.length sc, .int .i64 x.2] ∧ wd.cell? ⟨bL, oL + j, none⟩ = some (.string key) := ⟨HS.out, HCL.out⟩
    refine stage_take (i := 0) (oi := { dst := some 20, op := Go.Op.load 27 (Go.Operand.tmp 4), type := 27, pos := "law.go:53", after := #[], guard := none }) (v := ?_) (T := fun w' : World => Box w' sb [.slice SA x.1.length sc, .int .i64 x.2] ∧ w'.cell? ⟨bL, oL + j, none⟩ = some (.string key)) rfl (by kernel_rfl) (by kernel_rfl) (by kernel_rfl) (by kernel_rfl) (fun _ _ _ h => h) (fun L' w' hW hS => hS) (fun L' w' hS => hS) (Or.inl ⟨by rfl, ?_⟩) (hS0) (hS0) ?_
    rotate_left 1
    · intro w9 zA; have z0 := zA.1.c 0 _ rfl; have z1 := zA.1.c 1 _ rfl; clear zA; go_simp; (try with_reducible rfl)
    try simp only [Act.put, List.setIfInBounds_toArray, List.set_cons_zero, List.set_cons_succ]
    refine stage_take (i := 1) (oi := { dst := some 21, op := Go.Op.move (Go.Operand.tmp 0), type := 57, pos := "law.go:53", after := #[], guard := none }) (v := ?_) (T := fun _ => True) rfl (by kernel_rfl) (by kernel_rfl) (by kernel_rfl) (by kernel_rfl) (fun _ _ _ h => h) (fun L' w' hW hS => trivial) (fun L' w' hS => hS) (Or.inl ⟨by rfl, ?_⟩) trivial (hS0) ?_
    rotate_left 1
    · intro w9 _; go_simp; (try with_reducible rfl)
    try simp only [Act.put, List.setIfInBounds_toArray, List.set_cons_zero, List.set_cons_succ]
    refine stage_take (i := 2) (oi := { dst := some 22, op := Go.Op.move (Go.Operand.tmp 5), type := 3, pos := "law.go:53", after := #[], guard := none }) (v := ?_) (T := fun _ => True) rfl (by kernel_rfl) (by kernel_rfl) (by kernel_rfl) (by kernel_rfl) (fun _ _ _ h => h) (fun L' w' hW hS => trivial) (fun L' w' hS => hS) (Or.inl ⟨by rfl, ?_⟩) trivial (hS0) ?_
    rotate_left 1
    · intro w9 _; go_simp; (try with_reducible rfl)
    try simp only [Act.put, List.setIfInBounds_toArray, List.set_cons_zero, List.set_cons_succ]
    refine stage_take (i := 3) (oi := { dst := some 23, op := Go.Op.indexAddr 57 (Go.Operand.tmp 21) (Go.Operand.tmp 22), type := 0, pos := "law.go:53", after := #[{ on := 1, ground := Go.Ground.data }, { on := 2, ground := Go.Ground.data }], guard := none }) (v := ?_) (T := fun _ => True) rfl (by kernel_rfl) (by kernel_rfl) (by kernel_rfl) (by kernel_rfl) (fun _ _ _ h => h) (fun L' w' hW hS => trivial) (fun L' w' hS => hS) (Or.inl ⟨by rfl, ?_⟩) trivial (hS0) ?_
    rotate_left 1
    · intro w9 _; go_simp; (try with_reducible rfl)
    try simp only [Act.put, List.setIfInBounds_toArray, List.set_cons_zero, List.set_cons_succ]
    refine stage_take (i := 4) (oi := { dst := some 24, op := Go.Op.load 9 (Go.Operand.tmp 23), type := 9, pos := "law.go:53", after := #[{ on := 3, ground := Go.Ground.data }], guard := none }) (v := ?_) (T := fun w' : World => Box w' sb [.slice SA x.1.length sc, .int .i64 x.2] ∧ w'.cell? ⟨bL, oL + j, none⟩ = some (.string key)) rfl (by kernel_rfl) (by kernel_rfl) (by kernel_rfl) (by kernel_rfl) (fun _ _ _ h => h) (fun L' w' hW hS => hS) (fun L' w' hS => hS) (Or.inl ⟨by rfl, ?_⟩) (hS0) (hS0) ?_
    rotate_left 1
    · intro w9 zA; have z0 := zA.2; clear zA; go_simp; (try with_reducible rfl)
    try simp only [Act.put, List.setIfInBounds_toArray, List.set_cons_zero, List.set_cons_succ]
    refine stage_take (i := 5) (oi := { dst := some 25, op := Go.Op.move (Go.Operand.tmp 0), type := 57, pos := "law.go:53", after := #[], guard := none }) (v := ?_) (T := fun _ => True) rfl (by kernel_rfl) (by kernel_rfl) (by kernel_rfl) (by kernel_rfl) (fun _ _ _ h => h) (fun L' w' hW hS => trivial) (fun L' w' hS => hS) (Or.inl ⟨by rfl, ?_⟩) trivial (hS0) ?_
    rotate_left 1
    · intro w9 _; go_simp; (try with_reducible rfl)
    try simp only [Act.put, List.setIfInBounds_toArray, List.set_cons_zero, List.set_cons_succ]
    refine stage_take (i := 6) (oi := { dst := some 26, op := Go.Op.move (Go.Operand.tmp 5), type := 3, pos := "law.go:53", after := #[], guard := none }) (v := ?_) (T := fun _ => True) rfl (by kernel_rfl) (by kernel_rfl) (by kernel_rfl) (by kernel_rfl) (fun _ _ _ h => h) (fun L' w' hW hS => trivial) (fun L' w' hS => hS) (Or.inl ⟨by rfl, ?_⟩) trivial (hS0) ?_
    rotate_left 1
    · intro w9 _; go_simp; (try with_reducible rfl)
    try simp only [Act.put, List.setIfInBounds_toArray, List.set_cons_zero, List.set_cons_succ]
    refine stage_take (i := 7) (oi := { dst := some 27, op := Go.Op.indexAddr 57 (Go.Operand.tmp 25) (Go.Operand.tmp 26), type := 0, pos := "law.go:53", after := #[{ on := 5, ground := Go.Ground.data }, { on := 6, ground := Go.Ground.data }], guard := none }) (v := ?_) (T := fun _ => True) rfl (by kernel_rfl) (by kernel_rfl) (by kernel_rfl) (by kernel_rfl) (fun _ _ _ h => h) (fun L' w' hW hS => trivial) (fun L' w' hS => hS) (Or.inl ⟨by rfl, ?_⟩) trivial (hS0) ?_
    rotate_left 1
    · intro w9 _; go_simp; (try with_reducible rfl)
    try simp only [Act.put, List.setIfInBounds_toArray, List.set_cons_zero, List.set_cons_succ]
    refine stage_take (i := 8) (oi := { dst := some 28, op := Go.Op.load 9 (Go.Operand.tmp 27), type := 9, pos := "law.go:53", after := #[{ on := 7, ground := Go.Ground.data }], guard := none }) (v := ?_) (T := fun w' : World => Box w' sb [.slice SA x.1.length sc, .int .i64 x.2] ∧ w'.cell? ⟨bL, oL + j, none⟩ = some (.string key)) rfl (by kernel_rfl) (by kernel_rfl) (by kernel_rfl) (by kernel_rfl) (fun _ _ _ h => h) (fun L' w' hW hS => hS) (fun L' w' hS => hS) (Or.inl ⟨by rfl, ?_⟩) (hS0) (hS0) ?_
    rotate_left 1
    · intro w9 zA; have z0 := zA.2; clear zA; go_simp; (try with_reducible rfl)
    try simp only [Act.put, List.setIfInBounds_toArray, List.set_cons_zero, List.set_cons_succ]
    refine stage_take (i := 9) (oi := { dst := some 29, op := Go.Op.binOp Go.BinOp.add 9 (Go.Operand.tmp 28) (Go.Operand.const (Go.Value.string { data := #[33] })) 9, type := 9, pos := "law.go:53", after := #[{ on := 8, ground := Go.Ground.data }], guard := none }) (v := ?_) (T := fun _ => True) rfl (by kernel_rfl) (by kernel_rfl) (by kernel_rfl) (by kernel_rfl) (fun _ _ _ h => h) (fun L' w' hW hS => trivial) (fun L' w' hS => hS) (Or.inl ⟨by rfl, ?_⟩) trivial (hS0) ?_
    rotate_left 1
    · intro w9 _; go_simp; (try with_reducible rfl)
    try simp only [Act.put, List.setIfInBounds_toArray, List.set_cons_zero, List.set_cons_succ]
    refine stage_all (rs := [10, 14]) (by kernel_rfl) (by simp) (fun i0 hi0 => ?_)
    simp only [List.mem_cons, List.not_mem_nil, or_false] at hi0
    rcases hi0 with rfl | rfl
    · have hsbW := hsbd
      refine stage_step (S := fun (L' : Array Bool) (w' : World) => Box w' sb [.slice SA x.1.length sc, .int .i64 x.2] ∧ w'.cell? ⟨bL, oL + j, none⟩ = some (.string key)) (o := { dst := some 30, op := Go.Op.call { callee := Go.Callee.value (Go.Operand.func 9), args := #[Go.Operand.tmp 20, Go.Operand.tmp 24, Go.Operand.tmp 29], argTypes := #[27, 9, 9] }, type := 30, pos := "law.go:53", after := #[{ on := 0, ground := Go.Ground.data }, { on := 4, ground := Go.Ground.data }, { on := 9, ground := Go.Ground.data }], guard := none }) (by rfl) (fun K2 hK => ?_)
      go_simp
      clear hS0
      go_wp2_with fail
      refine (HPUT.out wd M HST.out).mono ?_
      rintro e w5 ⟨v, rfl, hst, hb⟩
      replace HS := Lib.hid (HS.out.step hb)
      replace HX := Lib.hid (HX.out.step hb)
      replace HF := Lib.hid (below_step' HF.out hb)
      replace HCL := Lib.hid ((hb.cell (World.block_lt_of_cell? _ _ HCL.out)).trans HCL.out)
      have hK5 := Kept.refl w5.heap.size (fun k => k < wd.heap.size) w5
      have HK5 := Lib.hid hK5
      have hWs : sb < wd.heap.size := hsbW
      have hVs := hb.size
      clear hb HST hK5
      obtain ⟨A2, c2, rfl, hst1, hst2⟩ := hst
      have HST : Hid (StAt w5 wd.heap.size (.agg #[.slice A2 (putS x.1 x.2 key (key ++ bang)).1.1.length c2, .int .i64 (putS x.1 x.2 key (key ++ bang)).1.2]) (putS x.1 x.2 key (key ++ bang)).1) := Lib.hid ⟨A2, c2, rfl, hst1, hst2⟩
      clear hst1 hst2
      have hS0 : Box w5 sb [.slice SA x.1.length sc, .int .i64 x.2] ∧ w5.cell? ⟨bL, oL + j, none⟩ = some (.string key) := ⟨HS.out, HCL.out⟩
      refine hK.out _ _ (hS0) ?_
      clear hK K2
      try simp only [Act.put, List.setIfInBounds_toArray, List.set_cons_zero, List.set_cons_succ]
      refine stage_take (i := 11) (oi := { dst := some 19, op := Go.Op.move (Go.Operand.tmp 30), type := 30, pos := "law.go:53", after := #[{ on := 10, ground := Go.Ground.data }], guard := none }) (v := ?_) (T := fun _ => True) rfl (by kernel_rfl) (by kernel_rfl) (by kernel_rfl) (by kernel_rfl) (fun _ _ _ h => h) (fun L' w' hW hS => trivial) (fun L' w' hS => hS) (Or.inl ⟨by rfl, ?_⟩) trivial (hS0) ?_
      rotate_left 1
      · intro w9 _; go_simp; (try with_reducible rfl)
      try simp only [Act.put, List.setIfInBounds_toArray, List.set_cons_zero, List.set_cons_succ]
      refine stage_take (i := 12) (oi := { dst := some 31, op := Go.Op.extract (Go.Operand.tmp 19) 0, type := 27, pos := "law.go:53", after := #[{ on := 11, ground := Go.Ground.data }], guard := none }) (v := ?_) (T := fun _ => True) rfl (by kernel_rfl) (by kernel_rfl) (by kernel_rfl) (by kernel_rfl) (fun _ _ _ h => h) (fun L' w' hW hS => trivial) (fun L' w' hS => hS) (Or.inl ⟨by rfl, ?_⟩) trivial (hS0) ?_
      rotate_left 1
      · intro w9 _; go_simp; (try with_reducible rfl)
      try simp only [Act.put, List.setIfInBounds_toArray, List.set_cons_zero, List.set_cons_succ]
      refine stage_take (i := 13) (oi := { dst := some 32, op := Go.Op.extract (Go.Operand.tmp 19) 1, type := 29, pos := "law.go:53", after := #[{ on := 11, ground := Go.Ground.data }, { on := 15, ground := Go.Ground.gcOnly Go.Departure.lateStores }], guard := none }) (v := ?_) (T := fun _ => True) rfl (by kernel_rfl) (by kernel_rfl) (by kernel_rfl) (by kernel_rfl) (fun _ _ _ h => h) (fun L' w' hW hS => trivial) (fun L' w' hS => hS) (Or.inl ⟨by rfl, ?_⟩) trivial (hS0) ?_
      rotate_left 1
      · intro w9 _; go_simp; (try with_reducible rfl)
      try simp only [Act.put, List.setIfInBounds_toArray, List.set_cons_zero, List.set_cons_succ]
      have hsbd5 : sb < w5.heap.size := by omega
      clear hsbd
      have hsbd := hsbd5
      refine stage_all (rs := [14]) (by kernel_rfl) (by simp) (fun i0 hi0 => ?_)
      obtain rfl : i0 = 14 := by simpa using hi0
      refine stage_step (S := fun (L' : Array Bool) (w' : World) => Box w' sb [.slice SA x.1.length sc, .int .i64 x.2] ∧ w'.cell? ⟨bL, oL + j, none⟩ = some (.string key)) (o := { dst := some 6, op := Go.Op.alloc 27, type := 0, pos := "law.go:53", after := #[], guard := none }) (by rfl) (fun K2 hK => ?_)
      go_simp
      clear hS0
      have hwt6 : w.heap.size ≤ w5.heap.size := HF.out.size
      have hal : Below w5.heap.size w5 (w5.alloc (.cells #[.slice none 0 0, .int .i64 0] 27)) := (Below.refl _ _).alloc (Nat.le_refl _) _
      have HT := Lib.hid (Box.new w5 #[.slice none 0 0, .int .i64 0] 27)
      replace HS := Lib.hid (HS.out.step hal)
      replace HX := Lib.hid (HX.out.step hal)
      replace HF := Lib.hid (below_step' HF.out hal)
      replace HCL := Lib.hid ((hal.cell (World.block_lt_of_cell? _ _ HCL.out)).trans HCL.out)
      replace HK5 := Lib.hid (HK5.out.alloc (Nat.le_refl _) (.cells #[.slice none 0 0, .int .i64 0] 27))
      have ht6 : w5.heap.size ≤ w5.heap.size ∨ w5.heap.size < wd.heap.size := .inl (Nat.le_refl _)
      have hst6 : sb < w5.heap.size := hsbd
      have hsbW := Nat.lt_of_lt_of_le hsbd hal.size
      clear hal
      generalize w5.alloc (.cells #[.slice none 0 0, .int .i64 0] 27) = w6 at *
      generalize ht6e : w5.heap.size = t6 at *
      have HT6E := Lib.hid ht6e
      clear ht6e
      have hS0 : Box w6 sb [.slice SA x.1.length sc, .int .i64 x.2] ∧ w6.cell? ⟨bL, oL + j, none⟩ = some (.string key) := ⟨HS.out, HCL.out⟩
      refine hK.out _ _ (hS0) ?_
      clear hK K2
      try simp only [Act.put, List.setIfInBounds_toArray, List.set_cons_zero, List.set_cons_succ]
      have hsz6 : wd.heap.size ≤ w6.heap.size := by have := HK5.out.size; have := HT6E.out; omega
      clear hS0
      have cHT0 := HT.out.c 0 _ rfl; have fHT0 := HT.out.f 0 (by simp); have cHT1 := HT.out.c 1 _ rfl; have fHT1 := HT.out.f 1 (by simp); have lHT := HT.out.lt
      refine stage_all (rs := [15]) (by kernel_rfl) (by simp) (fun i0 hi0 => ?_)
      obtain rfl : i0 = 15 := by simpa using hi0
      refine stage_step (S := fun (L' : Array Bool) (w' : World) => Box w' sb [.slice SA x.1.length sc, .int .i64 x.2] ∧ w'.cell? ⟨bL, oL + j, none⟩ = some (.string key)) (o := { dst := none, op := Go.Op.store 27 (Go.Operand.tmp 6) (Go.Operand.tmp 31), type := 0, pos := "law.go:53", after := #[{ on := 14, ground := Go.Ground.data }, { on := 12, ground := Go.Ground.data }, { on := 10, ground := Go.Ground.chain }, { on := 0, ground := Go.Ground.phase }, { on := 1, ground := Go.Ground.phase }, { on := 2, ground := Go.Ground.phase }, { on := 3, ground := Go.Ground.phase }, { on := 4, ground := Go.Ground.phase }, { on := 5, ground := Go.Ground.phase }, { on := 6, ground := Go.Ground.phase }, { on := 7, ground := Go.Ground.phase }, { on := 8, ground := Go.Ground.phase }, { on := 9, ground := Go.Ground.phase }, { on := 10, ground := Go.Ground.phase }, { on := 11, ground := Go.Ground.phase }, { on := 12, ground := Go.Ground.phase }, { on := 13, ground := Go.Ground.textOnly Go.Departure.lateStores }, { on := 14, ground := Go.Ground.phase }], guard := none }) (by rfl) (fun K2 hK => ?_)
      go_simp
      clear cHT0 fHT0 cHT1 fHT1 lHT
      have hT9 := (HT.out.set 0 (.slice A2 (putS x.1 x.2 key (key ++ bang)).1.1.length c2) (by simp)).set 1 (.int .i64 (putS x.1 x.2 key (key ++ bang)).1.2) (by simp)
      have HT9 : Hid (Box ((w6.setCell ⟨t6, 0, none⟩ (.slice A2 (putS x.1 x.2 key (key ++ bang)).1.1.length c2)).setCell ⟨t6, 1, none⟩ (.int .i64 (putS x.1 x.2 key (key ++ bang)).1.2)) t6 [.slice A2 (putS x.1 x.2 key (key ++ bang)).1.1.length c2, .int .i64 (putS x.1 x.2 key (key ++ bang)).1.2]) := Lib.hid hT9
      replace HS := Lib.hid ((HS.out.other ⟨t6, 0, none⟩ (.slice A2 (putS x.1 x.2 key (key ++ bang)).1.1.length c2) (by simp; omega)).other ⟨t6, 1, none⟩ (.int .i64 (putS x.1 x.2 key (key ++ bang)).1.2) (by simp; omega))
      replace HX := Lib.hid ((HX.out.other ⟨t6, 0, none⟩ (.slice A2 (putS x.1 x.2 key (key ++ bang)).1.1.length c2) (by simp; omega)).other ⟨t6, 1, none⟩ (.int .i64 (putS x.1 x.2 key (key ++ bang)).1.2) (by simp; omega))
      replace HF := Lib.hid ((HF.out.setCell (p := ⟨t6, 0, none⟩) (by simp; omega) (.slice A2 (putS x.1 x.2 key (key ++ bang)).1.1.length c2)).setCell (p := ⟨t6, 1, none⟩) (by simp; omega) (.int .i64 (putS x.1 x.2 key (key ++ bang)).1.2))
      replace HK5 := Lib.hid ((HK5.out.set ⟨t6, 0, none⟩ (.slice A2 (putS x.1 x.2 key (key ++ bang)).1.1.length c2) ht6).set ⟨t6, 1, none⟩ (.int .i64 (putS x.1 x.2 key (key ++ bang)).1.2) ht6)
      have hkz : Kept w6.heap.size (fun k => k = t6) w6 ((w6.setCell ⟨t6, 0, none⟩ (.slice A2 (putS x.1 x.2 key (key ++ bang)).1.1.length c2)).setCell ⟨t6, 1, none⟩ (.int .i64 (putS x.1 x.2 key (key ++ bang)).1.2)) := ((Kept.refl _ (fun k => k = t6) w6).set ⟨t6, 0, none⟩ (.slice A2 (putS x.1 x.2 key (key ++ bang)).1.1.length c2) (.inr rfl)).set ⟨t6, 1, none⟩ (.int .i64 (putS x.1 x.2 key (key ++ bang)).1.2) (.inr rfl)
      have HCL9 := Lib.hid ((hkz.cell (World.block_lt_of_cell? _ _ HCL.out) (by simp only; omega)).trans HCL.out)
      replace hsz6 := Nat.le_trans hsz6 hkz.size
      clear hT9 HT HCL hkz
      generalize ((w6.setCell ⟨t6, 0, none⟩ (.slice A2 (putS x.1 x.2 key (key ++ bang)).1.1.length c2)).setCell ⟨t6, 1, none⟩ (.int .i64 (putS x.1 x.2 key (key ++ bang)).1.2)) = wz at *
      have hSz : Box wz sb [.slice SA x.1.length sc, .int .i64 x.2] ∧ wz.cell? ⟨bL, oL + j, none⟩ = some (.string key) := ⟨HS.out, HCL9.out⟩
      refine hK.out _ _ (hSz) ?_
      clear hK K2
      try simp only [Act.put, List.setIfInBounds_toArray, List.set_cons_zero, List.set_cons_succ]
      refine stage_all (rs := [16]) (by kernel_rfl) (by simp) (fun i0 hi0 => ?_)
      obtain rfl : i0 = 16 := by simpa using hi0
      refine stage_step (S := fun (L' : Array Bool) (w' : World) => Box w' sb [.slice SA x.1.length sc, .int .i64 x.2] ∧ w'.cell? ⟨bL, oL + j, none⟩ = some (.string key)) (o := { dst := some 7, op := Go.Op.assign (Go.Operand.tmp 32), type := 29, pos := "law.go:53", after := #[{ on := 13, ground := Go.Ground.data }, { on := 15, ground := Go.Ground.chain }, { on := 0, ground := Go.Ground.phase }, { on := 1, ground := Go.Ground.phase }, { on := 2, ground := Go.Ground.phase }, { on := 3, ground := Go.Ground.phase }, { on := 4, ground := Go.Ground.phase }, { on := 5, ground := Go.Ground.phase }, { on := 6, ground := Go.Ground.phase }, { on := 7, ground := Go.Ground.phase }, { on := 8, ground := Go.Ground.phase }, { on := 9, ground := Go.Ground.phase }, { on := 10, ground := Go.Ground.phase }, { on := 11, ground := Go.Ground.phase }, { on := 12, ground := Go.Ground.phase }, { on := 13, ground := Go.Ground.phase }, { on := 14, ground := Go.Ground.phase }, { on := 15, ground := Go.Ground.phase }], guard := none }) (by rfl) (fun K2 hK => ?_)
      go_simp
      refine hK.out _ _ (hSz) ?_
      clear hK K2
      try simp only [Act.put, List.setIfInBounds_toArray, List.set_cons_zero, List.set_cons_succ]
      refine stage_done (by kernel_rfl) ?_ _
      clear hSz HCL9
      have HK6 := HK5.out
      rw [← HT6E.out] at HK6
      have cHT90 := HT9.out.c 0 _ rfl; have fHT90 := HT9.out.f 0 (by simp); have cHT91 := HT9.out.c 1 _ rfl; have fHT91 := HT9.out.f 1 (by simp); have lHT9 := HT9.out.lt; have cHS0 := HS.out.c 0 _ rfl; have fHS0 := HS.out.f 0 (by simp); have cHS1 := HS.out.c 1 _ rfl; have fHS1 := HS.out.f 1 (by simp); have lHS := HS.out.lt
      go_wp2_with (go_at_call 13; (with_reducible refine (num_any _ _).mono ?_); rintro e w' ⟨rfl, rfl⟩)
      clear cHT90 fHT90 cHT91 fHT91 lHT9; clear cHS0 fHS0 cHS1 fHS1 lHS
      have hSx := (HS.out.set 0 (.slice A2 (putS x.1 x.2 key (key ++ bang)).1.1.length c2) (by simp)).set 1 (.int .i64 (putS x.1 x.2 key (key ++ bang)).1.2) (by simp)
      have HSx : Hid (Box ((wz.setCell ⟨sb, 0, none⟩ (.slice A2 (putS x.1 x.2 key (key ++ bang)).1.1.length c2)).setCell ⟨sb, 1, none⟩ (.int .i64 (putS x.1 x.2 key (key ++ bang)).1.2)) sb [.slice A2 (putS x.1 x.2 key (key ++ bang)).1.1.length c2, .int .i64 (putS x.1 x.2 key (key ++ bang)).1.2]) := Lib.hid hSx
      have HXx := Lib.hid ((HX.out.other ⟨sb, 0, none⟩ (.slice A2 (putS x.1 x.2 key (key ++ bang)).1.1.length c2) (by simp; omega)).other ⟨sb, 1, none⟩ (.int .i64 (putS x.1 x.2 key (key ++ bang)).1.2) (by simp; omega))
      have HFx := Lib.hid ((HF.out.setCell (p := ⟨sb, 0, none⟩) (by simp; omega) (.slice A2 (putS x.1 x.2 key (key ++ bang)).1.1.length c2)).setCell (p := ⟨sb, 1, none⟩) (by simp; omega) (.int .i64 (putS x.1 x.2 key (key ++ bang)).1.2))
      have HSTx := Lib.hid (HST.out.kept ((HK6.set ⟨sb, 0, none⟩ (.slice A2 (putS x.1 x.2 key (key ++ bang)).1.1.length c2) (.inr hWs)).set ⟨sb, 1, none⟩ (.int .i64 (putS x.1 x.2 key (key ++ bang)).1.2) (.inr hWs)) (fun k hk => hk))
      have hszx : wd.heap.size ≤ ((wz.setCell ⟨sb, 0, none⟩ (.slice A2 (putS x.1 x.2 key (key ++ bang)).1.1.length c2)).setCell ⟨sb, 1, none⟩ (.int .i64 (putS x.1 x.2 key (key ++ bang)).1.2)).heap.size := by simp; omega
      clear hSx HS HX HF HST HK5 HT9 HK6
      generalize ((wz.setCell ⟨sb, 0, none⟩ (.slice A2 (putS x.1 x.2 key (key ++ bang)).1.1.length c2)).setCell ⟨sb, 1, none⟩ (.int .i64 (putS x.1 x.2 key (key ++ bang)).1.2)) = wy at *
      go_roundw
      case rel => exact ⟨j + 1, wd.heap.size, (putS x.1 x.2 key (key ++ bang)).1, A2, c2, by omega, by go_num, HNX, Lib.hid (StB.put _ _ _ _), HSx, HSTx, HXx, HFx, hWs, hszx⟩
      case measure => simp [Lib.intOf]; omega
    · refine stage_step (S := fun (L' : Array Bool) (w' : World) => Box w' sb [.slice SA x.1.length sc, .int .i64 x.2] ∧ w'.cell? ⟨bL, oL + j, none⟩ = some (.string key)) (o := { dst := some 6, op := Go.Op.alloc 27, type := 0, pos := "law.go:53", after := #[], guard := none }) (by rfl) (fun K2 hK => ?_)
      go_simp
      clear hS0
      have hwt6 : w.heap.size ≤ wd.heap.size := HF.out.size
      have hal : Below wd.heap.size wd (wd.alloc (.cells #[.slice none 0 0, .int .i64 0] 27)) := (Below.refl _ _).alloc (Nat.le_refl _) _
      have HT := Lib.hid (Box.new wd #[.slice none 0 0, .int .i64 0] 27)
      replace HS := Lib.hid (HS.out.step hal)
      replace HX := Lib.hid (HX.out.step hal)
      replace HF := Lib.hid (below_step' HF.out hal)
      replace HCL := Lib.hid ((hal.cell (World.block_lt_of_cell? _ _ HCL.out)).trans HCL.out)
      replace HST := Lib.hid (HST.out.below hal)
      have ht6' : wd.heap.size < (wd.alloc (.cells #[.slice none 0 0, .int .i64 0] 27)).heap.size := by simp
      have hst6 : sb < wd.heap.size := hsbd
      have hsbW := Nat.lt_of_lt_of_le hsbd hal.size
      clear hal
      generalize wd.alloc (.cells #[.slice none 0 0, .int .i64 0] 27) = w4 at *
      generalize ht6e : wd.heap.size = t6 at *
      have HT6E := Lib.hid ht6e
      clear ht6e
      have hS0 : Box w4 sb [.slice SA x.1.length sc, .int .i64 x.2] ∧ w4.cell? ⟨bL, oL + j, none⟩ = some (.string key) := ⟨HS.out, HCL.out⟩
      refine hK.out _ _ (hS0) ?_
      clear hK K2
      try simp only [Act.put, List.setIfInBounds_toArray, List.set_cons_zero, List.set_cons_succ]
      refine stage_all (rs := [10]) (by kernel_rfl) (by simp) (fun i0 hi0 => ?_)
      obtain rfl : i0 = 10 := by simpa using hi0
      refine stage_step (S := fun (L' : Array Bool) (w' : World) => Box w' sb [.slice SA x.1.length sc, .int .i64 x.2] ∧ w'.cell? ⟨bL, oL + j, none⟩ = some (.string key)) (o := { dst := some 30, op := Go.Op.call { callee := Go.Callee.value (Go.Operand.func 9), args := #[Go.Operand.tmp 20, Go.Operand.tmp 24, Go.Operand.tmp 29], argTypes := #[27, 9, 9] }, type := 30, pos := "law.go:53", after := #[{ on := 0, ground := Go.Ground.data }, { on := 4, ground := Go.Ground.data }, { on := 9, ground := Go.Ground.data }], guard := none }) (by rfl) (fun K2 hK => ?_)
      go_simp
      clear hS0
      go_wp2_with fail
      refine (HPUT.out w4 M HST.out).mono ?_
      rintro e w5 ⟨v, rfl, hst, hb⟩
      replace HS := Lib.hid (HS.out.step hb)
      replace HX := Lib.hid (HX.out.step hb)
      replace HF := Lib.hid (below_step' HF.out hb)
      replace HCL := Lib.hid ((hb.cell (World.block_lt_of_cell? _ _ HCL.out)).trans HCL.out)
      replace HT := Lib.hid (HT.out.step hb)
      have hK5 := Kept.refl w5.heap.size (fun k => k < w4.heap.size) w5
      have HK5 := Lib.hid hK5
      have hWs : sb < w4.heap.size := hsbW
      have hVs := hb.size
      clear hb HST hK5
      obtain ⟨A2, c2, rfl, hst1, hst2⟩ := hst
      have HST : Hid (StAt w5 w4.heap.size (.agg #[.slice A2 (putS x.1 x.2 key (key ++ bang)).1.1.length c2, .int .i64 (putS x.1 x.2 key (key ++ bang)).1.2]) (putS x.1 x.2 key (key ++ bang)).1) := Lib.hid ⟨A2, c2, rfl, hst1, hst2⟩
      clear hst1 hst2
      have hS0 : Box w5 sb [.slice SA x.1.length sc, .int .i64 x.2] ∧ w5.cell? ⟨bL, oL + j, none⟩ = some (.string key) := ⟨HS.out, HCL.out⟩
      refine hK.out _ _ (hS0) ?_
      clear hK K2
      try simp only [Act.put, List.setIfInBounds_toArray, List.set_cons_zero, List.set_cons_succ]
      refine stage_take (i := 11) (oi := { dst := some 19, op := Go.Op.move (Go.Operand.tmp 30), type := 30, pos := "law.go:53", after := #[{ on := 10, ground := Go.Ground.data }], guard := none }) (v := ?_) (T := fun _ => True) rfl (by kernel_rfl) (by kernel_rfl) (by kernel_rfl) (by kernel_rfl) (fun _ _ _ h => h) (fun L' w' hW hS => trivial) (fun L' w' hS => hS) (Or.inl ⟨by rfl, ?_⟩) trivial (hS0) ?_
      rotate_left 1
      · intro w9 _; go_simp; (try with_reducible rfl)
      try simp only [Act.put, List.setIfInBounds_toArray, List.set_cons_zero, List.set_cons_succ]
      refine stage_take (i := 12) (oi := { dst := some 31, op := Go.Op.extract (Go.Operand.tmp 19) 0, type := 27, pos := "law.go:53", after := #[{ on := 11, ground := Go.Ground.data }], guard := none }) (v := ?_) (T := fun _ => True) rfl (by kernel_rfl) (by kernel_rfl) (by kernel_rfl) (by kernel_rfl) (fun _ _ _ h => h) (fun L' w' hW hS => trivial) (fun L' w' hS => hS) (Or.inl ⟨by rfl, ?_⟩) trivial (hS0) ?_
      rotate_left 1
      · intro w9 _; go_simp; (try with_reducible rfl)
      try simp only [Act.put, List.setIfInBounds_toArray, List.set_cons_zero, List.set_cons_succ]
      refine stage_take (i := 13) (oi := { dst := some 32, op := Go.Op.extract (Go.Operand.tmp 19) 1, type := 29, pos := "law.go:53", after := #[{ on := 11, ground := Go.Ground.data }, { on := 15, ground := Go.Ground.gcOnly Go.Departure.lateStores }], guard := none }) (v := ?_) (T := fun _ => True) rfl (by kernel_rfl) (by kernel_rfl) (by kernel_rfl) (by kernel_rfl) (fun _ _ _ h => h) (fun L' w' hW hS => trivial) (fun L' w' hS => hS) (Or.inl ⟨by rfl, ?_⟩) trivial (hS0) ?_
      rotate_left 1
      · intro w9 _; go_simp; (try with_reducible rfl)
      try simp only [Act.put, List.setIfInBounds_toArray, List.set_cons_zero, List.set_cons_succ]
      have ht6 : w5.heap.size ≤ t6 ∨ t6 < w4.heap.size := .inr ht6'
      have hsz6 : w4.heap.size ≤ w5.heap.size := hVs
      clear hS0
      have cHT0 := HT.out.c 0 _ rfl; have fHT0 := HT.out.f 0 (by simp); have cHT1 := HT.out.c 1 _ rfl; have fHT1 := HT.out.f 1 (by simp); have lHT := HT.out.lt
      refine stage_all (rs := [15]) (by kernel_rfl) (by simp) (fun i0 hi0 => ?_)
      obtain rfl : i0 = 15 := by simpa using hi0
      refine stage_step (S := fun (L' : Array Bool) (w' : World) => Box w' sb [.slice SA x.1.length sc, .int .i64 x.2] ∧ w'.cell? ⟨bL, oL + j, none⟩ = some (.string key)) (o := { dst := none, op := Go.Op.store 27 (Go.Operand.tmp 6) (Go.Operand.tmp 31), type := 0, pos := "law.go:53", after := #[{ on := 14, ground := Go.Ground.data }, { on := 12, ground := Go.Ground.data }, { on := 10, ground := Go.Ground.chain }, { on := 0, ground := Go.Ground.phase }, { on := 1, ground := Go.Ground.phase }, { on := 2, ground := Go.Ground.phase }, { on := 3, ground := Go.Ground.phase }, { on := 4, ground := Go.Ground.phase }, { on := 5, ground := Go.Ground.phase }, { on := 6, ground := Go.Ground.phase }, { on := 7, ground := Go.Ground.phase }, { on := 8, ground := Go.Ground.phase }, { on := 9, ground := Go.Ground.phase }, { on := 10, ground := Go.Ground.phase }, { on := 11, ground := Go.Ground.phase }, { on := 12, ground := Go.Ground.phase }, { on := 13, ground := Go.Ground.textOnly Go.Departure.lateStores }, { on := 14, ground := Go.Ground.phase }], guard := none }) (by rfl) (fun K2 hK => ?_)
      go_simp
      clear cHT0 fHT0 cHT1 fHT1 lHT
      have hT9 := (HT.out.set 0 (.slice A2 (putS x.1 x.2 key (key ++ bang)).1.1.length c2) (by simp)).set 1 (.int .i64 (putS x.1 x.2 key (key ++ bang)).1.2) (by simp)
      have HT9 : Hid (Box ((w5.setCell ⟨t6, 0, none⟩ (.slice A2 (putS x.1 x.2 key (key ++ bang)).1.1.length c2)).setCell ⟨t6, 1, none⟩ (.int .i64 (putS x.1 x.2 key (key ++ bang)).1.2)) t6 [.slice A2 (putS x.1 x.2 key (key ++ bang)).1.1.length c2, .int .i64 (putS x.1 x.2 key (key ++ bang)).1.2]) := Lib.hid hT9
      replace HS := Lib.hid ((HS.out.other ⟨t6, 0, none⟩ (.slice A2 (putS x.1 x.2 key (key ++ bang)).1.1.length c2) (by simp; omega)).other ⟨t6, 1, none⟩ (.int .i64 (putS x.1 x.2 key (key ++ bang)).1.2) (by simp; omega))
      replace HX := Lib.hid ((HX.out.other ⟨t6, 0, none⟩ (.slice A2 (putS x.1 x.2 key (key ++ bang)).1.1.length c2) (by simp; omega)).other ⟨t6, 1, none⟩ (.int .i64 (putS x.1 x.2 key (key ++ bang)).1.2) (by simp; omega))
      replace HF := Lib.hid ((HF.out.setCell (p := ⟨t6, 0, none⟩) (by simp; omega) (.slice A2 (putS x.1 x.2 key (key ++ bang)).1.1.length c2)).setCell (p := ⟨t6, 1, none⟩) (by simp; omega) (.int .i64 (putS x.1 x.2 key (key ++ bang)).1.2))
      replace HK5 := Lib.hid ((HK5.out.set ⟨t6, 0, none⟩ (.slice A2 (putS x.1 x.2 key (key ++ bang)).1.1.length c2) ht6).set ⟨t6, 1, none⟩ (.int .i64 (putS x.1 x.2 key (key ++ bang)).1.2) ht6)
      have hkz : Kept w5.heap.size (fun k => k = t6) w5 ((w5.setCell ⟨t6, 0, none⟩ (.slice A2 (putS x.1 x.2 key (key ++ bang)).1.1.length c2)).setCell ⟨t6, 1, none⟩ (.int .i64 (putS x.1 x.2 key (key ++ bang)).1.2)) := ((Kept.refl _ (fun k => k = t6) w5).set ⟨t6, 0, none⟩ (.slice A2 (putS x.1 x.2 key (key ++ bang)).1.1.length c2) (.inr rfl)).set ⟨t6, 1, none⟩ (.int .i64 (putS x.1 x.2 key (key ++ bang)).1.2) (.inr rfl)
      have HCL9 := Lib.hid ((hkz.cell (World.block_lt_of_cell? _ _ HCL.out) (by simp only; omega)).trans HCL.out)
      replace hsz6 := Nat.le_trans hsz6 hkz.size
      clear hT9 HT HCL hkz
      generalize ((w5.setCell ⟨t6, 0, none⟩ (.slice A2 (putS x.1 x.2 key (key ++ bang)).1.1.length c2)).setCell ⟨t6, 1, none⟩ (.int .i64 (putS x.1 x.2 key (key ++ bang)).1.2)) = wz at *
      have hSz : Box wz sb [.slice SA x.1.length sc, .int .i64 x.2] ∧ wz.cell? ⟨bL, oL + j, none⟩ = some (.string key) := ⟨HS.out, HCL9.out⟩
      refine hK.out _ _ (hSz) ?_
      clear hK K2
      try simp only [Act.put, List.setIfInBounds_toArray, List.set_cons_zero, List.set_cons_succ]
      refine stage_all (rs := [16]) (by kernel_rfl) (by simp) (fun i0 hi0 => ?_)
      obtain rfl : i0 = 16 := by simpa using hi0
      refine stage_step (S := fun (L' : Array Bool) (w' : World) => Box w' sb [.slice SA x.1.length sc, .int .i64 x.2] ∧ w'.cell? ⟨bL, oL + j, none⟩ = some (.string key)) (o := { dst := some 7, op := Go.Op.assign (Go.Operand.tmp 32), type := 29, pos := "law.go:53", after := #[{ on := 13, ground := Go.Ground.data }, { on := 15, ground := Go.Ground.chain }, { on := 0, ground := Go.Ground.phase }, { on := 1, ground := Go.Ground.phase }, { on := 2, ground := Go.Ground.phase }, { on := 3, ground := Go.Ground.phase }, { on := 4, ground := Go.Ground.phase }, { on := 5, ground := Go.Ground.phase }, { on := 6, ground := Go.Ground.phase }, { on := 7, ground := Go.Ground.phase }, { on := 8, ground := Go.Ground.phase }, { on := 9, ground := Go.Ground.phase }, { on := 10, ground := Go.Ground.phase }, { on := 11, ground := Go.Ground.phase }, { on := 12, ground := Go.Ground.phase }, { on := 13, ground := Go.Ground.phase }, { on := 14, ground := Go.Ground.phase }, { on := 15, ground := Go.Ground.phase }], guard := none }) (by rfl) (fun K2 hK => ?_)
      go_simp
      refine hK.out _ _ (hSz) ?_
      clear hK K2
      try simp only [Act.put, List.setIfInBounds_toArray, List.set_cons_zero, List.set_cons_succ]
      refine stage_done (by kernel_rfl) ?_ _
      clear hSz HCL9
      have cHT90 := HT9.out.c 0 _ rfl; have fHT90 := HT9.out.f 0 (by simp); have cHT91 := HT9.out.c 1 _ rfl; have fHT91 := HT9.out.f 1 (by simp); have lHT9 := HT9.out.lt; have cHS0 := HS.out.c 0 _ rfl; have fHS0 := HS.out.f 0 (by simp); have cHS1 := HS.out.c 1 _ rfl; have fHS1 := HS.out.f 1 (by simp); have lHS := HS.out.lt
      go_wp2_with (go_at_call 13; (with_reducible refine (num_any _ _).mono ?_); rintro e w' ⟨rfl, rfl⟩)
      clear cHT90 fHT90 cHT91 fHT91 lHT9; clear cHS0 fHS0 cHS1 fHS1 lHS
      have hSx := (HS.out.set 0 (.slice A2 (putS x.1 x.2 key (key ++ bang)).1.1.length c2) (by simp)).set 1 (.int .i64 (putS x.1 x.2 key (key ++ bang)).1.2) (by simp)
      have HSx : Hid (Box ((wz.setCell ⟨sb, 0, none⟩ (.slice A2 (putS x.1 x.2 key (key ++ bang)).1.1.length c2)).setCell ⟨sb, 1, none⟩ (.int .i64 (putS x.1 x.2 key (key ++ bang)).1.2)) sb [.slice A2 (putS x.1 x.2 key (key ++ bang)).1.1.length c2, .int .i64 (putS x.1 x.2 key (key ++ bang)).1.2]) := Lib.hid hSx
      have HXx := Lib.hid ((HX.out.other ⟨sb, 0, none⟩ (.slice A2 (putS x.1 x.2 key (key ++ bang)).1.1.length c2) (by simp; omega)).other ⟨sb, 1, none⟩ (.int .i64 (putS x.1 x.2 key (key ++ bang)).1.2) (by simp; omega))
      have HFx := Lib.hid ((HF.out.setCell (p := ⟨sb, 0, none⟩) (by simp; omega) (.slice A2 (putS x.1 x.2 key (key ++ bang)).1.1.length c2)).setCell (p := ⟨sb, 1, none⟩) (by simp; omega) (.int .i64 (putS x.1 x.2 key (key ++ bang)).1.2))
      have HSTx := Lib.hid (HST.out.kept ((HK5.out.set ⟨sb, 0, none⟩ (.slice A2 (putS x.1 x.2 key (key ++ bang)).1.1.length c2) (.inr hWs)).set ⟨sb, 1, none⟩ (.int .i64 (putS x.1 x.2 key (key ++ bang)).1.2) (.inr hWs)) (fun k hk => hk))
      have hszx : w4.heap.size ≤ ((wz.setCell ⟨sb, 0, none⟩ (.slice A2 (putS x.1 x.2 key (key ++ bang)).1.1.length c2)).setCell ⟨sb, 1, none⟩ (.int .i64 (putS x.1 x.2 key (key ++ bang)).1.2)).heap.size := by simp; omega
      clear hSx HS HX HF HST HK5 HT9
      generalize ((wz.setCell ⟨sb, 0, none⟩ (.slice A2 (putS x.1 x.2 key (key ++ bang)).1.1.length c2)).setCell ⟨sb, 1, none⟩ (.int .i64 (putS x.1 x.2 key (key ++ bang)).1.2)) = wy at *
      go_roundw
      case rel => exact ⟨j + 1, w4.heap.size, (putS x.1 x.2 key (key ++ bang)).1, A2, c2, by omega, by go_num, HNX, Lib.hid (StB.put _ _ _ _), HSx, HSTx, HXx, HFx, hWs, hszx⟩
      case measure => simp [Lib.intOf]; omega
  · obtain rfl : j = l.length := by omega
    have hNl : w.heap.size < M := by omega
    have cHS0 := HS.out.c 0 _ rfl; have fHS0 := HS.out.f 0 (by simp); have cHS1 := HS.out.c 1 _ rfl; have fHS1 := HS.out.f 1 (by simp); have lHS := HS.out.lt; have cHX0 := HX.out.c 0 _ rfl; have fHX0 := HX.out.f 0 (by simp); have cHX1 := HX.out.c 1 _ rfl; have fHX1 := HX.out.f 1 (by simp); have lHX := HX.out.lt
    go_wp2
    clear cHS0 fHS0 cHS1 fHS1 lHS; clear cHX0 fHX0 cHX1 fHX1 lHX
    have hX9 := (HX.out.set 0 (.slice SA x.1.length sc) (by simp)).set 1 (.int .i64 x.2) (by simp)
    have hF9 := (HF.out.setCell (p := ⟨w.heap.size, 0, none⟩) (Nat.le_refl _) (.slice SA x.1.length sc)).setCell (p := ⟨w.heap.size, 1, none⟩) (Nat.le_refl _) (.int .i64 x.2)
    have hS9 := (HST.out.kept (((Kept.refl _ (fun k => k = w.heap.size) wr).set ⟨w.heap.size, 0, none⟩ (.slice SA x.1.length sc) (.inr rfl)).set ⟨w.heap.size, 1, none⟩ (.int .i64 x.2) (.inr rfl)) (fun k hk => by omega)).mono (Nat.le_of_lt hNl)
    generalize ((wr.setCell ⟨w.heap.size, 0, none⟩ (.slice SA x.1.length sc)).setCell ⟨w.heap.size, 1, none⟩ (.int .i64 x.2)) = wz at *
    have z0 := hX9.c 0 _ rfl
    have z1 := hX9.c 1 _ rfl
    have hfx := HFX.out
    refine bodyPost_ret (by simp [results, Try.results34, go_sem, z0, z1]; rfl) rfl ?_
    rw [hfx]
    exact ⟨_, rfl, hS9, hF9⟩
end Go.Proofs.Ytkecbghnapjecaa
