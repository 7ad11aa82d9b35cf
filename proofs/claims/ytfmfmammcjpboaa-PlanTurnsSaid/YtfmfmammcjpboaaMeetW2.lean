/- plan.Meet. -/
import Derived.Test.YtfmfmammcjpboaaMeetW
import Derived.Test.YtfmfmammcjpboaaStage
import Derived.Test.YtfmfmammcjpboaaPuts
namespace Go.Proofs.Ytfmfmammcjpboaa
open Go.RowKit
set_option linter.unusedVariables false
set_option linter.unusedSimpArgs false
def noB : Bd := ⟨false, ⟨0, 0, nos⟩, false⟩
def meetP (a b : Pl) : Pl :=
  let lo := innB a.lo b.lo 1
  let hi := innB a.hi b.hi (-1)
  let c := vorder lo.v hi.v
  if (a.emp || b.emp) || (!lo.op && !hi.op && (decide (0 < c) || (decide (c = 0) && !(lo.inn && hi.inn)))) then ⟨a.ix, noB, noB, true⟩ else ⟨a.ix, lo, hi, false⟩
set_option maxHeartbeats 8000000 in
set_option maxRecDepth 100000 in
theorem meet_any (ax : Int) (alo : Bool) (alk : Int) (aln : Int) (als : ByteArray) (ali : Bool) (aho : Bool) (ahk : Int) (ahn : Int) (ahs : ByteArray) (ahi : Bool) (ae : Bool) (bx : Int) (blo : Bool) (blk : Int) (bln : Int) (bls : ByteArray) (bli : Bool) (bho : Bool) (bhk : Int) (bhn : Int) (bhs : ByteArray) (bhi : Bool) (be : Bool) (w : World) :
    Calls Try.prog 15 #[.agg #[.int .i64 ax, .bool alo, .int .i64 alk, .int .i64 aln, .string als, .bool ali, .bool aho, .int .i64 ahk, .int .i64 ahn, .string ahs, .bool ahi, .bool ae], .agg #[.int .i64 bx, .bool blo, .int .i64 blk, .int .i64 bln, .string bls, .bool bli, .bool bho, .int .i64 bhk, .int .i64 bhn, .string bhs, .bool bhi, .bool be]] w fun e w' => e = .returned (aggP (meetP ⟨ax, ⟨alo, ⟨alk, aln, als⟩, ali⟩, ⟨aho, ⟨ahk, ahn, ahs⟩, ahi⟩, ae⟩ ⟨bx, ⟨blo, ⟨blk, bln, bls⟩, bli⟩, ⟨bho, ⟨bhk, bhn, bhs⟩, bhi⟩, be⟩)) ∧ Below w.heap.size w w' := by
  have HA := Lib.hid (((Box.new w #[.int .i64 ax, .bool alo, .int .i64 alk, .int .i64 aln, .string als, .bool ali, .bool aho, .int .i64 ahk, .int .i64 ahn, .string ahs, .bool ahi, .bool ae] 32).alloc (.cells #[.int .i64 bx, .bool blo, .int .i64 blk, .int .i64 bln, .string bls, .bool bli, .bool bho, .int .i64 bhk, .int .i64 bhn, .string bhs, .bool bhi, .bool be] 32)).alloc (.cells #[.int .i64 0, .bool false, .int .i64 0, .int .i64 0, .string ⟨#[]⟩, .bool false, .bool false, .int .i64 0, .int .i64 0, .string ⟨#[]⟩, .bool false, .bool false] 32))
  have HB := Lib.hid ((Box.new (w.alloc (.cells #[.int .i64 ax, .bool alo, .int .i64 alk, .int .i64 aln, .string als, .bool ali, .bool aho, .int .i64 ahk, .int .i64 ahn, .string ahs, .bool ahi, .bool ae] 32)) #[.int .i64 bx, .bool blo, .int .i64 blk, .int .i64 bln, .string bls, .bool bli, .bool bho, .int .i64 bhk, .int .i64 bhn, .string bhs, .bool bhi, .bool be] 32).alloc (.cells #[.int .i64 0, .bool false, .int .i64 0, .int .i64 0, .string ⟨#[]⟩, .bool false, .bool false, .int .i64 0, .int .i64 0, .string ⟨#[]⟩, .bool false, .bool false] 32))
  have HR := Lib.hid (Box.new ((w.alloc (.cells #[.int .i64 ax, .bool alo, .int .i64 alk, .int .i64 aln, .string als, .bool ali, .bool aho, .int .i64 ahk, .int .i64 ahn, .string ahs, .bool ahi, .bool ae] 32)).alloc (.cells #[.int .i64 bx, .bool blo, .int .i64 blk, .int .i64 bln, .string bls, .bool bli, .bool bho, .int .i64 bhk, .int .i64 bhn, .string bhs, .bool bhi, .bool be] 32)) #[.int .i64 0, .bool false, .int .i64 0, .int .i64 0, .string ⟨#[]⟩, .bool false, .bool false, .int .i64 0, .int .i64 0, .string ⟨#[]⟩, .bool false, .bool false] 32)
  have HF : Hid (Below w.heap.size w (((w.alloc (.cells #[.int .i64 ax, .bool alo, .int .i64 alk, .int .i64 aln, .string als, .bool ali, .bool aho, .int .i64 ahk, .int .i64 ahn, .string ahs, .bool ahi, .bool ae] 32)).alloc (.cells #[.int .i64 bx, .bool blo, .int .i64 blk, .int .i64 bln, .string bls, .bool bli, .bool bho, .int .i64 bhk, .int .i64 bhn, .string bhs, .bool bhi, .bool be] 32)).alloc (.cells #[.int .i64 0, .bool false, .int .i64 0, .int .i64 0, .string ⟨#[]⟩, .bool false, .bool false, .int .i64 0, .int .i64 0, .string ⟨#[]⟩, .bool false, .bool false] 32))) := Lib.hid (by (repeat (first | (with_reducible exact Below.refl _ _) | apply below_alloc _ (Nat.le_refl _) | refine below_set ?_ (by first | exact Nat.le_refl _ | omega) | apply below_drewN | refine below_step ?_ HB)))
  simp only [World.size_alloc] at HB HR
  have hlo := fun W => inner_any alo alk aln als ali blo blk bln bls bli 1 (.inl rfl) W
  have hhi := fun W => inner_any aho ahk ahn ahs ahi bho bhk bhn bhs bhi (-1) (.inr rfl) W
  have hv : meetP ⟨ax, ⟨alo, ⟨alk, aln, als⟩, ali⟩, ⟨aho, ⟨ahk, ahn, ahs⟩, ahi⟩, ae⟩ ⟨bx, ⟨blo, ⟨blk, bln, bls⟩, bli⟩, ⟨bho, ⟨bhk, bhn, bhs⟩, bhi⟩, be⟩ = if (ae || be) || (!(innB ⟨alo, ⟨alk, aln, als⟩, ali⟩ ⟨blo, ⟨blk, bln, bls⟩, bli⟩ 1).op && !(innB ⟨aho, ⟨ahk, ahn, ahs⟩, ahi⟩ ⟨bho, ⟨bhk, bhn, bhs⟩, bhi⟩ (-1)).op && (decide (0 < vorder (innB ⟨alo, ⟨alk, aln, als⟩, ali⟩ ⟨blo, ⟨blk, bln, bls⟩, bli⟩ 1).v (innB ⟨aho, ⟨ahk, ahn, ahs⟩, ahi⟩ ⟨bho, ⟨bhk, bhn, bhs⟩, bhi⟩ (-1)).v) || (decide (vorder (innB ⟨alo, ⟨alk, aln, als⟩, ali⟩ ⟨blo, ⟨blk, bln, bls⟩, bli⟩ 1).v (innB ⟨aho, ⟨ahk, ahn, ahs⟩, ahi⟩ ⟨bho, ⟨bhk, bhn, bhs⟩, bhi⟩ (-1)).v = 0) && !((innB ⟨alo, ⟨alk, aln, als⟩, ali⟩ ⟨blo, ⟨blk, bln, bls⟩, bli⟩ 1).inn && (innB ⟨aho, ⟨ahk, ahn, ahs⟩, ahi⟩ ⟨bho, ⟨bhk, bhn, bhs⟩, bhi⟩ (-1)).inn)))) then ⟨ax, noB, noB, true⟩ else ⟨ax, innB ⟨alo, ⟨alk, aln, als⟩, ali⟩ ⟨blo, ⟨blk, bln, bls⟩, bli⟩ 1, innB ⟨aho, ⟨ahk, ahn, ahs⟩, ahi⟩ ⟨bho, ⟨bhk, bhn, bhs⟩, bhi⟩ (-1), false⟩ := rfl
  rw [hv]
  clear hv
  unfold aggB at hlo hhi
  dsimp only at hlo hhi
  generalize innB ⟨alo, ⟨alk, aln, als⟩, ali⟩ ⟨blo, ⟨blk, bln, bls⟩, bli⟩ 1 = lo at *
  generalize innB ⟨aho, ⟨ahk, ahn, ahs⟩, ahi⟩ ⟨bho, ⟨bhk, bhn, bhs⟩, bhi⟩ (-1) = hi at *
  generalize hRe : (if (ae || be) || (!lo.op && !hi.op && (decide (0 < vorder lo.v hi.v) || (decide (vorder lo.v hi.v = 0) && !(lo.inn && hi.inn)))) then (⟨ax, noB, noB, true⟩ : Pl) else ⟨ax, lo, hi, false⟩) = R at *
  have HRR := Lib.hid hRe
  clear hRe
  go_enter Try.func15, Try.ntmps15
  go_wp2_with fail
  generalize ((w.alloc (.cells #[.int .i64 ax, .bool alo, .int .i64 alk, .int .i64 aln, .string als, .bool ali, .bool aho, .int .i64 ahk, .int .i64 ahn, .string ahs, .bool ahi, .bool ae] 32)).alloc (.cells #[.int .i64 bx, .bool blo, .int .i64 blk, .int .i64 bln, .string bls, .bool bli, .bool bho, .int .i64 bhk, .int .i64 bhn, .string bhs, .bool bhi, .bool be] 32)).alloc (.cells #[.int .i64 0, .bool false, .int .i64 0, .int .i64 0, .string ⟨#[]⟩, .bool false, .bool false, .int .i64 0, .int .i64 0, .string ⟨#[]⟩, .bool false, .bool false] 32) = w3 at *
  go_cut [5] (fun p wx => ∃ g, p = .pointer (some ⟨g, 0, none⟩) ∧ Hid (Box wx g [.int .i64 ax, .bool lo.op, .int .i64 lo.v.k, .int .i64 lo.v.n, .string lo.v.s, .bool lo.inn, .bool hi.op, .int .i64 hi.v.k, .int .i64 hi.v.n, .string hi.v.s, .bool hi.inn, .bool (ae || be)]) ∧ w.heap.size + 3 ≤ g ∧ Hid (Box wx w.heap.size [.int .i64 ax, .bool alo, .int .i64 alk, .int .i64 aln, .string als, .bool ali, .bool aho, .int .i64 ahk, .int .i64 ahn, .string ahs, .bool ahi, .bool ae]) ∧ Hid (Box wx (w.heap.size + 1 + 1) [.int .i64 0, .bool false, .int .i64 0, .int .i64 0, .string ⟨#[]⟩, .bool false, .bool false, .int .i64 0, .int .i64 0, .string ⟨#[]⟩, .bool false, .bool false]) ∧ Hid (Below w.heap.size w wx))
  case first =>
    cases ae
    · refine stage_begin (S := fun (L' : Array Bool) (w' : World) => (Box w' w.heap.size [.int .i64 ax, .bool alo, .int .i64 alk, .int .i64 aln, .string als, .bool ali, .bool aho, .int .i64 ahk, .int .i64 ahn, .string ahs, .bool ahi, .bool false]) ∧ (Box w' (w.heap.size + 1) [.int .i64 bx, .bool blo, .int .i64 blk, .int .i64 bln, .string bls, .bool bli, .bool bho, .int .i64 bhk, .int .i64 bhn, .string bhs, .bool bhi, .bool be])) (by kernel_rfl) ?_
      replace HA := Lib.hid HA.out.drew
      replace HB := Lib.hid HB.out.drew
      replace HR := Lib.hid HR.out.drew
      replace HF : Hid (Below w.heap.size w w3.drew) := Lib.hid (below_drewN HF.out 1)
      generalize w3.drew = wd at *
      have hS0 : (fun w' : World => (Box w' w.heap.size [.int .i64 ax, .bool alo, .int .i64 alk, .int .i64 aln, .string als, .bool ali, .bool aho, .int .i64 ahk, .int .i64 ahn, .string ahs, .bool ahi, .bool false]) ∧ (Box w' (w.heap.size + 1) [.int .i64 bx, .bool blo, .int .i64 blk, .int .i64 bln, .string bls, .bool bli, .bool bho, .int .i64 bhk, .int .i64 bhn, .string bhs, .bool bhi, .bool be])) wd := ⟨HA.out, HB.out⟩
      refine stage_take (i := 0) (oi := { dst := some 7, op := Go.Op.fieldAddr 32 (Go.Operand.tmp 2) 0, type := 0, pos := "plan.go:58", after := #[], guard := none }) (v := ?_) (T := fun _ => True) rfl (by kernel_rfl) (by kernel_rfl) (by kernel_rfl) (by kernel_rfl) (fun _ _ _ h => h) (fun L' w' hW hS => trivial) (fun L' w' hS => hS) (Or.inl ⟨by rfl, ?_⟩) trivial (hS0) ?_
      rotate_left 1
      · intro w9 _; go_simp; (try with_reducible rfl)
      try simp only [Act.put, List.setIfInBounds_toArray, List.set_cons_zero, List.set_cons_succ]
      refine stage_take (i := 1) (oi := { dst := some 8, op := Go.Op.load 3 (Go.Operand.tmp 7), type := 3, pos := "plan.go:58", after := #[{ on := 0, ground := Go.Ground.data }], guard := none }) (v := ?_) (T := fun w' : World => (Box w' w.heap.size [.int .i64 ax, .bool alo, .int .i64 alk, .int .i64 aln, .string als, .bool ali, .bool aho, .int .i64 ahk, .int .i64 ahn, .string ahs, .bool ahi, .bool false]) ∧ (Box w' (w.heap.size + 1) [.int .i64 bx, .bool blo, .int .i64 blk, .int .i64 bln, .string bls, .bool bli, .bool bho, .int .i64 bhk, .int .i64 bhn, .string bhs, .bool bhi, .bool be])) rfl (by kernel_rfl) (by kernel_rfl) (by kernel_rfl) (by kernel_rfl) (fun _ _ _ h => h) (fun L' w' hW hS => hS) (fun L' w' hS => hS) (Or.inl ⟨by rfl, ?_⟩) (hS0) (hS0) ?_
      rotate_left 1
      · intro w9 hS9; obtain ⟨zA, zB⟩ := hS9; have zA0 := zA.c 0 _ rfl; have zB0 := zB.c 0 _ rfl; have zA1 := zA.c 1 _ rfl; have zB1 := zB.c 1 _ rfl; have zA2 := zA.c 2 _ rfl; have zB2 := zB.c 2 _ rfl; have zA3 := zA.c 3 _ rfl; have zB3 := zB.c 3 _ rfl; have zA4 := zA.c 4 _ rfl; have zB4 := zB.c 4 _ rfl; have zA5 := zA.c 5 _ rfl; have zB5 := zB.c 5 _ rfl; have zA6 := zA.c 6 _ rfl; have zB6 := zB.c 6 _ rfl; have zA7 := zA.c 7 _ rfl; have zB7 := zB.c 7 _ rfl; have zA8 := zA.c 8 _ rfl; have zB8 := zB.c 8 _ rfl; have zA9 := zA.c 9 _ rfl; have zB9 := zB.c 9 _ rfl; have zA10 := zA.c 10 _ rfl; have zB10 := zB.c 10 _ rfl; have zA11 := zA.c 11 _ rfl; have zB11 := zB.c 11 _ rfl; clear zA zB; go_simp; (try with_reducible rfl)
      try simp only [Act.put, List.setIfInBounds_toArray, List.set_cons_zero, List.set_cons_succ]
      refine stage_take (i := 2) (oi := { dst := some 9, op := Go.Op.fieldAddr 32 (Go.Operand.tmp 2) 1, type := 0, pos := "plan.go:58", after := #[], guard := none }) (v := ?_) (T := fun _ => True) rfl (by kernel_rfl) (by kernel_rfl) (by kernel_rfl) (by kernel_rfl) (fun _ _ _ h => h) (fun L' w' hW hS => trivial) (fun L' w' hS => hS) (Or.inl ⟨by rfl, ?_⟩) trivial (hS0) ?_
      rotate_left 1
      · intro w9 _; go_simp; (try with_reducible rfl)
      try simp only [Act.put, List.setIfInBounds_toArray, List.set_cons_zero, List.set_cons_succ]
      refine stage_take (i := 3) (oi := { dst := some 10, op := Go.Op.load 30 (Go.Operand.tmp 9), type := 30, pos := "plan.go:58", after := #[{ on := 2, ground := Go.Ground.data }], guard := none }) (v := ?_) (T := fun w' : World => (Box w' w.heap.size [.int .i64 ax, .bool alo, .int .i64 alk, .int .i64 aln, .string als, .bool ali, .bool aho, .int .i64 ahk, .int .i64 ahn, .string ahs, .bool ahi, .bool false]) ∧ (Box w' (w.heap.size + 1) [.int .i64 bx, .bool blo, .int .i64 blk, .int .i64 bln, .string bls, .bool bli, .bool bho, .int .i64 bhk, .int .i64 bhn, .string bhs, .bool bhi, .bool be])) rfl (by kernel_rfl) (by kernel_rfl) (by kernel_rfl) (by kernel_rfl) (fun _ _ _ h => h) (fun L' w' hW hS => hS) (fun L' w' hS => hS) (Or.inl ⟨by rfl, ?_⟩) (hS0) (hS0) ?_
      rotate_left 1
      · intro w9 hS9; obtain ⟨zA, zB⟩ := hS9; have zA0 := zA.c 0 _ rfl; have zB0 := zB.c 0 _ rfl; have zA1 := zA.c 1 _ rfl; have zB1 := zB.c 1 _ rfl; have zA2 := zA.c 2 _ rfl; have zB2 := zB.c 2 _ rfl; have zA3 := zA.c 3 _ rfl; have zB3 := zB.c 3 _ rfl; have zA4 := zA.c 4 _ rfl; have zB4 := zB.c 4 _ rfl; have zA5 := zA.c 5 _ rfl; have zB5 := zB.c 5 _ rfl; have zA6 := zA.c 6 _ rfl; have zB6 := zB.c 6 _ rfl; have zA7 := zA.c 7 _ rfl; have zB7 := zB.c 7 _ rfl; have zA8 := zA.c 8 _ rfl; have zB8 := zB.c 8 _ rfl; have zA9 := zA.c 9 _ rfl; have zB9 := zB.c 9 _ rfl; have zA10 := zA.c 10 _ rfl; have zB10 := zB.c 10 _ rfl; have zA11 := zA.c 11 _ rfl; have zB11 := zB.c 11 _ rfl; clear zA zB; go_simp; (try with_reducible rfl)
      try simp only [Act.put, List.setIfInBounds_toArray, List.set_cons_zero, List.set_cons_succ]
      refine stage_take (i := 4) (oi := { dst := some 11, op := Go.Op.fieldAddr 32 (Go.Operand.tmp 3) 1, type := 0, pos := "plan.go:58", after := #[], guard := none }) (v := ?_) (T := fun _ => True) rfl (by kernel_rfl) (by kernel_rfl) (by kernel_rfl) (by kernel_rfl) (fun _ _ _ h => h) (fun L' w' hW hS => trivial) (fun L' w' hS => hS) (Or.inl ⟨by rfl, ?_⟩) trivial (hS0) ?_
      rotate_left 1
      · intro w9 _; go_simp; (try with_reducible rfl)
      try simp only [Act.put, List.setIfInBounds_toArray, List.set_cons_zero, List.set_cons_succ]
      refine stage_take (i := 5) (oi := { dst := some 12, op := Go.Op.load 30 (Go.Operand.tmp 11), type := 30, pos := "plan.go:58", after := #[{ on := 4, ground := Go.Ground.data }], guard := none }) (v := ?_) (T := fun w' : World => (Box w' w.heap.size [.int .i64 ax, .bool alo, .int .i64 alk, .int .i64 aln, .string als, .bool ali, .bool aho, .int .i64 ahk, .int .i64 ahn, .string ahs, .bool ahi, .bool false]) ∧ (Box w' (w.heap.size + 1) [.int .i64 bx, .bool blo, .int .i64 blk, .int .i64 bln, .string bls, .bool bli, .bool bho, .int .i64 bhk, .int .i64 bhn, .string bhs, .bool bhi, .bool be])) rfl (by kernel_rfl) (by kernel_rfl) (by kernel_rfl) (by kernel_rfl) (fun _ _ _ h => h) (fun L' w' hW hS => hS) (fun L' w' hS => hS) (Or.inl ⟨by rfl, ?_⟩) (hS0) (hS0) ?_
      rotate_left 1
      · intro w9 hS9; obtain ⟨zA, zB⟩ := hS9; have zA0 := zA.c 0 _ rfl; have zB0 := zB.c 0 _ rfl; have zA1 := zA.c 1 _ rfl; have zB1 := zB.c 1 _ rfl; have zA2 := zA.c 2 _ rfl; have zB2 := zB.c 2 _ rfl; have zA3 := zA.c 3 _ rfl; have zB3 := zB.c 3 _ rfl; have zA4 := zA.c 4 _ rfl; have zB4 := zB.c 4 _ rfl; have zA5 := zA.c 5 _ rfl; have zB5 := zB.c 5 _ rfl; have zA6 := zA.c 6 _ rfl; have zB6 := zB.c 6 _ rfl; have zA7 := zA.c 7 _ rfl; have zB7 := zB.c 7 _ rfl; have zA8 := zA.c 8 _ rfl; have zB8 := zB.c 8 _ rfl; have zA9 := zA.c 9 _ rfl; have zB9 := zB.c 9 _ rfl; have zA10 := zA.c 10 _ rfl; have zB10 := zB.c 10 _ rfl; have zA11 := zA.c 11 _ rfl; have zB11 := zB.c 11 _ rfl; clear zA zB; go_simp; (try with_reducible rfl)
      try simp only [Act.put, List.setIfInBounds_toArray, List.set_cons_zero, List.set_cons_succ]
      refine stage_take (i := 7) (oi := { dst := some 14, op := Go.Op.fieldAddr 32 (Go.Operand.tmp 2) 2, type := 0, pos := "plan.go:58", after := #[], guard := none }) (v := ?_) (T := fun _ => True) rfl (by kernel_rfl) (by kernel_rfl) (by kernel_rfl) (by kernel_rfl) (fun _ _ _ h => h) (fun L' w' hW hS => trivial) (fun L' w' hS => hS) (Or.inl ⟨by rfl, ?_⟩) trivial (hS0) ?_
      rotate_left 1
      · intro w9 _; go_simp; (try with_reducible rfl)
      try simp only [Act.put, List.setIfInBounds_toArray, List.set_cons_zero, List.set_cons_succ]
      refine stage_take (i := 8) (oi := { dst := some 15, op := Go.Op.load 30 (Go.Operand.tmp 14), type := 30, pos := "plan.go:58", after := #[{ on := 7, ground := Go.Ground.data }], guard := none }) (v := ?_) (T := fun w' : World => (Box w' w.heap.size [.int .i64 ax, .bool alo, .int .i64 alk, .int .i64 aln, .string als, .bool ali, .bool aho, .int .i64 ahk, .int .i64 ahn, .string ahs, .bool ahi, .bool false]) ∧ (Box w' (w.heap.size + 1) [.int .i64 bx, .bool blo, .int .i64 blk, .int .i64 bln, .string bls, .bool bli, .bool bho, .int .i64 bhk, .int .i64 bhn, .string bhs, .bool bhi, .bool be])) rfl (by kernel_rfl) (by kernel_rfl) (by kernel_rfl) (by kernel_rfl) (fun _ _ _ h => h) (fun L' w' hW hS => hS) (fun L' w' hS => hS) (Or.inl ⟨by rfl, ?_⟩) (hS0) (hS0) ?_
      rotate_left 1
      · intro w9 hS9; obtain ⟨zA, zB⟩ := hS9; have zA0 := zA.c 0 _ rfl; have zB0 := zB.c 0 _ rfl; have zA1 := zA.c 1 _ rfl; have zB1 := zB.c 1 _ rfl; have zA2 := zA.c 2 _ rfl; have zB2 := zB.c 2 _ rfl; have zA3 := zA.c 3 _ rfl; have zB3 := zB.c 3 _ rfl; have zA4 := zA.c 4 _ rfl; have zB4 := zB.c 4 _ rfl; have zA5 := zA.c 5 _ rfl; have zB5 := zB.c 5 _ rfl; have zA6 := zA.c 6 _ rfl; have zB6 := zB.c 6 _ rfl; have zA7 := zA.c 7 _ rfl; have zB7 := zB.c 7 _ rfl; have zA8 := zA.c 8 _ rfl; have zB8 := zB.c 8 _ rfl; have zA9 := zA.c 9 _ rfl; have zB9 := zB.c 9 _ rfl; have zA10 := zA.c 10 _ rfl; have zB10 := zB.c 10 _ rfl; have zA11 := zA.c 11 _ rfl; have zB11 := zB.c 11 _ rfl; clear zA zB; go_simp; (try with_reducible rfl)
      try simp only [Act.put, List.setIfInBounds_toArray, List.set_cons_zero, List.set_cons_succ]
      refine stage_take (i := 9) (oi := { dst := some 16, op := Go.Op.fieldAddr 32 (Go.Operand.tmp 3) 2, type := 0, pos := "plan.go:58", after := #[], guard := none }) (v := ?_) (T := fun _ => True) rfl (by kernel_rfl) (by kernel_rfl) (by kernel_rfl) (by kernel_rfl) (fun _ _ _ h => h) (fun L' w' hW hS => trivial) (fun L' w' hS => hS) (Or.inl ⟨by rfl, ?_⟩) trivial (hS0) ?_
      rotate_left 1
      · intro w9 _; go_simp; (try with_reducible rfl)
      try simp only [Act.put, List.setIfInBounds_toArray, List.set_cons_zero, List.set_cons_succ]
      refine stage_take (i := 10) (oi := { dst := some 17, op := Go.Op.load 30 (Go.Operand.tmp 16), type := 30, pos := "plan.go:58", after := #[{ on := 9, ground := Go.Ground.data }], guard := none }) (v := ?_) (T := fun w' : World => (Box w' w.heap.size [.int .i64 ax, .bool alo, .int .i64 alk, .int .i64 aln, .string als, .bool ali, .bool aho, .int .i64 ahk, .int .i64 ahn, .string ahs, .bool ahi, .bool false]) ∧ (Box w' (w.heap.size + 1) [.int .i64 bx, .bool blo, .int .i64 blk, .int .i64 bln, .string bls, .bool bli, .bool bho, .int .i64 bhk, .int .i64 bhn, .string bhs, .bool bhi, .bool be])) rfl (by kernel_rfl) (by kernel_rfl) (by kernel_rfl) (by kernel_rfl) (fun _ _ _ h => h) (fun L' w' hW hS => hS) (fun L' w' hS => hS) (Or.inl ⟨by rfl, ?_⟩) (hS0) (hS0) ?_
      rotate_left 1
      · intro w9 hS9; obtain ⟨zA, zB⟩ := hS9; have zA0 := zA.c 0 _ rfl; have zB0 := zB.c 0 _ rfl; have zA1 := zA.c 1 _ rfl; have zB1 := zB.c 1 _ rfl; have zA2 := zA.c 2 _ rfl; have zB2 := zB.c 2 _ rfl; have zA3 := zA.c 3 _ rfl; have zB3 := zB.c 3 _ rfl; have zA4 := zA.c 4 _ rfl; have zB4 := zB.c 4 _ rfl; have zA5 := zA.c 5 _ rfl; have zB5 := zB.c 5 _ rfl; have zA6 := zA.c 6 _ rfl; have zB6 := zB.c 6 _ rfl; have zA7 := zA.c 7 _ rfl; have zB7 := zB.c 7 _ rfl; have zA8 := zA.c 8 _ rfl; have zB8 := zB.c 8 _ rfl; have zA9 := zA.c 9 _ rfl; have zB9 := zB.c 9 _ rfl; have zA10 := zA.c 10 _ rfl; have zB10 := zB.c 10 _ rfl; have zA11 := zA.c 11 _ rfl; have zB11 := zB.c 11 _ rfl; clear zA zB; go_simp; (try with_reducible rfl)
      try simp only [Act.put, List.setIfInBounds_toArray, List.set_cons_zero, List.set_cons_succ]
      refine stage_take (i := 12) (oi := { dst := some 19, op := Go.Op.fieldAddr 32 (Go.Operand.tmp 2) 3, type := 0, pos := "plan.go:58", after := #[], guard := none }) (v := ?_) (T := fun _ => True) rfl (by kernel_rfl) (by kernel_rfl) (by kernel_rfl) (by kernel_rfl) (fun _ _ _ h => h) (fun L' w' hW hS => trivial) (fun L' w' hS => hS) (Or.inl ⟨by rfl, ?_⟩) trivial (hS0) ?_
      rotate_left 1
      · intro w9 _; go_simp; (try with_reducible rfl)
      try simp only [Act.put, List.setIfInBounds_toArray, List.set_cons_zero, List.set_cons_succ]
      refine stage_take (i := 13) (oi := { dst := some 20, op := Go.Op.load 4 (Go.Operand.tmp 19), type := 4, pos := "plan.go:58", after := #[{ on := 12, ground := Go.Ground.data }], guard := none }) (v := ?_) (T := fun w' : World => (Box w' w.heap.size [.int .i64 ax, .bool alo, .int .i64 alk, .int .i64 aln, .string als, .bool ali, .bool aho, .int .i64 ahk, .int .i64 ahn, .string ahs, .bool ahi, .bool false]) ∧ (Box w' (w.heap.size + 1) [.int .i64 bx, .bool blo, .int .i64 blk, .int .i64 bln, .string bls, .bool bli, .bool bho, .int .i64 bhk, .int .i64 bhn, .string bhs, .bool bhi, .bool be])) rfl (by kernel_rfl) (by kernel_rfl) (by kernel_rfl) (by kernel_rfl) (fun _ _ _ h => h) (fun L' w' hW hS => hS) (fun L' w' hS => hS) (Or.inl ⟨by rfl, ?_⟩) (hS0) (hS0) ?_
      rotate_left 1
      · intro w9 hS9; obtain ⟨zA, zB⟩ := hS9; have zA0 := zA.c 0 _ rfl; have zB0 := zB.c 0 _ rfl; have zA1 := zA.c 1 _ rfl; have zB1 := zB.c 1 _ rfl; have zA2 := zA.c 2 _ rfl; have zB2 := zB.c 2 _ rfl; have zA3 := zA.c 3 _ rfl; have zB3 := zB.c 3 _ rfl; have zA4 := zA.c 4 _ rfl; have zB4 := zB.c 4 _ rfl; have zA5 := zA.c 5 _ rfl; have zB5 := zB.c 5 _ rfl; have zA6 := zA.c 6 _ rfl; have zB6 := zB.c 6 _ rfl; have zA7 := zA.c 7 _ rfl; have zB7 := zB.c 7 _ rfl; have zA8 := zA.c 8 _ rfl; have zB8 := zB.c 8 _ rfl; have zA9 := zA.c 9 _ rfl; have zB9 := zB.c 9 _ rfl; have zA10 := zA.c 10 _ rfl; have zB10 := zB.c 10 _ rfl; have zA11 := zA.c 11 _ rfl; have zB11 := zB.c 11 _ rfl; clear zA zB; go_simp; (try with_reducible rfl)
      try simp only [Act.put, List.setIfInBounds_toArray, List.set_cons_zero, List.set_cons_succ]
      refine stage_all (rs := [6, 19]) (by kernel_rfl) (by simp) (fun i0 hi0 => ?_)
      simp only [List.mem_cons, List.not_mem_nil, or_false] at hi0
      rcases hi0 with rfl | rfl
      · refine stage_step (S := fun (L' : Array Bool) (w' : World) => (Box w' w.heap.size [.int .i64 ax, .bool alo, .int .i64 alk, .int .i64 aln, .string als, .bool ali, .bool aho, .int .i64 ahk, .int .i64 ahn, .string ahs, .bool ahi, .bool false]) ∧ (Box w' (w.heap.size + 1) [.int .i64 bx, .bool blo, .int .i64 blk, .int .i64 bln, .string bls, .bool bli, .bool bho, .int .i64 bhk, .int .i64 bhn, .string bhs, .bool bhi, .bool be])) (o := { dst := some 13, op := Go.Op.call { callee := Go.Callee.value (Go.Operand.func 41), args := #[Go.Operand.tmp 10, Go.Operand.tmp 12, Go.Operand.const (Go.Value.int Go.IntKind.i64 1)], argTypes := #[30, 30, 3] }, type := 30, pos := "plan.go:58", after := #[{ on := 3, ground := Go.Ground.data }, { on := 5, ground := Go.Ground.data }], guard := none }) (by rfl) (fun K2 hK => ?_)
        go_simp
        go_wp2_with (go_at_call 41; (with_reducible refine (hlo _).mono ?_); rintro e w5 ⟨rfl, h⟩)
        clear hS0
        replace HA := Lib.hid (HA.out.step h)
        replace HB := Lib.hid (HB.out.step h)
        replace HR := Lib.hid (HR.out.step h)
        replace HF := Lib.hid (below_step' HF.out h)
        (try replace HP := Lib.hid (HP.out.step h))
        have hS0 : (fun w' : World => (Box w' w.heap.size [.int .i64 ax, .bool alo, .int .i64 alk, .int .i64 aln, .string als, .bool ali, .bool aho, .int .i64 ahk, .int .i64 ahn, .string ahs, .bool ahi, .bool false]) ∧ (Box w' (w.heap.size + 1) [.int .i64 bx, .bool blo, .int .i64 blk, .int .i64 bln, .string bls, .bool bli, .bool bho, .int .i64 bhk, .int .i64 bhn, .string bhs, .bool bhi, .bool be])) _ := ⟨HA.out, HB.out⟩
        clear h
        refine hK.out _ _ (⟨HA.out, HB.out⟩) ?_
        clear hK K2
        try simp only [Act.put, List.setIfInBounds_toArray, List.set_cons_zero, List.set_cons_succ]
        refine stage_all (rs := [11, 19]) (by kernel_rfl) (by simp) (fun i0 hi0 => ?_)
        simp only [List.mem_cons, List.not_mem_nil, or_false] at hi0
        rcases hi0 with rfl | rfl
        · refine stage_step (S := fun (L' : Array Bool) (w' : World) => (Box w' w.heap.size [.int .i64 ax, .bool alo, .int .i64 alk, .int .i64 aln, .string als, .bool ali, .bool aho, .int .i64 ahk, .int .i64 ahn, .string ahs, .bool ahi, .bool false]) ∧ (Box w' (w.heap.size + 1) [.int .i64 bx, .bool blo, .int .i64 blk, .int .i64 bln, .string bls, .bool bli, .bool bho, .int .i64 bhk, .int .i64 bhn, .string bhs, .bool bhi, .bool be])) (o := { dst := some 18, op := Go.Op.call { callee := Go.Callee.value (Go.Operand.func 41), args := #[Go.Operand.tmp 15, Go.Operand.tmp 17, Go.Operand.const (Go.Value.int Go.IntKind.i64 (-1))], argTypes := #[30, 30, 3] }, type := 30, pos := "plan.go:58", after := #[{ on := 8, ground := Go.Ground.data }, { on := 10, ground := Go.Ground.data }, { on := 6, ground := Go.Ground.chain }], guard := none }) (by rfl) (fun K2 hK => ?_)
          go_simp
          go_wp2_with (go_at_call 41; (with_reducible refine (hhi _).mono ?_); rintro e w6 ⟨rfl, h⟩)
          clear hS0
          replace HA := Lib.hid (HA.out.step h)
          replace HB := Lib.hid (HB.out.step h)
          replace HR := Lib.hid (HR.out.step h)
          replace HF := Lib.hid (below_step' HF.out h)
          (try replace HP := Lib.hid (HP.out.step h))
          have hS0 : (fun w' : World => (Box w' w.heap.size [.int .i64 ax, .bool alo, .int .i64 alk, .int .i64 aln, .string als, .bool ali, .bool aho, .int .i64 ahk, .int .i64 ahn, .string ahs, .bool ahi, .bool false]) ∧ (Box w' (w.heap.size + 1) [.int .i64 bx, .bool blo, .int .i64 blk, .int .i64 bln, .string bls, .bool bli, .bool bho, .int .i64 bhk, .int .i64 bhn, .string bhs, .bool bhi, .bool be])) _ := ⟨HA.out, HB.out⟩
          clear h
          refine hK.out _ _ (⟨HA.out, HB.out⟩) ?_
          clear hK K2
          try simp only [Act.put, List.setIfInBounds_toArray, List.set_cons_zero, List.set_cons_succ]
          refine stage_take (i := 14) (oi := { dst := some 21, op := Go.Op.move (Go.Operand.tmp 20), type := 4, pos := "plan.go:58", after := #[{ on := 13, ground := Go.Ground.data }, { on := 11, ground := Go.Ground.chain }], guard := none }) (v := ?_) (T := fun _ => True) rfl (by kernel_rfl) (by kernel_rfl) (by kernel_rfl) (by kernel_rfl) (fun _ _ _ h => h) (fun L' w' hW hS => trivial) (fun L' w' hS => hS) (Or.inl ⟨by rfl, ?_⟩) trivial (hS0) ?_
          rotate_left 1
          · intro w9 _; go_simp; (try with_reducible rfl)
          try simp only [Act.put, List.setIfInBounds_toArray, List.set_cons_zero, List.set_cons_succ]
          refine stage_take (i := 15) (oi := { dst := some 22, op := Go.Op.fieldAddr 32 (Go.Operand.tmp 3) 3, type := 0, pos := "plan.go:58", after := #[{ on := 14, ground := Go.Ground.guard }], guard := some (14, false) }) (v := ?_) (T := fun _ => True) rfl (by kernel_rfl) (by kernel_rfl) (by kernel_rfl) (by kernel_rfl) (fun _ _ _ h => h) (fun L' w' hW hS => trivial) (fun L' w' hS => hS) (Or.inl ⟨by rfl, ?_⟩) trivial (hS0) ?_
          rotate_left 1
          · intro w9 _; go_simp; (try with_reducible rfl)
          try simp only [Act.put, List.setIfInBounds_toArray, List.set_cons_zero, List.set_cons_succ]
          refine stage_take (i := 16) (oi := { dst := some 23, op := Go.Op.load 4 (Go.Operand.tmp 22), type := 4, pos := "plan.go:58", after := #[{ on := 15, ground := Go.Ground.data }, { on := 14, ground := Go.Ground.guard }], guard := some (14, false) }) (v := ?_) (T := fun w' : World => (Box w' w.heap.size [.int .i64 ax, .bool alo, .int .i64 alk, .int .i64 aln, .string als, .bool ali, .bool aho, .int .i64 ahk, .int .i64 ahn, .string ahs, .bool ahi, .bool false]) ∧ (Box w' (w.heap.size + 1) [.int .i64 bx, .bool blo, .int .i64 blk, .int .i64 bln, .string bls, .bool bli, .bool bho, .int .i64 bhk, .int .i64 bhn, .string bhs, .bool bhi, .bool be])) rfl (by kernel_rfl) (by kernel_rfl) (by kernel_rfl) (by kernel_rfl) (fun _ _ _ h => h) (fun L' w' hW hS => hS) (fun L' w' hS => hS) (Or.inl ⟨by rfl, ?_⟩) (hS0) (hS0) ?_
          rotate_left 1
          · intro w9 hS9; obtain ⟨zA, zB⟩ := hS9; have zA0 := zA.c 0 _ rfl; have zB0 := zB.c 0 _ rfl; have zA1 := zA.c 1 _ rfl; have zB1 := zB.c 1 _ rfl; have zA2 := zA.c 2 _ rfl; have zB2 := zB.c 2 _ rfl; have zA3 := zA.c 3 _ rfl; have zB3 := zB.c 3 _ rfl; have zA4 := zA.c 4 _ rfl; have zB4 := zB.c 4 _ rfl; have zA5 := zA.c 5 _ rfl; have zB5 := zB.c 5 _ rfl; have zA6 := zA.c 6 _ rfl; have zB6 := zB.c 6 _ rfl; have zA7 := zA.c 7 _ rfl; have zB7 := zB.c 7 _ rfl; have zA8 := zA.c 8 _ rfl; have zB8 := zB.c 8 _ rfl; have zA9 := zA.c 9 _ rfl; have zB9 := zB.c 9 _ rfl; have zA10 := zA.c 10 _ rfl; have zB10 := zB.c 10 _ rfl; have zA11 := zA.c 11 _ rfl; have zB11 := zB.c 11 _ rfl; clear zA zB; go_simp; (try with_reducible rfl)
          try simp only [Act.put, List.setIfInBounds_toArray, List.set_cons_zero, List.set_cons_succ]
          refine stage_take (i := 17) (oi := { dst := some 24, op := Go.Op.pick (Go.Operand.tmp 21) (Go.Operand.const (Go.Value.bool true)) (Go.Operand.tmp 23), type := 4, pos := "plan.go:58", after := #[{ on := 14, ground := Go.Ground.data }, { on := 16, ground := Go.Ground.data }], guard := none }) (v := ?_) (T := fun _ => True) rfl (by kernel_rfl) (by kernel_rfl) (by kernel_rfl) (by kernel_rfl) (fun _ _ _ h => h) (fun L' w' hW hS => trivial) (fun L' w' hS => hS) (Or.inl ⟨by rfl, ?_⟩) trivial (hS0) ?_
          rotate_left 1
          · intro w9 _; go_simp; (try with_reducible rfl)
          try simp only [Act.put, List.setIfInBounds_toArray, List.set_cons_zero, List.set_cons_succ]
          refine stage_take (i := 18) (oi := { dst := some 25, op := Go.Op.build 32 #[(0, Go.Operand.tmp 8), (1, Go.Operand.tmp 13), (2, Go.Operand.tmp 18), (3, Go.Operand.tmp 24)], type := 32, pos := "plan.go:58", after := #[{ on := 1, ground := Go.Ground.data }, { on := 6, ground := Go.Ground.data }, { on := 11, ground := Go.Ground.data }, { on := 17, ground := Go.Ground.data }], guard := none }) (v := ?_) (T := fun _ => True) rfl (by kernel_rfl) (by kernel_rfl) (by kernel_rfl) (by kernel_rfl) (fun _ _ _ h => h) (fun L' w' hW hS => trivial) (fun L' w' hS => hS) (Or.inl ⟨by rfl, ?_⟩) trivial (hS0) ?_
          rotate_left 1
          · intro w9 _; go_simp; (try with_reducible rfl)
          try simp only [Act.put, List.setIfInBounds_toArray, List.set_cons_zero, List.set_cons_succ]
          refine stage_all (rs := [19]) (by kernel_rfl) (by simp) (fun i0 hi0 => ?_)
          obtain rfl : i0 = 19 := by simpa using hi0
          refine stage_step (S := fun (L' : Array Bool) (w' : World) => (Box w' w.heap.size [.int .i64 ax, .bool alo, .int .i64 alk, .int .i64 aln, .string als, .bool ali, .bool aho, .int .i64 ahk, .int .i64 ahn, .string ahs, .bool ahi, .bool false]) ∧ (Box w' (w.heap.size + 1) [.int .i64 bx, .bool blo, .int .i64 blk, .int .i64 bln, .string bls, .bool bli, .bool bho, .int .i64 bhk, .int .i64 bhn, .string bhs, .bool bhi, .bool be])) (o := { dst := some 5, op := Go.Op.alloc 32, type := 0, pos := "plan.go:58", after := #[], guard := none }) (by rfl) (fun K2 hK => ?_)
          go_simp
          have h := (Below.refl w6.heap.size w6).alloc (Nat.le_refl _) (.cells #[.int .i64 0, .bool false, .int .i64 0, .int .i64 0, .string ⟨#[]⟩, .bool false, .bool false, .int .i64 0, .int .i64 0, .string ⟨#[]⟩, .bool false, .bool false] 32)
          have HP := Lib.hid (Box.new w6 #[.int .i64 0, .bool false, .int .i64 0, .int .i64 0, .string ⟨#[]⟩, .bool false, .bool false, .int .i64 0, .int .i64 0, .string ⟨#[]⟩, .bool false, .bool false] 32)
          have hg : w.heap.size + 3 ≤ w6.heap.size := HR.out.lt
          clear hS0
          replace HA := Lib.hid (HA.out.step h)
          replace HB := Lib.hid (HB.out.step h)
          replace HR := Lib.hid (HR.out.step h)
          replace HF := Lib.hid (below_step' HF.out h)
          have hS0 : (fun w' : World => (Box w' w.heap.size [.int .i64 ax, .bool alo, .int .i64 alk, .int .i64 aln, .string als, .bool ali, .bool aho, .int .i64 ahk, .int .i64 ahn, .string ahs, .bool ahi, .bool false]) ∧ (Box w' (w.heap.size + 1) [.int .i64 bx, .bool blo, .int .i64 blk, .int .i64 bln, .string bls, .bool bli, .bool bho, .int .i64 bhk, .int .i64 bhn, .string bhs, .bool bhi, .bool be])) _ := ⟨HA.out, HB.out⟩
          clear h
          refine hK.out _ _ (⟨HA.out, HB.out⟩) ?_
          clear hK K2
          try simp only [Act.put, List.setIfInBounds_toArray, List.set_cons_zero, List.set_cons_succ]
          generalize w6.alloc (.cells #[.int .i64 0, .bool false, .int .i64 0, .int .i64 0, .string ⟨#[]⟩, .bool false, .bool false, .int .i64 0, .int .i64 0, .string ⟨#[]⟩, .bool false, .bool false] 32) = w7 at *
          generalize w6.heap.size = g at *
          refine stage_all (rs := [20]) (by kernel_rfl) (by simp) (fun i0 hi0 => ?_)
          obtain rfl : i0 = 20 := by simpa using hi0
          refine stage_step (S := fun (L' : Array Bool) (w' : World) => (Box w' w.heap.size [.int .i64 ax, .bool alo, .int .i64 alk, .int .i64 aln, .string als, .bool ali, .bool aho, .int .i64 ahk, .int .i64 ahn, .string ahs, .bool ahi, .bool false]) ∧ (Box w' (w.heap.size + 1) [.int .i64 bx, .bool blo, .int .i64 blk, .int .i64 bln, .string bls, .bool bli, .bool bho, .int .i64 bhk, .int .i64 bhn, .string bhs, .bool bhi, .bool be])) (o := { dst := none, op := Go.Op.store 32 (Go.Operand.tmp 5) (Go.Operand.tmp 25), type := 0, pos := "plan.go:58", after := #[{ on := 19, ground := Go.Ground.data }, { on := 18, ground := Go.Ground.data }, { on := 14, ground := Go.Ground.chain }, { on := 0, ground := Go.Ground.phase }, { on := 1, ground := Go.Ground.phase }, { on := 2, ground := Go.Ground.phase }, { on := 3, ground := Go.Ground.phase }, { on := 4, ground := Go.Ground.phase }, { on := 5, ground := Go.Ground.phase }, { on := 6, ground := Go.Ground.phase }, { on := 7, ground := Go.Ground.phase }, { on := 8, ground := Go.Ground.phase }, { on := 9, ground := Go.Ground.phase }, { on := 10, ground := Go.Ground.phase }, { on := 11, ground := Go.Ground.phase }, { on := 12, ground := Go.Ground.phase }, { on := 13, ground := Go.Ground.phase }, { on := 14, ground := Go.Ground.phase }, { on := 15, ground := Go.Ground.phase }, { on := 16, ground := Go.Ground.phase }, { on := 17, ground := Go.Ground.phase }, { on := 18, ground := Go.Ground.phase }, { on := 19, ground := Go.Ground.phase }], guard := none }) (by rfl) (fun K2 hK => ?_)
          have cHP0 := HP.out.c 0 _ rfl; have fHP0 := HP.out.f 0 (by simp); have cHP1 := HP.out.c 1 _ rfl; have fHP1 := HP.out.f 1 (by simp); have cHP2 := HP.out.c 2 _ rfl; have fHP2 := HP.out.f 2 (by simp); have cHP3 := HP.out.c 3 _ rfl; have fHP3 := HP.out.f 3 (by simp); have cHP4 := HP.out.c 4 _ rfl; have fHP4 := HP.out.f 4 (by simp); have cHP5 := HP.out.c 5 _ rfl; have fHP5 := HP.out.f 5 (by simp); have cHP6 := HP.out.c 6 _ rfl; have fHP6 := HP.out.f 6 (by simp); have cHP7 := HP.out.c 7 _ rfl; have fHP7 := HP.out.f 7 (by simp); have cHP8 := HP.out.c 8 _ rfl; have fHP8 := HP.out.f 8 (by simp); have cHP9 := HP.out.c 9 _ rfl; have fHP9 := HP.out.f 9 (by simp); have cHP10 := HP.out.c 10 _ rfl; have fHP10 := HP.out.f 10 (by simp); have cHP11 := HP.out.c 11 _ rfl; have fHP11 := HP.out.f 11 (by simp); have lHP := HP.out.lt
          go_simp
          clear cHP0 fHP0 cHP1 fHP1 cHP2 fHP2 cHP3 fHP3 cHP4 fHP4 cHP5 fHP5 cHP6 fHP6 cHP7 fHP7 cHP8 fHP8 cHP9 fHP9 cHP10 fHP10 cHP11 fHP11 lHP
          have hP1 := puts12 HP.out (.int .i64 ax) (.bool lo.op) (.int .i64 lo.v.k) (.int .i64 lo.v.n) (.string lo.v.s) (.bool lo.inn) (.bool hi.op) (.int .i64 hi.v.k) (.int .i64 hi.v.n) (.string hi.v.s) (.bool hi.inn) (.bool be)
          replace HA := Lib.hid (puts12_other HA.out (show g ≠ w.heap.size by omega) (.int .i64 ax) (.bool lo.op) (.int .i64 lo.v.k) (.int .i64 lo.v.n) (.string lo.v.s) (.bool lo.inn) (.bool hi.op) (.int .i64 hi.v.k) (.int .i64 hi.v.n) (.string hi.v.s) (.bool hi.inn) (.bool be))
          replace HB := Lib.hid (puts12_other HB.out (show g ≠ w.heap.size + 1 by omega) (.int .i64 ax) (.bool lo.op) (.int .i64 lo.v.k) (.int .i64 lo.v.n) (.string lo.v.s) (.bool lo.inn) (.bool hi.op) (.int .i64 hi.v.k) (.int .i64 hi.v.n) (.string hi.v.s) (.bool hi.inn) (.bool be))
          replace HR := Lib.hid (puts12_other HR.out (show g ≠ w.heap.size + 1 + 1 by omega) (.int .i64 ax) (.bool lo.op) (.int .i64 lo.v.k) (.int .i64 lo.v.n) (.string lo.v.s) (.bool lo.inn) (.bool hi.op) (.int .i64 hi.v.k) (.int .i64 hi.v.n) (.string hi.v.s) (.bool hi.inn) (.bool be))
          replace HF := Lib.hid (puts12_below HF.out (show w.heap.size ≤ g by omega) (.int .i64 ax) (.bool lo.op) (.int .i64 lo.v.k) (.int .i64 lo.v.n) (.string lo.v.s) (.bool lo.inn) (.bool hi.op) (.int .i64 hi.v.k) (.int .i64 hi.v.n) (.string hi.v.s) (.bool hi.inn) (.bool be))
          refine hK.out _ _ (⟨HA.out, HB.out⟩) ?_
          clear hK K2
          try simp only [Act.put, List.setIfInBounds_toArray, List.set_cons_zero, List.set_cons_succ]
          refine stage_done (by kernel_rfl) ?_ _
          go_wp2_with fail
          go_meet
          exact ⟨g, rfl, Lib.hid hP1, hg, HA, HR, HF⟩
        · refine stage_step (S := fun (L' : Array Bool) (w' : World) => (Box w' w.heap.size [.int .i64 ax, .bool alo, .int .i64 alk, .int .i64 aln, .string als, .bool ali, .bool aho, .int .i64 ahk, .int .i64 ahn, .string ahs, .bool ahi, .bool false]) ∧ (Box w' (w.heap.size + 1) [.int .i64 bx, .bool blo, .int .i64 blk, .int .i64 bln, .string bls, .bool bli, .bool bho, .int .i64 bhk, .int .i64 bhn, .string bhs, .bool bhi, .bool be])) (o := { dst := some 5, op := Go.Op.alloc 32, type := 0, pos := "plan.go:58", after := #[], guard := none }) (by rfl) (fun K2 hK => ?_)
          go_simp
          have h := (Below.refl w5.heap.size w5).alloc (Nat.le_refl _) (.cells #[.int .i64 0, .bool false, .int .i64 0, .int .i64 0, .string ⟨#[]⟩, .bool false, .bool false, .int .i64 0, .int .i64 0, .string ⟨#[]⟩, .bool false, .bool false] 32)
          have HP := Lib.hid (Box.new w5 #[.int .i64 0, .bool false, .int .i64 0, .int .i64 0, .string ⟨#[]⟩, .bool false, .bool false, .int .i64 0, .int .i64 0, .string ⟨#[]⟩, .bool false, .bool false] 32)
          have hg : w.heap.size + 3 ≤ w5.heap.size := HR.out.lt
          clear hS0
          replace HA := Lib.hid (HA.out.step h)
          replace HB := Lib.hid (HB.out.step h)
          replace HR := Lib.hid (HR.out.step h)
          replace HF := Lib.hid (below_step' HF.out h)
          have hS0 : (fun w' : World => (Box w' w.heap.size [.int .i64 ax, .bool alo, .int .i64 alk, .int .i64 aln, .string als, .bool ali, .bool aho, .int .i64 ahk, .int .i64 ahn, .string ahs, .bool ahi, .bool false]) ∧ (Box w' (w.heap.size + 1) [.int .i64 bx, .bool blo, .int .i64 blk, .int .i64 bln, .string bls, .bool bli, .bool bho, .int .i64 bhk, .int .i64 bhn, .string bhs, .bool bhi, .bool be])) _ := ⟨HA.out, HB.out⟩
          clear h
          refine hK.out _ _ (⟨HA.out, HB.out⟩) ?_
          clear hK K2
          try simp only [Act.put, List.setIfInBounds_toArray, List.set_cons_zero, List.set_cons_succ]
          generalize w5.alloc (.cells #[.int .i64 0, .bool false, .int .i64 0, .int .i64 0, .string ⟨#[]⟩, .bool false, .bool false, .int .i64 0, .int .i64 0, .string ⟨#[]⟩, .bool false, .bool false] 32) = w6 at *
          generalize w5.heap.size = g at *
          refine stage_all (rs := [11]) (by kernel_rfl) (by simp) (fun i0 hi0 => ?_)
          obtain rfl : i0 = 11 := by simpa using hi0
          refine stage_step (S := fun (L' : Array Bool) (w' : World) => (Box w' w.heap.size [.int .i64 ax, .bool alo, .int .i64 alk, .int .i64 aln, .string als, .bool ali, .bool aho, .int .i64 ahk, .int .i64 ahn, .string ahs, .bool ahi, .bool false]) ∧ (Box w' (w.heap.size + 1) [.int .i64 bx, .bool blo, .int .i64 blk, .int .i64 bln, .string bls, .bool bli, .bool bho, .int .i64 bhk, .int .i64 bhn, .string bhs, .bool bhi, .bool be])) (o := { dst := some 18, op := Go.Op.call { callee := Go.Callee.value (Go.Operand.func 41), args := #[Go.Operand.tmp 15, Go.Operand.tmp 17, Go.Operand.const (Go.Value.int Go.IntKind.i64 (-1))], argTypes := #[30, 30, 3] }, type := 30, pos := "plan.go:58", after := #[{ on := 8, ground := Go.Ground.data }, { on := 10, ground := Go.Ground.data }, { on := 6, ground := Go.Ground.chain }], guard := none }) (by rfl) (fun K2 hK => ?_)
          go_simp
          go_wp2_with (go_at_call 41; (with_reducible refine (hhi _).mono ?_); rintro e w7 ⟨rfl, h⟩)
          clear hS0
          replace HA := Lib.hid (HA.out.step h)
          replace HB := Lib.hid (HB.out.step h)
          replace HR := Lib.hid (HR.out.step h)
          replace HF := Lib.hid (below_step' HF.out h)
          (try replace HP := Lib.hid (HP.out.step h))
          have hS0 : (fun w' : World => (Box w' w.heap.size [.int .i64 ax, .bool alo, .int .i64 alk, .int .i64 aln, .string als, .bool ali, .bool aho, .int .i64 ahk, .int .i64 ahn, .string ahs, .bool ahi, .bool false]) ∧ (Box w' (w.heap.size + 1) [.int .i64 bx, .bool blo, .int .i64 blk, .int .i64 bln, .string bls, .bool bli, .bool bho, .int .i64 bhk, .int .i64 bhn, .string bhs, .bool bhi, .bool be])) _ := ⟨HA.out, HB.out⟩
          clear h
          refine hK.out _ _ (⟨HA.out, HB.out⟩) ?_
          clear hK K2
          try simp only [Act.put, List.setIfInBounds_toArray, List.set_cons_zero, List.set_cons_succ]
          refine stage_take (i := 14) (oi := { dst := some 21, op := Go.Op.move (Go.Operand.tmp 20), type := 4, pos := "plan.go:58", after := #[{ on := 13, ground := Go.Ground.data }, { on := 11, ground := Go.Ground.chain }], guard := none }) (v := ?_) (T := fun _ => True) rfl (by kernel_rfl) (by kernel_rfl) (by kernel_rfl) (by kernel_rfl) (fun _ _ _ h => h) (fun L' w' hW hS => trivial) (fun L' w' hS => hS) (Or.inl ⟨by rfl, ?_⟩) trivial (hS0) ?_
          rotate_left 1
          · intro w9 _; go_simp; (try with_reducible rfl)
          try simp only [Act.put, List.setIfInBounds_toArray, List.set_cons_zero, List.set_cons_succ]
          refine stage_take (i := 15) (oi := { dst := some 22, op := Go.Op.fieldAddr 32 (Go.Operand.tmp 3) 3, type := 0, pos := "plan.go:58", after := #[{ on := 14, ground := Go.Ground.guard }], guard := some (14, false) }) (v := ?_) (T := fun _ => True) rfl (by kernel_rfl) (by kernel_rfl) (by kernel_rfl) (by kernel_rfl) (fun _ _ _ h => h) (fun L' w' hW hS => trivial) (fun L' w' hS => hS) (Or.inl ⟨by rfl, ?_⟩) trivial (hS0) ?_
          rotate_left 1
          · intro w9 _; go_simp; (try with_reducible rfl)
          try simp only [Act.put, List.setIfInBounds_toArray, List.set_cons_zero, List.set_cons_succ]
          refine stage_take (i := 16) (oi := { dst := some 23, op := Go.Op.load 4 (Go.Operand.tmp 22), type := 4, pos := "plan.go:58", after := #[{ on := 15, ground := Go.Ground.data }, { on := 14, ground := Go.Ground.guard }], guard := some (14, false) }) (v := ?_) (T := fun w' : World => (Box w' w.heap.size [.int .i64 ax, .bool alo, .int .i64 alk, .int .i64 aln, .string als, .bool ali, .bool aho, .int .i64 ahk, .int .i64 ahn, .string ahs, .bool ahi, .bool false]) ∧ (Box w' (w.heap.size + 1) [.int .i64 bx, .bool blo, .int .i64 blk, .int .i64 bln, .string bls, .bool bli, .bool bho, .int .i64 bhk, .int .i64 bhn, .string bhs, .bool bhi, .bool be])) rfl (by kernel_rfl) (by kernel_rfl) (by kernel_rfl) (by kernel_rfl) (fun _ _ _ h => h) (fun L' w' hW hS => hS) (fun L' w' hS => hS) (Or.inl ⟨by rfl, ?_⟩) (hS0) (hS0) ?_
          rotate_left 1
          · intro w9 hS9; obtain ⟨zA, zB⟩ := hS9; have zA0 := zA.c 0 _ rfl; have zB0 := zB.c 0 _ rfl; have zA1 := zA.c 1 _ rfl; have zB1 := zB.c 1 _ rfl; have zA2 := zA.c 2 _ rfl; have zB2 := zB.c 2 _ rfl; have zA3 := zA.c 3 _ rfl; have zB3 := zB.c 3 _ rfl; have zA4 := zA.c 4 _ rfl; have zB4 := zB.c 4 _ rfl; have zA5 := zA.c 5 _ rfl; have zB5 := zB.c 5 _ rfl; have zA6 := zA.c 6 _ rfl; have zB6 := zB.c 6 _ rfl; have zA7 := zA.c 7 _ rfl; have zB7 := zB.c 7 _ rfl; have zA8 := zA.c 8 _ rfl; have zB8 := zB.c 8 _ rfl; have zA9 := zA.c 9 _ rfl; have zB9 := zB.c 9 _ rfl; have zA10 := zA.c 10 _ rfl; have zB10 := zB.c 10 _ rfl; have zA11 := zA.c 11 _ rfl; have zB11 := zB.c 11 _ rfl; clear zA zB; go_simp; (try with_reducible rfl)
          try simp only [Act.put, List.setIfInBounds_toArray, List.set_cons_zero, List.set_cons_succ]
          refine stage_take (i := 17) (oi := { dst := some 24, op := Go.Op.pick (Go.Operand.tmp 21) (Go.Operand.const (Go.Value.bool true)) (Go.Operand.tmp 23), type := 4, pos := "plan.go:58", after := #[{ on := 14, ground := Go.Ground.data }, { on := 16, ground := Go.Ground.data }], guard := none }) (v := ?_) (T := fun _ => True) rfl (by kernel_rfl) (by kernel_rfl) (by kernel_rfl) (by kernel_rfl) (fun _ _ _ h => h) (fun L' w' hW hS => trivial) (fun L' w' hS => hS) (Or.inl ⟨by rfl, ?_⟩) trivial (hS0) ?_
          rotate_left 1
          · intro w9 _; go_simp; (try with_reducible rfl)
          try simp only [Act.put, List.setIfInBounds_toArray, List.set_cons_zero, List.set_cons_succ]
          refine stage_take (i := 18) (oi := { dst := some 25, op := Go.Op.build 32 #[(0, Go.Operand.tmp 8), (1, Go.Operand.tmp 13), (2, Go.Operand.tmp 18), (3, Go.Operand.tmp 24)], type := 32, pos := "plan.go:58", after := #[{ on := 1, ground := Go.Ground.data }, { on := 6, ground := Go.Ground.data }, { on := 11, ground := Go.Ground.data }, { on := 17, ground := Go.Ground.data }], guard := none }) (v := ?_) (T := fun _ => True) rfl (by kernel_rfl) (by kernel_rfl) (by kernel_rfl) (by kernel_rfl) (fun _ _ _ h => h) (fun L' w' hW hS => trivial) (fun L' w' hS => hS) (Or.inl ⟨by rfl, ?_⟩) trivial (hS0) ?_
          rotate_left 1
          · intro w9 _; go_simp; (try with_reducible rfl)
          try simp only [Act.put, List.setIfInBounds_toArray, List.set_cons_zero, List.set_cons_succ]
          refine stage_all (rs := [20]) (by kernel_rfl) (by simp) (fun i0 hi0 => ?_)
          obtain rfl : i0 = 20 := by simpa using hi0
          refine stage_step (S := fun (L' : Array Bool) (w' : World) => (Box w' w.heap.size [.int .i64 ax, .bool alo, .int .i64 alk, .int .i64 aln, .string als, .bool ali, .bool aho, .int .i64 ahk, .int .i64 ahn, .string ahs, .bool ahi, .bool false]) ∧ (Box w' (w.heap.size + 1) [.int .i64 bx, .bool blo, .int .i64 blk, .int .i64 bln, .string bls, .bool bli, .bool bho, .int .i64 bhk, .int .i64 bhn, .string bhs, .bool bhi, .bool be])) (o := { dst := none, op := Go.Op.store 32 (Go.Operand.tmp 5) (Go.Operand.tmp 25), type := 0, pos := "plan.go:58", after := #[{ on := 19, ground := Go.Ground.data }, { on := 18, ground := Go.Ground.data }, { on := 14, ground := Go.Ground.chain }, { on := 0, ground := Go.Ground.phase }, { on := 1, ground := Go.Ground.phase }, { on := 2, ground := Go.Ground.phase }, { on := 3, ground := Go.Ground.phase }, { on := 4, ground := Go.Ground.phase }, { on := 5, ground := Go.Ground.phase }, { on := 6, ground := Go.Ground.phase }, { on := 7, ground := Go.Ground.phase }, { on := 8, ground := Go.Ground.phase }, { on := 9, ground := Go.Ground.phase }, { on := 10, ground := Go.Ground.phase }, { on := 11, ground := Go.Ground.phase }, { on := 12, ground := Go.Ground.phase }, { on := 13, ground := Go.Ground.phase }, { on := 14, ground := Go.Ground.phase }, { on := 15, ground := Go.Ground.phase }, { on := 16, ground := Go.Ground.phase }, { on := 17, ground := Go.Ground.phase }, { on := 18, ground := Go.Ground.phase }, { on := 19, ground := Go.Ground.phase }], guard := none }) (by rfl) (fun K2 hK => ?_)
          have cHP0 := HP.out.c 0 _ rfl; have fHP0 := HP.out.f 0 (by simp); have cHP1 := HP.out.c 1 _ rfl; have fHP1 := HP.out.f 1 (by simp); have cHP2 := HP.out.c 2 _ rfl; have fHP2 := HP.out.f 2 (by simp); have cHP3 := HP.out.c 3 _ rfl; have fHP3 := HP.out.f 3 (by simp); have cHP4 := HP.out.c 4 _ rfl; have fHP4 := HP.out.f 4 (by simp); have cHP5 := HP.out.c 5 _ rfl; have fHP5 := HP.out.f 5 (by simp); have cHP6 := HP.out.c 6 _ rfl; have fHP6 := HP.out.f 6 (by simp); have cHP7 := HP.out.c 7 _ rfl; have fHP7 := HP.out.f 7 (by simp); have cHP8 := HP.out.c 8 _ rfl; have fHP8 := HP.out.f 8 (by simp); have cHP9 := HP.out.c 9 _ rfl; have fHP9 := HP.out.f 9 (by simp); have cHP10 := HP.out.c 10 _ rfl; have fHP10 := HP.out.f 10 (by simp); have cHP11 := HP.out.c 11 _ rfl; have fHP11 := HP.out.f 11 (by simp); have lHP := HP.out.lt
          go_simp
          clear cHP0 fHP0 cHP1 fHP1 cHP2 fHP2 cHP3 fHP3 cHP4 fHP4 cHP5 fHP5 cHP6 fHP6 cHP7 fHP7 cHP8 fHP8 cHP9 fHP9 cHP10 fHP10 cHP11 fHP11 lHP
          have hP1 := puts12 HP.out (.int .i64 ax) (.bool lo.op) (.int .i64 lo.v.k) (.int .i64 lo.v.n) (.string lo.v.s) (.bool lo.inn) (.bool hi.op) (.int .i64 hi.v.k) (.int .i64 hi.v.n) (.string hi.v.s) (.bool hi.inn) (.bool be)
          replace HA := Lib.hid (puts12_other HA.out (show g ≠ w.heap.size by omega) (.int .i64 ax) (.bool lo.op) (.int .i64 lo.v.k) (.int .i64 lo.v.n) (.string lo.v.s) (.bool lo.inn) (.bool hi.op) (.int .i64 hi.v.k) (.int .i64 hi.v.n) (.string hi.v.s) (.bool hi.inn) (.bool be))
          replace HB := Lib.hid (puts12_other HB.out (show g ≠ w.heap.size + 1 by omega) (.int .i64 ax) (.bool lo.op) (.int .i64 lo.v.k) (.int .i64 lo.v.n) (.string lo.v.s) (.bool lo.inn) (.bool hi.op) (.int .i64 hi.v.k) (.int .i64 hi.v.n) (.string hi.v.s) (.bool hi.inn) (.bool be))
          replace HR := Lib.hid (puts12_other HR.out (show g ≠ w.heap.size + 1 + 1 by omega) (.int .i64 ax) (.bool lo.op) (.int .i64 lo.v.k) (.int .i64 lo.v.n) (.string lo.v.s) (.bool lo.inn) (.bool hi.op) (.int .i64 hi.v.k) (.int .i64 hi.v.n) (.string hi.v.s) (.bool hi.inn) (.bool be))
          replace HF := Lib.hid (puts12_below HF.out (show w.heap.size ≤ g by omega) (.int .i64 ax) (.bool lo.op) (.int .i64 lo.v.k) (.int .i64 lo.v.n) (.string lo.v.s) (.bool lo.inn) (.bool hi.op) (.int .i64 hi.v.k) (.int .i64 hi.v.n) (.string hi.v.s) (.bool hi.inn) (.bool be))
          refine hK.out _ _ (⟨HA.out, HB.out⟩) ?_
          clear hK K2
          try simp only [Act.put, List.setIfInBounds_toArray, List.set_cons_zero, List.set_cons_succ]
          refine stage_done (by kernel_rfl) ?_ _
          go_wp2_with fail
          go_meet
          exact ⟨g, rfl, Lib.hid hP1, hg, HA, HR, HF⟩
      · refine stage_step (S := fun (L' : Array Bool) (w' : World) => (Box w' w.heap.size [.int .i64 ax, .bool alo, .int .i64 alk, .int .i64 aln, .string als, .bool ali, .bool aho, .int .i64 ahk, .int .i64 ahn, .string ahs, .bool ahi, .bool false]) ∧ (Box w' (w.heap.size + 1) [.int .i64 bx, .bool blo, .int .i64 blk, .int .i64 bln, .string bls, .bool bli, .bool bho, .int .i64 bhk, .int .i64 bhn, .string bhs, .bool bhi, .bool be])) (o := { dst := some 5, op := Go.Op.alloc 32, type := 0, pos := "plan.go:58", after := #[], guard := none }) (by rfl) (fun K2 hK => ?_)
        go_simp
        have h := (Below.refl wd.heap.size wd).alloc (Nat.le_refl _) (.cells #[.int .i64 0, .bool false, .int .i64 0, .int .i64 0, .string ⟨#[]⟩, .bool false, .bool false, .int .i64 0, .int .i64 0, .string ⟨#[]⟩, .bool false, .bool false] 32)
        have HP := Lib.hid (Box.new wd #[.int .i64 0, .bool false, .int .i64 0, .int .i64 0, .string ⟨#[]⟩, .bool false, .bool false, .int .i64 0, .int .i64 0, .string ⟨#[]⟩, .bool false, .bool false] 32)
        have hg : w.heap.size + 3 ≤ wd.heap.size := HR.out.lt
        clear hS0
        replace HA := Lib.hid (HA.out.step h)
        replace HB := Lib.hid (HB.out.step h)
        replace HR := Lib.hid (HR.out.step h)
        replace HF := Lib.hid (below_step' HF.out h)
        have hS0 : (fun w' : World => (Box w' w.heap.size [.int .i64 ax, .bool alo, .int .i64 alk, .int .i64 aln, .string als, .bool ali, .bool aho, .int .i64 ahk, .int .i64 ahn, .string ahs, .bool ahi, .bool false]) ∧ (Box w' (w.heap.size + 1) [.int .i64 bx, .bool blo, .int .i64 blk, .int .i64 bln, .string bls, .bool bli, .bool bho, .int .i64 bhk, .int .i64 bhn, .string bhs, .bool bhi, .bool be])) _ := ⟨HA.out, HB.out⟩
        clear h
        refine hK.out _ _ (⟨HA.out, HB.out⟩) ?_
        clear hK K2
        try simp only [Act.put, List.setIfInBounds_toArray, List.set_cons_zero, List.set_cons_succ]
        generalize wd.alloc (.cells #[.int .i64 0, .bool false, .int .i64 0, .int .i64 0, .string ⟨#[]⟩, .bool false, .bool false, .int .i64 0, .int .i64 0, .string ⟨#[]⟩, .bool false, .bool false] 32) = w5 at *
        generalize wd.heap.size = g at *
        refine stage_all (rs := [6]) (by kernel_rfl) (by simp) (fun i0 hi0 => ?_)
        obtain rfl : i0 = 6 := by simpa using hi0
        refine stage_step (S := fun (L' : Array Bool) (w' : World) => (Box w' w.heap.size [.int .i64 ax, .bool alo, .int .i64 alk, .int .i64 aln, .string als, .bool ali, .bool aho, .int .i64 ahk, .int .i64 ahn, .string ahs, .bool ahi, .bool false]) ∧ (Box w' (w.heap.size + 1) [.int .i64 bx, .bool blo, .int .i64 blk, .int .i64 bln, .string bls, .bool bli, .bool bho, .int .i64 bhk, .int .i64 bhn, .string bhs, .bool bhi, .bool be])) (o := { dst := some 13, op := Go.Op.call { callee := Go.Callee.value (Go.Operand.func 41), args := #[Go.Operand.tmp 10, Go.Operand.tmp 12, Go.Operand.const (Go.Value.int Go.IntKind.i64 1)], argTypes := #[30, 30, 3] }, type := 30, pos := "plan.go:58", after := #[{ on := 3, ground := Go.Ground.data }, { on := 5, ground := Go.Ground.data }], guard := none }) (by rfl) (fun K2 hK => ?_)
        go_simp
        go_wp2_with (go_at_call 41; (with_reducible refine (hlo _).mono ?_); rintro e w6 ⟨rfl, h⟩)
        clear hS0
        replace HA := Lib.hid (HA.out.step h)
        replace HB := Lib.hid (HB.out.step h)
        replace HR := Lib.hid (HR.out.step h)
        replace HF := Lib.hid (below_step' HF.out h)
        (try replace HP := Lib.hid (HP.out.step h))
        have hS0 : (fun w' : World => (Box w' w.heap.size [.int .i64 ax, .bool alo, .int .i64 alk, .int .i64 aln, .string als, .bool ali, .bool aho, .int .i64 ahk, .int .i64 ahn, .string ahs, .bool ahi, .bool false]) ∧ (Box w' (w.heap.size + 1) [.int .i64 bx, .bool blo, .int .i64 blk, .int .i64 bln, .string bls, .bool bli, .bool bho, .int .i64 bhk, .int .i64 bhn, .string bhs, .bool bhi, .bool be])) _ := ⟨HA.out, HB.out⟩
        clear h
        refine hK.out _ _ (⟨HA.out, HB.out⟩) ?_
        clear hK K2
        try simp only [Act.put, List.setIfInBounds_toArray, List.set_cons_zero, List.set_cons_succ]
        refine stage_all (rs := [11]) (by kernel_rfl) (by simp) (fun i0 hi0 => ?_)
        obtain rfl : i0 = 11 := by simpa using hi0
        refine stage_step (S := fun (L' : Array Bool) (w' : World) => (Box w' w.heap.size [.int .i64 ax, .bool alo, .int .i64 alk, .int .i64 aln, .string als, .bool ali, .bool aho, .int .i64 ahk, .int .i64 ahn, .string ahs, .bool ahi, .bool false]) ∧ (Box w' (w.heap.size + 1) [.int .i64 bx, .bool blo, .int .i64 blk, .int .i64 bln, .string bls, .bool bli, .bool bho, .int .i64 bhk, .int .i64 bhn, .string bhs, .bool bhi, .bool be])) (o := { dst := some 18, op := Go.Op.call { callee := Go.Callee.value (Go.Operand.func 41), args := #[Go.Operand.tmp 15, Go.Operand.tmp 17, Go.Operand.const (Go.Value.int Go.IntKind.i64 (-1))], argTypes := #[30, 30, 3] }, type := 30, pos := "plan.go:58", after := #[{ on := 8, ground := Go.Ground.data }, { on := 10, ground := Go.Ground.data }, { on := 6, ground := Go.Ground.chain }], guard := none }) (by rfl) (fun K2 hK => ?_)
        go_simp
        go_wp2_with (go_at_call 41; (with_reducible refine (hhi _).mono ?_); rintro e w7 ⟨rfl, h⟩)
        clear hS0
        replace HA := Lib.hid (HA.out.step h)
        replace HB := Lib.hid (HB.out.step h)
        replace HR := Lib.hid (HR.out.step h)
        replace HF := Lib.hid (below_step' HF.out h)
        (try replace HP := Lib.hid (HP.out.step h))
        have hS0 : (fun w' : World => (Box w' w.heap.size [.int .i64 ax, .bool alo, .int .i64 alk, .int .i64 aln, .string als, .bool ali, .bool aho, .int .i64 ahk, .int .i64 ahn, .string ahs, .bool ahi, .bool false]) ∧ (Box w' (w.heap.size + 1) [.int .i64 bx, .bool blo, .int .i64 blk, .int .i64 bln, .string bls, .bool bli, .bool bho, .int .i64 bhk, .int .i64 bhn, .string bhs, .bool bhi, .bool be])) _ := ⟨HA.out, HB.out⟩
        clear h
        refine hK.out _ _ (⟨HA.out, HB.out⟩) ?_
        clear hK K2
        try simp only [Act.put, List.setIfInBounds_toArray, List.set_cons_zero, List.set_cons_succ]
        refine stage_take (i := 14) (oi := { dst := some 21, op := Go.Op.move (Go.Operand.tmp 20), type := 4, pos := "plan.go:58", after := #[{ on := 13, ground := Go.Ground.data }, { on := 11, ground := Go.Ground.chain }], guard := none }) (v := ?_) (T := fun _ => True) rfl (by kernel_rfl) (by kernel_rfl) (by kernel_rfl) (by kernel_rfl) (fun _ _ _ h => h) (fun L' w' hW hS => trivial) (fun L' w' hS => hS) (Or.inl ⟨by rfl, ?_⟩) trivial (hS0) ?_
        rotate_left 1
        · intro w9 _; go_simp; (try with_reducible rfl)
        try simp only [Act.put, List.setIfInBounds_toArray, List.set_cons_zero, List.set_cons_succ]
        refine stage_take (i := 15) (oi := { dst := some 22, op := Go.Op.fieldAddr 32 (Go.Operand.tmp 3) 3, type := 0, pos := "plan.go:58", after := #[{ on := 14, ground := Go.Ground.guard }], guard := some (14, false) }) (v := ?_) (T := fun _ => True) rfl (by kernel_rfl) (by kernel_rfl) (by kernel_rfl) (by kernel_rfl) (fun _ _ _ h => h) (fun L' w' hW hS => trivial) (fun L' w' hS => hS) (Or.inl ⟨by rfl, ?_⟩) trivial (hS0) ?_
        rotate_left 1
        · intro w9 _; go_simp; (try with_reducible rfl)
        try simp only [Act.put, List.setIfInBounds_toArray, List.set_cons_zero, List.set_cons_succ]
        refine stage_take (i := 16) (oi := { dst := some 23, op := Go.Op.load 4 (Go.Operand.tmp 22), type := 4, pos := "plan.go:58", after := #[{ on := 15, ground := Go.Ground.data }, { on := 14, ground := Go.Ground.guard }], guard := some (14, false) }) (v := ?_) (T := fun w' : World => (Box w' w.heap.size [.int .i64 ax, .bool alo, .int .i64 alk, .int .i64 aln, .string als, .bool ali, .bool aho, .int .i64 ahk, .int .i64 ahn, .string ahs, .bool ahi, .bool false]) ∧ (Box w' (w.heap.size + 1) [.int .i64 bx, .bool blo, .int .i64 blk, .int .i64 bln, .string bls, .bool bli, .bool bho, .int .i64 bhk, .int .i64 bhn, .string bhs, .bool bhi, .bool be])) rfl (by kernel_rfl) (by kernel_rfl) (by kernel_rfl) (by kernel_rfl) (fun _ _ _ h => h) (fun L' w' hW hS => hS) (fun L' w' hS => hS) (Or.inl ⟨by rfl, ?_⟩) (hS0) (hS0) ?_
        rotate_left 1
        · intro w9 hS9; obtain ⟨zA, zB⟩ := hS9; have zA0 := zA.c 0 _ rfl; have zB0 := zB.c 0 _ rfl; have zA1 := zA.c 1 _ rfl; have zB1 := zB.c 1 _ rfl; have zA2 := zA.c 2 _ rfl; have zB2 := zB.c 2 _ rfl; have zA3 := zA.c 3 _ rfl; have zB3 := zB.c 3 _ rfl; have zA4 := zA.c 4 _ rfl; have zB4 := zB.c 4 _ rfl; have zA5 := zA.c 5 _ rfl; have zB5 := zB.c 5 _ rfl; have zA6 := zA.c 6 _ rfl; have zB6 := zB.c 6 _ rfl; have zA7 := zA.c 7 _ rfl; have zB7 := zB.c 7 _ rfl; have zA8 := zA.c 8 _ rfl; have zB8 := zB.c 8 _ rfl; have zA9 := zA.c 9 _ rfl; have zB9 := zB.c 9 _ rfl; have zA10 := zA.c 10 _ rfl; have zB10 := zB.c 10 _ rfl; have zA11 := zA.c 11 _ rfl; have zB11 := zB.c 11 _ rfl; clear zA zB; go_simp; (try with_reducible rfl)
        try simp only [Act.put, List.setIfInBounds_toArray, List.set_cons_zero, List.set_cons_succ]
        refine stage_take (i := 17) (oi := { dst := some 24, op := Go.Op.pick (Go.Operand.tmp 21) (Go.Operand.const (Go.Value.bool true)) (Go.Operand.tmp 23), type := 4, pos := "plan.go:58", after := #[{ on := 14, ground := Go.Ground.data }, { on := 16, ground := Go.Ground.data }], guard := none }) (v := ?_) (T := fun _ => True) rfl (by kernel_rfl) (by kernel_rfl) (by kernel_rfl) (by kernel_rfl) (fun _ _ _ h => h) (fun L' w' hW hS => trivial) (fun L' w' hS => hS) (Or.inl ⟨by rfl, ?_⟩) trivial (hS0) ?_
        rotate_left 1
        · intro w9 _; go_simp; (try with_reducible rfl)
        try simp only [Act.put, List.setIfInBounds_toArray, List.set_cons_zero, List.set_cons_succ]
        refine stage_take (i := 18) (oi := { dst := some 25, op := Go.Op.build 32 #[(0, Go.Operand.tmp 8), (1, Go.Operand.tmp 13), (2, Go.Operand.tmp 18), (3, Go.Operand.tmp 24)], type := 32, pos := "plan.go:58", after := #[{ on := 1, ground := Go.Ground.data }, { on := 6, ground := Go.Ground.data }, { on := 11, ground := Go.Ground.data }, { on := 17, ground := Go.Ground.data }], guard := none }) (v := ?_) (T := fun _ => True) rfl (by kernel_rfl) (by kernel_rfl) (by kernel_rfl) (by kernel_rfl) (fun _ _ _ h => h) (fun L' w' hW hS => trivial) (fun L' w' hS => hS) (Or.inl ⟨by rfl, ?_⟩) trivial (hS0) ?_
        rotate_left 1
        · intro w9 _; go_simp; (try with_reducible rfl)
        try simp only [Act.put, List.setIfInBounds_toArray, List.set_cons_zero, List.set_cons_succ]
        refine stage_all (rs := [20]) (by kernel_rfl) (by simp) (fun i0 hi0 => ?_)
        obtain rfl : i0 = 20 := by simpa using hi0
        refine stage_step (S := fun (L' : Array Bool) (w' : World) => (Box w' w.heap.size [.int .i64 ax, .bool alo, .int .i64 alk, .int .i64 aln, .string als, .bool ali, .bool aho, .int .i64 ahk, .int .i64 ahn, .string ahs, .bool ahi, .bool false]) ∧ (Box w' (w.heap.size + 1) [.int .i64 bx, .bool blo, .int .i64 blk, .int .i64 bln, .string bls, .bool bli, .bool bho, .int .i64 bhk, .int .i64 bhn, .string bhs, .bool bhi, .bool be])) (o := { dst := none, op := Go.Op.store 32 (Go.Operand.tmp 5) (Go.Operand.tmp 25), type := 0, pos := "plan.go:58", after := #[{ on := 19, ground := Go.Ground.data }, { on := 18, ground := Go.Ground.data }, { on := 14, ground := Go.Ground.chain }, { on := 0, ground := Go.Ground.phase }, { on := 1, ground := Go.Ground.phase }, { on := 2, ground := Go.Ground.phase }, { on := 3, ground := Go.Ground.phase }, { on := 4, ground := Go.Ground.phase }, { on := 5, ground := Go.Ground.phase }, { on := 6, ground := Go.Ground.phase }, { on := 7, ground := Go.Ground.phase }, { on := 8, ground := Go.Ground.phase }, { on := 9, ground := Go.Ground.phase }, { on := 10, ground := Go.Ground.phase }, { on := 11, ground := Go.Ground.phase }, { on := 12, ground := Go.Ground.phase }, { on := 13, ground := Go.Ground.phase }, { on := 14, ground := Go.Ground.phase }, { on := 15, ground := Go.Ground.phase }, { on := 16, ground := Go.Ground.phase }, { on := 17, ground := Go.Ground.phase }, { on := 18, ground := Go.Ground.phase }, { on := 19, ground := Go.Ground.phase }], guard := none }) (by rfl) (fun K2 hK => ?_)
        have cHP0 := HP.out.c 0 _ rfl; have fHP0 := HP.out.f 0 (by simp); have cHP1 := HP.out.c 1 _ rfl; have fHP1 := HP.out.f 1 (by simp); have cHP2 := HP.out.c 2 _ rfl; have fHP2 := HP.out.f 2 (by simp); have cHP3 := HP.out.c 3 _ rfl; have fHP3 := HP.out.f 3 (by simp); have cHP4 := HP.out.c 4 _ rfl; have fHP4 := HP.out.f 4 (by simp); have cHP5 := HP.out.c 5 _ rfl; have fHP5 := HP.out.f 5 (by simp); have cHP6 := HP.out.c 6 _ rfl; have fHP6 := HP.out.f 6 (by simp); have cHP7 := HP.out.c 7 _ rfl; have fHP7 := HP.out.f 7 (by simp); have cHP8 := HP.out.c 8 _ rfl; have fHP8 := HP.out.f 8 (by simp); have cHP9 := HP.out.c 9 _ rfl; have fHP9 := HP.out.f 9 (by simp); have cHP10 := HP.out.c 10 _ rfl; have fHP10 := HP.out.f 10 (by simp); have cHP11 := HP.out.c 11 _ rfl; have fHP11 := HP.out.f 11 (by simp); have lHP := HP.out.lt
        go_simp
        clear cHP0 fHP0 cHP1 fHP1 cHP2 fHP2 cHP3 fHP3 cHP4 fHP4 cHP5 fHP5 cHP6 fHP6 cHP7 fHP7 cHP8 fHP8 cHP9 fHP9 cHP10 fHP10 cHP11 fHP11 lHP
        have hP1 := puts12 HP.out (.int .i64 ax) (.bool lo.op) (.int .i64 lo.v.k) (.int .i64 lo.v.n) (.string lo.v.s) (.bool lo.inn) (.bool hi.op) (.int .i64 hi.v.k) (.int .i64 hi.v.n) (.string hi.v.s) (.bool hi.inn) (.bool be)
        replace HA := Lib.hid (puts12_other HA.out (show g ≠ w.heap.size by omega) (.int .i64 ax) (.bool lo.op) (.int .i64 lo.v.k) (.int .i64 lo.v.n) (.string lo.v.s) (.bool lo.inn) (.bool hi.op) (.int .i64 hi.v.k) (.int .i64 hi.v.n) (.string hi.v.s) (.bool hi.inn) (.bool be))
        replace HB := Lib.hid (puts12_other HB.out (show g ≠ w.heap.size + 1 by omega) (.int .i64 ax) (.bool lo.op) (.int .i64 lo.v.k) (.int .i64 lo.v.n) (.string lo.v.s) (.bool lo.inn) (.bool hi.op) (.int .i64 hi.v.k) (.int .i64 hi.v.n) (.string hi.v.s) (.bool hi.inn) (.bool be))
        replace HR := Lib.hid (puts12_other HR.out (show g ≠ w.heap.size + 1 + 1 by omega) (.int .i64 ax) (.bool lo.op) (.int .i64 lo.v.k) (.int .i64 lo.v.n) (.string lo.v.s) (.bool lo.inn) (.bool hi.op) (.int .i64 hi.v.k) (.int .i64 hi.v.n) (.string hi.v.s) (.bool hi.inn) (.bool be))
        replace HF := Lib.hid (puts12_below HF.out (show w.heap.size ≤ g by omega) (.int .i64 ax) (.bool lo.op) (.int .i64 lo.v.k) (.int .i64 lo.v.n) (.string lo.v.s) (.bool lo.inn) (.bool hi.op) (.int .i64 hi.v.k) (.int .i64 hi.v.n) (.string hi.v.s) (.bool hi.inn) (.bool be))
        refine hK.out _ _ (⟨HA.out, HB.out⟩) ?_
        clear hK K2
        try simp only [Act.put, List.setIfInBounds_toArray, List.set_cons_zero, List.set_cons_succ]
        refine stage_done (by kernel_rfl) ?_ _
        go_wp2_with fail
        go_meet
        exact ⟨g, rfl, Lib.hid hP1, hg, HA, HR, HF⟩
    · refine stage_begin (S := fun (L' : Array Bool) (w' : World) => (Box w' w.heap.size [.int .i64 ax, .bool alo, .int .i64 alk, .int .i64 aln, .string als, .bool ali, .bool aho, .int .i64 ahk, .int .i64 ahn, .string ahs, .bool ahi, .bool true]) ∧ (Box w' (w.heap.size + 1) [.int .i64 bx, .bool blo, .int .i64 blk, .int .i64 bln, .string bls, .bool bli, .bool bho, .int .i64 bhk, .int .i64 bhn, .string bhs, .bool bhi, .bool be])) (by kernel_rfl) ?_
      replace HA := Lib.hid HA.out.drew
      replace HB := Lib.hid HB.out.drew
      replace HR := Lib.hid HR.out.drew
      replace HF : Hid (Below w.heap.size w w3.drew) := Lib.hid (below_drewN HF.out 1)
      generalize w3.drew = wd at *
      have hS0 : (fun w' : World => (Box w' w.heap.size [.int .i64 ax, .bool alo, .int .i64 alk, .int .i64 aln, .string als, .bool ali, .bool aho, .int .i64 ahk, .int .i64 ahn, .string ahs, .bool ahi, .bool true]) ∧ (Box w' (w.heap.size + 1) [.int .i64 bx, .bool blo, .int .i64 blk, .int .i64 bln, .string bls, .bool bli, .bool bho, .int .i64 bhk, .int .i64 bhn, .string bhs, .bool bhi, .bool be])) wd := ⟨HA.out, HB.out⟩
      refine stage_take (i := 0) (oi := { dst := some 7, op := Go.Op.fieldAddr 32 (Go.Operand.tmp 2) 0, type := 0, pos := "plan.go:58", after := #[], guard := none }) (v := ?_) (T := fun _ => True) rfl (by kernel_rfl) (by kernel_rfl) (by kernel_rfl) (by kernel_rfl) (fun _ _ _ h => h) (fun L' w' hW hS => trivial) (fun L' w' hS => hS) (Or.inl ⟨by rfl, ?_⟩) trivial (hS0) ?_
      rotate_left 1
      · intro w9 _; go_simp; (try with_reducible rfl)
      try simp only [Act.put, List.setIfInBounds_toArray, List.set_cons_zero, List.set_cons_succ]
      refine stage_take (i := 1) (oi := { dst := some 8, op := Go.Op.load 3 (Go.Operand.tmp 7), type := 3, pos := "plan.go:58", after := #[{ on := 0, ground := Go.Ground.data }], guard := none }) (v := ?_) (T := fun w' : World => (Box w' w.heap.size [.int .i64 ax, .bool alo, .int .i64 alk, .int .i64 aln, .string als, .bool ali, .bool aho, .int .i64 ahk, .int .i64 ahn, .string ahs, .bool ahi, .bool true]) ∧ (Box w' (w.heap.size + 1) [.int .i64 bx, .bool blo, .int .i64 blk, .int .i64 bln, .string bls, .bool bli, .bool bho, .int .i64 bhk, .int .i64 bhn, .string bhs, .bool bhi, .bool be])) rfl (by kernel_rfl) (by kernel_rfl) (by kernel_rfl) (by kernel_rfl) (fun _ _ _ h => h) (fun L' w' hW hS => hS) (fun L' w' hS => hS) (Or.inl ⟨by rfl, ?_⟩) (hS0) (hS0) ?_
      rotate_left 1
      · intro w9 hS9; obtain ⟨zA, zB⟩ := hS9; have zA0 := zA.c 0 _ rfl; have zB0 := zB.c 0 _ rfl; have zA1 := zA.c 1 _ rfl; have zB1 := zB.c 1 _ rfl; have zA2 := zA.c 2 _ rfl; have zB2 := zB.c 2 _ rfl; have zA3 := zA.c 3 _ rfl; have zB3 := zB.c 3 _ rfl; have zA4 := zA.c 4 _ rfl; have zB4 := zB.c 4 _ rfl; have zA5 := zA.c 5 _ rfl; have zB5 := zB.c 5 _ rfl; have zA6 := zA.c 6 _ rfl; have zB6 := zB.c 6 _ rfl; have zA7 := zA.c 7 _ rfl; have zB7 := zB.c 7 _ rfl; have zA8 := zA.c 8 _ rfl; have zB8 := zB.c 8 _ rfl; have zA9 := zA.c 9 _ rfl; have zB9 := zB.c 9 _ rfl; have zA10 := zA.c 10 _ rfl; have zB10 := zB.c 10 _ rfl; have zA11 := zA.c 11 _ rfl; have zB11 := zB.c 11 _ rfl; clear zA zB; go_simp; (try with_reducible rfl)
      try simp only [Act.put, List.setIfInBounds_toArray, List.set_cons_zero, List.set_cons_succ]
      refine stage_take (i := 2) (oi := { dst := some 9, op := Go.Op.fieldAddr 32 (Go.Operand.tmp 2) 1, type := 0, pos := "plan.go:58", after := #[], guard := none }) (v := ?_) (T := fun _ => True) rfl (by kernel_rfl) (by kernel_rfl) (by kernel_rfl) (by kernel_rfl) (fun _ _ _ h => h) (fun L' w' hW hS => trivial) (fun L' w' hS => hS) (Or.inl ⟨by rfl, ?_⟩) trivial (hS0) ?_
      rotate_left 1
      · intro w9 _; go_simp; (try with_reducible rfl)
      try simp only [Act.put, List.setIfInBounds_toArray, List.set_cons_zero, List.set_cons_succ]
      refine stage_take (i := 3) (oi := { dst := some 10, op := Go.Op.load 30 (Go.Operand.tmp 9), type := 30, pos := "plan.go:58", after := #[{ on := 2, ground := Go.Ground.data }], guard := none }) (v := ?_) (T := fun w' : World => (Box w' w.heap.size [.int .i64 ax, .bool alo, .int .i64 alk, .int .i64 aln, .string als, .bool ali, .bool aho, .int .i64 ahk, .int .i64 ahn, .string ahs, .bool ahi, .bool true]) ∧ (Box w' (w.heap.size + 1) [.int .i64 bx, .bool blo, .int .i64 blk, .int .i64 bln, .string bls, .bool bli, .bool bho, .int .i64 bhk, .int .i64 bhn, .string bhs, .bool bhi, .bool be])) rfl (by kernel_rfl) (by kernel_rfl) (by kernel_rfl) (by kernel_rfl) (fun _ _ _ h => h) (fun L' w' hW hS => hS) (fun L' w' hS => hS) (Or.inl ⟨by rfl, ?_⟩) (hS0) (hS0) ?_
      rotate_left 1
      · intro w9 hS9; obtain ⟨zA, zB⟩ := hS9; have zA0 := zA.c 0 _ rfl; have zB0 := zB.c 0 _ rfl; have zA1 := zA.c 1 _ rfl; have zB1 := zB.c 1 _ rfl; have zA2 := zA.c 2 _ rfl; have zB2 := zB.c 2 _ rfl; have zA3 := zA.c 3 _ rfl; have zB3 := zB.c 3 _ rfl; have zA4 := zA.c 4 _ rfl; have zB4 := zB.c 4 _ rfl; have zA5 := zA.c 5 _ rfl; have zB5 := zB.c 5 _ rfl; have zA6 := zA.c 6 _ rfl; have zB6 := zB.c 6 _ rfl; have zA7 := zA.c 7 _ rfl; have zB7 := zB.c 7 _ rfl; have zA8 := zA.c 8 _ rfl; have zB8 := zB.c 8 _ rfl; have zA9 := zA.c 9 _ rfl; have zB9 := zB.c 9 _ rfl; have zA10 := zA.c 10 _ rfl; have zB10 := zB.c 10 _ rfl; have zA11 := zA.c 11 _ rfl; have zB11 := zB.c 11 _ rfl; clear zA zB; go_simp; (try with_reducible rfl)
      try simp only [Act.put, List.setIfInBounds_toArray, List.set_cons_zero, List.set_cons_succ]
      refine stage_take (i := 4) (oi := { dst := some 11, op := Go.Op.fieldAddr 32 (Go.Operand.tmp 3) 1, type := 0, pos := "plan.go:58", after := #[], guard := none }) (v := ?_) (T := fun _ => True) rfl (by kernel_rfl) (by kernel_rfl) (by kernel_rfl) (by kernel_rfl) (fun _ _ _ h => h) (fun L' w' hW hS => trivial) (fun L' w' hS => hS) (Or.inl ⟨by rfl, ?_⟩) trivial (hS0) ?_
      rotate_left 1
      · intro w9 _; go_simp; (try with_reducible rfl)
      try simp only [Act.put, List.setIfInBounds_toArray, List.set_cons_zero, List.set_cons_succ]
      refine stage_take (i := 5) (oi := { dst := some 12, op := Go.Op.load 30 (Go.Operand.tmp 11), type := 30, pos := "plan.go:58", after := #[{ on := 4, ground := Go.Ground.data }], guard := none }) (v := ?_) (T := fun w' : World => (Box w' w.heap.size [.int .i64 ax, .bool alo, .int .i64 alk, .int .i64 aln, .string als, .bool ali, .bool aho, .int .i64 ahk, .int .i64 ahn, .string ahs, .bool ahi, .bool true]) ∧ (Box w' (w.heap.size + 1) [.int .i64 bx, .bool blo, .int .i64 blk, .int .i64 bln, .string bls, .bool bli, .bool bho, .int .i64 bhk, .int .i64 bhn, .string bhs, .bool bhi, .bool be])) rfl (by kernel_rfl) (by kernel_rfl) (by kernel_rfl) (by kernel_rfl) (fun _ _ _ h => h) (fun L' w' hW hS => hS) (fun L' w' hS => hS) (Or.inl ⟨by rfl, ?_⟩) (hS0) (hS0) ?_
      rotate_left 1
      · intro w9 hS9; obtain ⟨zA, zB⟩ := hS9; have zA0 := zA.c 0 _ rfl; have zB0 := zB.c 0 _ rfl; have zA1 := zA.c 1 _ rfl; have zB1 := zB.c 1 _ rfl; have zA2 := zA.c 2 _ rfl; have zB2 := zB.c 2 _ rfl; have zA3 := zA.c 3 _ rfl; have zB3 := zB.c 3 _ rfl; have zA4 := zA.c 4 _ rfl; have zB4 := zB.c 4 _ rfl; have zA5 := zA.c 5 _ rfl; have zB5 := zB.c 5 _ rfl; have zA6 := zA.c 6 _ rfl; have zB6 := zB.c 6 _ rfl; have zA7 := zA.c 7 _ rfl; have zB7 := zB.c 7 _ rfl; have zA8 := zA.c 8 _ rfl; have zB8 := zB.c 8 _ rfl; have zA9 := zA.c 9 _ rfl; have zB9 := zB.c 9 _ rfl; have zA10 := zA.c 10 _ rfl; have zB10 := zB.c 10 _ rfl; have zA11 := zA.c 11 _ rfl; have zB11 := zB.c 11 _ rfl; clear zA zB; go_simp; (try with_reducible rfl)
      try simp only [Act.put, List.setIfInBounds_toArray, List.set_cons_zero, List.set_cons_succ]
      refine stage_take (i := 7) (oi := { dst := some 14, op := Go.Op.fieldAddr 32 (Go.Operand.tmp 2) 2, type := 0, pos := "plan.go:58", after := #[], guard := none }) (v := ?_) (T := fun _ => True) rfl (by kernel_rfl) (by kernel_rfl) (by kernel_rfl) (by kernel_rfl) (fun _ _ _ h => h) (fun L' w' hW hS => trivial) (fun L' w' hS => hS) (Or.inl ⟨by rfl, ?_⟩) trivial (hS0) ?_
      rotate_left 1
      · intro w9 _; go_simp; (try with_reducible rfl)
      try simp only [Act.put, List.setIfInBounds_toArray, List.set_cons_zero, List.set_cons_succ]
      refine stage_take (i := 8) (oi := { dst := some 15, op := Go.Op.load 30 (Go.Operand.tmp 14), type := 30, pos := "plan.go:58", after := #[{ on := 7, ground := Go.Ground.data }], guard := none }) (v := ?_) (T := fun w' : World => (Box w' w.heap.size [.int .i64 ax, .bool alo, .int .i64 alk, .int .i64 aln, .string als, .bool ali, .bool aho, .int .i64 ahk, .int .i64 ahn, .string ahs, .bool ahi, .bool true]) ∧ (Box w' (w.heap.size + 1) [.int .i64 bx, .bool blo, .int .i64 blk, .int .i64 bln, .string bls, .bool bli, .bool bho, .int .i64 bhk, .int .i64 bhn, .string bhs, .bool bhi, .bool be])) rfl (by kernel_rfl) (by kernel_rfl) (by kernel_rfl) (by kernel_rfl) (fun _ _ _ h => h) (fun L' w' hW hS => hS) (fun L' w' hS => hS) (Or.inl ⟨by rfl, ?_⟩) (hS0) (hS0) ?_
      rotate_left 1
      · intro w9 hS9; obtain ⟨zA, zB⟩ := hS9; have zA0 := zA.c 0 _ rfl; have zB0 := zB.c 0 _ rfl; have zA1 := zA.c 1 _ rfl; have zB1 := zB.c 1 _ rfl; have zA2 := zA.c 2 _ rfl; have zB2 := zB.c 2 _ rfl; have zA3 := zA.c 3 _ rfl; have zB3 := zB.c 3 _ rfl; have zA4 := zA.c 4 _ rfl; have zB4 := zB.c 4 _ rfl; have zA5 := zA.c 5 _ rfl; have zB5 := zB.c 5 _ rfl; have zA6 := zA.c 6 _ rfl; have zB6 := zB.c 6 _ rfl; have zA7 := zA.c 7 _ rfl; have zB7 := zB.c 7 _ rfl; have zA8 := zA.c 8 _ rfl; have zB8 := zB.c 8 _ rfl; have zA9 := zA.c 9 _ rfl; have zB9 := zB.c 9 _ rfl; have zA10 := zA.c 10 _ rfl; have zB10 := zB.c 10 _ rfl; have zA11 := zA.c 11 _ rfl; have zB11 := zB.c 11 _ rfl; clear zA zB; go_simp; (try with_reducible rfl)
      try simp only [Act.put, List.setIfInBounds_toArray, List.set_cons_zero, List.set_cons_succ]
      refine stage_take (i := 9) (oi := { dst := some 16, op := Go.Op.fieldAddr 32 (Go.Operand.tmp 3) 2, type := 0, pos := "plan.go:58", after := #[], guard := none }) (v := ?_) (T := fun _ => True) rfl (by kernel_rfl) (by kernel_rfl) (by kernel_rfl) (by kernel_rfl) (fun _ _ _ h => h) (fun L' w' hW hS => trivial) (fun L' w' hS => hS) (Or.inl ⟨by rfl, ?_⟩) trivial (hS0) ?_
      rotate_left 1
      · intro w9 _; go_simp; (try with_reducible rfl)
      try simp only [Act.put, List.setIfInBounds_toArray, List.set_cons_zero, List.set_cons_succ]
      refine stage_take (i := 10) (oi := { dst := some 17, op := Go.Op.load 30 (Go.Operand.tmp 16), type := 30, pos := "plan.go:58", after := #[{ on := 9, ground := Go.Ground.data }], guard := none }) (v := ?_) (T := fun w' : World => (Box w' w.heap.size [.int .i64 ax, .bool alo, .int .i64 alk, .int .i64 aln, .string als, .bool ali, .bool aho, .int .i64 ahk, .int .i64 ahn, .string ahs, .bool ahi, .bool true]) ∧ (Box w' (w.heap.size + 1) [.int .i64 bx, .bool blo, .int .i64 blk, .int .i64 bln, .string bls, .bool bli, .bool bho, .int .i64 bhk, .int .i64 bhn, .string bhs, .bool bhi, .bool be])) rfl (by kernel_rfl) (by kernel_rfl) (by kernel_rfl) (by kernel_rfl) (fun _ _ _ h => h) (fun L' w' hW hS => hS) (fun L' w' hS => hS) (Or.inl ⟨by rfl, ?_⟩) (hS0) (hS0) ?_
      rotate_left 1
      · intro w9 hS9; obtain ⟨zA, zB⟩ := hS9; have zA0 := zA.c 0 _ rfl; have zB0 := zB.c 0 _ rfl; have zA1 := zA.c 1 _ rfl; have zB1 := zB.c 1 _ rfl; have zA2 := zA.c 2 _ rfl; have zB2 := zB.c 2 _ rfl; have zA3 := zA.c 3 _ rfl; have zB3 := zB.c 3 _ rfl; have zA4 := zA.c 4 _ rfl; have zB4 := zB.c 4 _ rfl; have zA5 := zA.c 5 _ rfl; have zB5 := zB.c 5 _ rfl; have zA6 := zA.c 6 _ rfl; have zB6 := zB.c 6 _ rfl; have zA7 := zA.c 7 _ rfl; have zB7 := zB.c 7 _ rfl; have zA8 := zA.c 8 _ rfl; have zB8 := zB.c 8 _ rfl; have zA9 := zA.c 9 _ rfl; have zB9 := zB.c 9 _ rfl; have zA10 := zA.c 10 _ rfl; have zB10 := zB.c 10 _ rfl; have zA11 := zA.c 11 _ rfl; have zB11 := zB.c 11 _ rfl; clear zA zB; go_simp; (try with_reducible rfl)
      try simp only [Act.put, List.setIfInBounds_toArray, List.set_cons_zero, List.set_cons_succ]
      refine stage_take (i := 12) (oi := { dst := some 19, op := Go.Op.fieldAddr 32 (Go.Operand.tmp 2) 3, type := 0, pos := "plan.go:58", after := #[], guard := none }) (v := ?_) (T := fun _ => True) rfl (by kernel_rfl) (by kernel_rfl) (by kernel_rfl) (by kernel_rfl) (fun _ _ _ h => h) (fun L' w' hW hS => trivial) (fun L' w' hS => hS) (Or.inl ⟨by rfl, ?_⟩) trivial (hS0) ?_
      rotate_left 1
      · intro w9 _; go_simp; (try with_reducible rfl)
      try simp only [Act.put, List.setIfInBounds_toArray, List.set_cons_zero, List.set_cons_succ]
      refine stage_take (i := 13) (oi := { dst := some 20, op := Go.Op.load 4 (Go.Operand.tmp 19), type := 4, pos := "plan.go:58", after := #[{ on := 12, ground := Go.Ground.data }], guard := none }) (v := ?_) (T := fun w' : World => (Box w' w.heap.size [.int .i64 ax, .bool alo, .int .i64 alk, .int .i64 aln, .string als, .bool ali, .bool aho, .int .i64 ahk, .int .i64 ahn, .string ahs, .bool ahi, .bool true]) ∧ (Box w' (w.heap.size + 1) [.int .i64 bx, .bool blo, .int .i64 blk, .int .i64 bln, .string bls, .bool bli, .bool bho, .int .i64 bhk, .int .i64 bhn, .string bhs, .bool bhi, .bool be])) rfl (by kernel_rfl) (by kernel_rfl) (by kernel_rfl) (by kernel_rfl) (fun _ _ _ h => h) (fun L' w' hW hS => hS) (fun L' w' hS => hS) (Or.inl ⟨by rfl, ?_⟩) (hS0) (hS0) ?_
      rotate_left 1
      · intro w9 hS9; obtain ⟨zA, zB⟩ := hS9; have zA0 := zA.c 0 _ rfl; have zB0 := zB.c 0 _ rfl; have zA1 := zA.c 1 _ rfl; have zB1 := zB.c 1 _ rfl; have zA2 := zA.c 2 _ rfl; have zB2 := zB.c 2 _ rfl; have zA3 := zA.c 3 _ rfl; have zB3 := zB.c 3 _ rfl; have zA4 := zA.c 4 _ rfl; have zB4 := zB.c 4 _ rfl; have zA5 := zA.c 5 _ rfl; have zB5 := zB.c 5 _ rfl; have zA6 := zA.c 6 _ rfl; have zB6 := zB.c 6 _ rfl; have zA7 := zA.c 7 _ rfl; have zB7 := zB.c 7 _ rfl; have zA8 := zA.c 8 _ rfl; have zB8 := zB.c 8 _ rfl; have zA9 := zA.c 9 _ rfl; have zB9 := zB.c 9 _ rfl; have zA10 := zA.c 10 _ rfl; have zB10 := zB.c 10 _ rfl; have zA11 := zA.c 11 _ rfl; have zB11 := zB.c 11 _ rfl; clear zA zB; go_simp; (try with_reducible rfl)
      try simp only [Act.put, List.setIfInBounds_toArray, List.set_cons_zero, List.set_cons_succ]
      refine stage_all (rs := [6, 19]) (by kernel_rfl) (by simp) (fun i0 hi0 => ?_)
      simp only [List.mem_cons, List.not_mem_nil, or_false] at hi0
      rcases hi0 with rfl | rfl
      · refine stage_step (S := fun (L' : Array Bool) (w' : World) => (Box w' w.heap.size [.int .i64 ax, .bool alo, .int .i64 alk, .int .i64 aln, .string als, .bool ali, .bool aho, .int .i64 ahk, .int .i64 ahn, .string ahs, .bool ahi, .bool true]) ∧ (Box w' (w.heap.size + 1) [.int .i64 bx, .bool blo, .int .i64 blk, .int .i64 bln, .string bls, .bool bli, .bool bho, .int .i64 bhk, .int .i64 bhn, .string bhs, .bool bhi, .bool be])) (o := { dst := some 13, op := Go.Op.call { callee := Go.Callee.value (Go.Operand.func 41), args := #[Go.Operand.tmp 10, Go.Operand.tmp 12, Go.Operand.const (Go.Value.int Go.IntKind.i64 1)], argTypes := #[30, 30, 3] }, type := 30, pos := "plan.go:58", after := #[{ on := 3, ground := Go.Ground.data }, { on := 5, ground := Go.Ground.data }], guard := none }) (by rfl) (fun K2 hK => ?_)
        go_simp
        go_wp2_with (go_at_call 41; (with_reducible refine (hlo _).mono ?_); rintro e w5 ⟨rfl, h⟩)
        clear hS0
        replace HA := Lib.hid (HA.out.step h)
        replace HB := Lib.hid (HB.out.step h)
        replace HR := Lib.hid (HR.out.step h)
        replace HF := Lib.hid (below_step' HF.out h)
        (try replace HP := Lib.hid (HP.out.step h))
        have hS0 : (fun w' : World => (Box w' w.heap.size [.int .i64 ax, .bool alo, .int .i64 alk, .int .i64 aln, .string als, .bool ali, .bool aho, .int .i64 ahk, .int .i64 ahn, .string ahs, .bool ahi, .bool true]) ∧ (Box w' (w.heap.size + 1) [.int .i64 bx, .bool blo, .int .i64 blk, .int .i64 bln, .string bls, .bool bli, .bool bho, .int .i64 bhk, .int .i64 bhn, .string bhs, .bool bhi, .bool be])) _ := ⟨HA.out, HB.out⟩
        clear h
        refine hK.out _ _ (⟨HA.out, HB.out⟩) ?_
        clear hK K2
        try simp only [Act.put, List.setIfInBounds_toArray, List.set_cons_zero, List.set_cons_succ]
        refine stage_all (rs := [11, 19]) (by kernel_rfl) (by simp) (fun i0 hi0 => ?_)
        simp only [List.mem_cons, List.not_mem_nil, or_false] at hi0
        rcases hi0 with rfl | rfl
        · refine stage_step (S := fun (L' : Array Bool) (w' : World) => (Box w' w.heap.size [.int .i64 ax, .bool alo, .int .i64 alk, .int .i64 aln, .string als, .bool ali, .bool aho, .int .i64 ahk, .int .i64 ahn, .string ahs, .bool ahi, .bool true]) ∧ (Box w' (w.heap.size + 1) [.int .i64 bx, .bool blo, .int .i64 blk, .int .i64 bln, .string bls, .bool bli, .bool bho, .int .i64 bhk, .int .i64 bhn, .string bhs, .bool bhi, .bool be])) (o := { dst := some 18, op := Go.Op.call { callee := Go.Callee.value (Go.Operand.func 41), args := #[Go.Operand.tmp 15, Go.Operand.tmp 17, Go.Operand.const (Go.Value.int Go.IntKind.i64 (-1))], argTypes := #[30, 30, 3] }, type := 30, pos := "plan.go:58", after := #[{ on := 8, ground := Go.Ground.data }, { on := 10, ground := Go.Ground.data }, { on := 6, ground := Go.Ground.chain }], guard := none }) (by rfl) (fun K2 hK => ?_)
          go_simp
          go_wp2_with (go_at_call 41; (with_reducible refine (hhi _).mono ?_); rintro e w6 ⟨rfl, h⟩)
          clear hS0
          replace HA := Lib.hid (HA.out.step h)
          replace HB := Lib.hid (HB.out.step h)
          replace HR := Lib.hid (HR.out.step h)
          replace HF := Lib.hid (below_step' HF.out h)
          (try replace HP := Lib.hid (HP.out.step h))
          have hS0 : (fun w' : World => (Box w' w.heap.size [.int .i64 ax, .bool alo, .int .i64 alk, .int .i64 aln, .string als, .bool ali, .bool aho, .int .i64 ahk, .int .i64 ahn, .string ahs, .bool ahi, .bool true]) ∧ (Box w' (w.heap.size + 1) [.int .i64 bx, .bool blo, .int .i64 blk, .int .i64 bln, .string bls, .bool bli, .bool bho, .int .i64 bhk, .int .i64 bhn, .string bhs, .bool bhi, .bool be])) _ := ⟨HA.out, HB.out⟩
          clear h
          refine hK.out _ _ (⟨HA.out, HB.out⟩) ?_
          clear hK K2
          try simp only [Act.put, List.setIfInBounds_toArray, List.set_cons_zero, List.set_cons_succ]
          refine stage_take (i := 14) (oi := { dst := some 21, op := Go.Op.move (Go.Operand.tmp 20), type := 4, pos := "plan.go:58", after := #[{ on := 13, ground := Go.Ground.data }, { on := 11, ground := Go.Ground.chain }], guard := none }) (v := ?_) (T := fun _ => True) rfl (by kernel_rfl) (by kernel_rfl) (by kernel_rfl) (by kernel_rfl) (fun _ _ _ h => h) (fun L' w' hW hS => trivial) (fun L' w' hS => hS) (Or.inl ⟨by rfl, ?_⟩) trivial (hS0) ?_
          rotate_left 1
          · intro w9 _; go_simp; (try with_reducible rfl)
          try simp only [Act.put, List.setIfInBounds_toArray, List.set_cons_zero, List.set_cons_succ]
          refine stage_take (i := 15) (oi := { dst := some 22, op := Go.Op.fieldAddr 32 (Go.Operand.tmp 3) 3, type := 0, pos := "plan.go:58", after := #[{ on := 14, ground := Go.Ground.guard }], guard := some (14, false) }) (v := undef) (T := fun _ => True) rfl (by kernel_rfl) (by kernel_rfl) (by kernel_rfl) (by kernel_rfl) (fun _ _ _ h => h) (fun L' w' hW hS => trivial) (fun L' w' hS => hS) (Or.inr ⟨by rfl, rfl⟩) trivial (hS0) ?_
          try simp only [Act.put, List.setIfInBounds_toArray, List.set_cons_zero, List.set_cons_succ]
          refine stage_take (i := 16) (oi := { dst := some 23, op := Go.Op.load 4 (Go.Operand.tmp 22), type := 4, pos := "plan.go:58", after := #[{ on := 15, ground := Go.Ground.data }, { on := 14, ground := Go.Ground.guard }], guard := some (14, false) }) (v := undef) (T := fun _ => True) rfl (by kernel_rfl) (by kernel_rfl) (by kernel_rfl) (by kernel_rfl) (fun _ _ _ h => h) (fun L' w' hW hS => trivial) (fun L' w' hS => hS) (Or.inr ⟨by rfl, rfl⟩) trivial (hS0) ?_
          try simp only [Act.put, List.setIfInBounds_toArray, List.set_cons_zero, List.set_cons_succ]
          refine stage_take (i := 17) (oi := { dst := some 24, op := Go.Op.pick (Go.Operand.tmp 21) (Go.Operand.const (Go.Value.bool true)) (Go.Operand.tmp 23), type := 4, pos := "plan.go:58", after := #[{ on := 14, ground := Go.Ground.data }, { on := 16, ground := Go.Ground.data }], guard := none }) (v := ?_) (T := fun _ => True) rfl (by kernel_rfl) (by kernel_rfl) (by kernel_rfl) (by kernel_rfl) (fun _ _ _ h => h) (fun L' w' hW hS => trivial) (fun L' w' hS => hS) (Or.inl ⟨by rfl, ?_⟩) trivial (hS0) ?_
          rotate_left 1
          · intro w9 _; go_simp; (try with_reducible rfl)
          try simp only [Act.put, List.setIfInBounds_toArray, List.set_cons_zero, List.set_cons_succ]
          refine stage_take (i := 18) (oi := { dst := some 25, op := Go.Op.build 32 #[(0, Go.Operand.tmp 8), (1, Go.Operand.tmp 13), (2, Go.Operand.tmp 18), (3, Go.Operand.tmp 24)], type := 32, pos := "plan.go:58", after := #[{ on := 1, ground := Go.Ground.data }, { on := 6, ground := Go.Ground.data }, { on := 11, ground := Go.Ground.data }, { on := 17, ground := Go.Ground.data }], guard := none }) (v := ?_) (T := fun _ => True) rfl (by kernel_rfl) (by kernel_rfl) (by kernel_rfl) (by kernel_rfl) (fun _ _ _ h => h) (fun L' w' hW hS => trivial) (fun L' w' hS => hS) (Or.inl ⟨by rfl, ?_⟩) trivial (hS0) ?_
          rotate_left 1
          · intro w9 _; go_simp; (try with_reducible rfl)
          try simp only [Act.put, List.setIfInBounds_toArray, List.set_cons_zero, List.set_cons_succ]
          refine stage_all (rs := [19]) (by kernel_rfl) (by simp) (fun i0 hi0 => ?_)
          obtain rfl : i0 = 19 := by simpa using hi0
          refine stage_step (S := fun (L' : Array Bool) (w' : World) => (Box w' w.heap.size [.int .i64 ax, .bool alo, .int .i64 alk, .int .i64 aln, .string als, .bool ali, .bool aho, .int .i64 ahk, .int .i64 ahn, .string ahs, .bool ahi, .bool true]) ∧ (Box w' (w.heap.size + 1) [.int .i64 bx, .bool blo, .int .i64 blk, .int .i64 bln, .string bls, .bool bli, .bool bho, .int .i64 bhk, .int .i64 bhn, .string bhs, .bool bhi, .bool be])) (o := { dst := some 5, op := Go.Op.alloc 32, type := 0, pos := "plan.go:58", after := #[], guard := none }) (by rfl) (fun K2 hK => ?_)
          go_simp
          have h := (Below.refl w6.heap.size w6).alloc (Nat.le_refl _) (.cells #[.int .i64 0, .bool false, .int .i64 0, .int .i64 0, .string ⟨#[]⟩, .bool false, .bool false, .int .i64 0, .int .i64 0, .string ⟨#[]⟩, .bool false, .bool false] 32)
          have HP := Lib.hid (Box.new w6 #[.int .i64 0, .bool false, .int .i64 0, .int .i64 0, .string ⟨#[]⟩, .bool false, .bool false, .int .i64 0, .int .i64 0, .string ⟨#[]⟩, .bool false, .bool false] 32)
          have hg : w.heap.size + 3 ≤ w6.heap.size := HR.out.lt
          clear hS0
          replace HA := Lib.hid (HA.out.step h)
          replace HB := Lib.hid (HB.out.step h)
          replace HR := Lib.hid (HR.out.step h)
          replace HF := Lib.hid (below_step' HF.out h)
          have hS0 : (fun w' : World => (Box w' w.heap.size [.int .i64 ax, .bool alo, .int .i64 alk, .int .i64 aln, .string als, .bool ali, .bool aho, .int .i64 ahk, .int .i64 ahn, .string ahs, .bool ahi, .bool true]) ∧ (Box w' (w.heap.size + 1) [.int .i64 bx, .bool blo, .int .i64 blk, .int .i64 bln, .string bls, .bool bli, .bool bho, .int .i64 bhk, .int .i64 bhn, .string bhs, .bool bhi, .bool be])) _ := ⟨HA.out, HB.out⟩
          clear h
          refine hK.out _ _ (⟨HA.out, HB.out⟩) ?_
          clear hK K2
          try simp only [Act.put, List.setIfInBounds_toArray, List.set_cons_zero, List.set_cons_succ]
          generalize w6.alloc (.cells #[.int .i64 0, .bool false, .int .i64 0, .int .i64 0, .string ⟨#[]⟩, .bool false, .bool false, .int .i64 0, .int .i64 0, .string ⟨#[]⟩, .bool false, .bool false] 32) = w7 at *
          generalize w6.heap.size = g at *
          refine stage_all (rs := [20]) (by kernel_rfl) (by simp) (fun i0 hi0 => ?_)
          obtain rfl : i0 = 20 := by simpa using hi0
          refine stage_step (S := fun (L' : Array Bool) (w' : World) => (Box w' w.heap.size [.int .i64 ax, .bool alo, .int .i64 alk, .int .i64 aln, .string als, .bool ali, .bool aho, .int .i64 ahk, .int .i64 ahn, .string ahs, .bool ahi, .bool true]) ∧ (Box w' (w.heap.size + 1) [.int .i64 bx, .bool blo, .int .i64 blk, .int .i64 bln, .string bls, .bool bli, .bool bho, .int .i64 bhk, .int .i64 bhn, .string bhs, .bool bhi, .bool be])) (o := { dst := none, op := Go.Op.store 32 (Go.Operand.tmp 5) (Go.Operand.tmp 25), type := 0, pos := "plan.go:58", after := #[{ on := 19, ground := Go.Ground.data }, { on := 18, ground := Go.Ground.data }, { on := 14, ground := Go.Ground.chain }, { on := 0, ground := Go.Ground.phase }, { on := 1, ground := Go.Ground.phase }, { on := 2, ground := Go.Ground.phase }, { on := 3, ground := Go.Ground.phase }, { on := 4, ground := Go.Ground.phase }, { on := 5, ground := Go.Ground.phase }, { on := 6, ground := Go.Ground.phase }, { on := 7, ground := Go.Ground.phase }, { on := 8, ground := Go.Ground.phase }, { on := 9, ground := Go.Ground.phase }, { on := 10, ground := Go.Ground.phase }, { on := 11, ground := Go.Ground.phase }, { on := 12, ground := Go.Ground.phase }, { on := 13, ground := Go.Ground.phase }, { on := 14, ground := Go.Ground.phase }, { on := 15, ground := Go.Ground.phase }, { on := 16, ground := Go.Ground.phase }, { on := 17, ground := Go.Ground.phase }, { on := 18, ground := Go.Ground.phase }, { on := 19, ground := Go.Ground.phase }], guard := none }) (by rfl) (fun K2 hK => ?_)
          have cHP0 := HP.out.c 0 _ rfl; have fHP0 := HP.out.f 0 (by simp); have cHP1 := HP.out.c 1 _ rfl; have fHP1 := HP.out.f 1 (by simp); have cHP2 := HP.out.c 2 _ rfl; have fHP2 := HP.out.f 2 (by simp); have cHP3 := HP.out.c 3 _ rfl; have fHP3 := HP.out.f 3 (by simp); have cHP4 := HP.out.c 4 _ rfl; have fHP4 := HP.out.f 4 (by simp); have cHP5 := HP.out.c 5 _ rfl; have fHP5 := HP.out.f 5 (by simp); have cHP6 := HP.out.c 6 _ rfl; have fHP6 := HP.out.f 6 (by simp); have cHP7 := HP.out.c 7 _ rfl; have fHP7 := HP.out.f 7 (by simp); have cHP8 := HP.out.c 8 _ rfl; have fHP8 := HP.out.f 8 (by simp); have cHP9 := HP.out.c 9 _ rfl; have fHP9 := HP.out.f 9 (by simp); have cHP10 := HP.out.c 10 _ rfl; have fHP10 := HP.out.f 10 (by simp); have cHP11 := HP.out.c 11 _ rfl; have fHP11 := HP.out.f 11 (by simp); have lHP := HP.out.lt
          go_simp
          clear cHP0 fHP0 cHP1 fHP1 cHP2 fHP2 cHP3 fHP3 cHP4 fHP4 cHP5 fHP5 cHP6 fHP6 cHP7 fHP7 cHP8 fHP8 cHP9 fHP9 cHP10 fHP10 cHP11 fHP11 lHP
          have hP1 := puts12 HP.out (.int .i64 ax) (.bool lo.op) (.int .i64 lo.v.k) (.int .i64 lo.v.n) (.string lo.v.s) (.bool lo.inn) (.bool hi.op) (.int .i64 hi.v.k) (.int .i64 hi.v.n) (.string hi.v.s) (.bool hi.inn) (.bool true)
          replace HA := Lib.hid (puts12_other HA.out (show g ≠ w.heap.size by omega) (.int .i64 ax) (.bool lo.op) (.int .i64 lo.v.k) (.int .i64 lo.v.n) (.string lo.v.s) (.bool lo.inn) (.bool hi.op) (.int .i64 hi.v.k) (.int .i64 hi.v.n) (.string hi.v.s) (.bool hi.inn) (.bool true))
          replace HB := Lib.hid (puts12_other HB.out (show g ≠ w.heap.size + 1 by omega) (.int .i64 ax) (.bool lo.op) (.int .i64 lo.v.k) (.int .i64 lo.v.n) (.string lo.v.s) (.bool lo.inn) (.bool hi.op) (.int .i64 hi.v.k) (.int .i64 hi.v.n) (.string hi.v.s) (.bool hi.inn) (.bool true))
          replace HR := Lib.hid (puts12_other HR.out (show g ≠ w.heap.size + 1 + 1 by omega) (.int .i64 ax) (.bool lo.op) (.int .i64 lo.v.k) (.int .i64 lo.v.n) (.string lo.v.s) (.bool lo.inn) (.bool hi.op) (.int .i64 hi.v.k) (.int .i64 hi.v.n) (.string hi.v.s) (.bool hi.inn) (.bool true))
          replace HF := Lib.hid (puts12_below HF.out (show w.heap.size ≤ g by omega) (.int .i64 ax) (.bool lo.op) (.int .i64 lo.v.k) (.int .i64 lo.v.n) (.string lo.v.s) (.bool lo.inn) (.bool hi.op) (.int .i64 hi.v.k) (.int .i64 hi.v.n) (.string hi.v.s) (.bool hi.inn) (.bool true))
          refine hK.out _ _ (⟨HA.out, HB.out⟩) ?_
          clear hK K2
          try simp only [Act.put, List.setIfInBounds_toArray, List.set_cons_zero, List.set_cons_succ]
          refine stage_done (by kernel_rfl) ?_ _
          go_wp2_with fail
          go_meet
          exact ⟨g, rfl, Lib.hid hP1, hg, HA, HR, HF⟩
        · refine stage_step (S := fun (L' : Array Bool) (w' : World) => (Box w' w.heap.size [.int .i64 ax, .bool alo, .int .i64 alk, .int .i64 aln, .string als, .bool ali, .bool aho, .int .i64 ahk, .int .i64 ahn, .string ahs, .bool ahi, .bool true]) ∧ (Box w' (w.heap.size + 1) [.int .i64 bx, .bool blo, .int .i64 blk, .int .i64 bln, .string bls, .bool bli, .bool bho, .int .i64 bhk, .int .i64 bhn, .string bhs, .bool bhi, .bool be])) (o := { dst := some 5, op := Go.Op.alloc 32, type := 0, pos := "plan.go:58", after := #[], guard := none }) (by rfl) (fun K2 hK => ?_)
          go_simp
          have h := (Below.refl w5.heap.size w5).alloc (Nat.le_refl _) (.cells #[.int .i64 0, .bool false, .int .i64 0, .int .i64 0, .string ⟨#[]⟩, .bool false, .bool false, .int .i64 0, .int .i64 0, .string ⟨#[]⟩, .bool false, .bool false] 32)
          have HP := Lib.hid (Box.new w5 #[.int .i64 0, .bool false, .int .i64 0, .int .i64 0, .string ⟨#[]⟩, .bool false, .bool false, .int .i64 0, .int .i64 0, .string ⟨#[]⟩, .bool false, .bool false] 32)
          have hg : w.heap.size + 3 ≤ w5.heap.size := HR.out.lt
          clear hS0
          replace HA := Lib.hid (HA.out.step h)
          replace HB := Lib.hid (HB.out.step h)
          replace HR := Lib.hid (HR.out.step h)
          replace HF := Lib.hid (below_step' HF.out h)
          have hS0 : (fun w' : World => (Box w' w.heap.size [.int .i64 ax, .bool alo, .int .i64 alk, .int .i64 aln, .string als, .bool ali, .bool aho, .int .i64 ahk, .int .i64 ahn, .string ahs, .bool ahi, .bool true]) ∧ (Box w' (w.heap.size + 1) [.int .i64 bx, .bool blo, .int .i64 blk, .int .i64 bln, .string bls, .bool bli, .bool bho, .int .i64 bhk, .int .i64 bhn, .string bhs, .bool bhi, .bool be])) _ := ⟨HA.out, HB.out⟩
          clear h
          refine hK.out _ _ (⟨HA.out, HB.out⟩) ?_
          clear hK K2
          try simp only [Act.put, List.setIfInBounds_toArray, List.set_cons_zero, List.set_cons_succ]
          generalize w5.alloc (.cells #[.int .i64 0, .bool false, .int .i64 0, .int .i64 0, .string ⟨#[]⟩, .bool false, .bool false, .int .i64 0, .int .i64 0, .string ⟨#[]⟩, .bool false, .bool false] 32) = w6 at *
          generalize w5.heap.size = g at *
          refine stage_all (rs := [11]) (by kernel_rfl) (by simp) (fun i0 hi0 => ?_)
          obtain rfl : i0 = 11 := by simpa using hi0
          refine stage_step (S := fun (L' : Array Bool) (w' : World) => (Box w' w.heap.size [.int .i64 ax, .bool alo, .int .i64 alk, .int .i64 aln, .string als, .bool ali, .bool aho, .int .i64 ahk, .int .i64 ahn, .string ahs, .bool ahi, .bool true]) ∧ (Box w' (w.heap.size + 1) [.int .i64 bx, .bool blo, .int .i64 blk, .int .i64 bln, .string bls, .bool bli, .bool bho, .int .i64 bhk, .int .i64 bhn, .string bhs, .bool bhi, .bool be])) (o := { dst := some 18, op := Go.Op.call { callee := Go.Callee.value (Go.Operand.func 41), args := #[Go.Operand.tmp 15, Go.Operand.tmp 17, Go.Operand.const (Go.Value.int Go.IntKind.i64 (-1))], argTypes := #[30, 30, 3] }, type := 30, pos := "plan.go:58", after := #[{ on := 8, ground := Go.Ground.data }, { on := 10, ground := Go.Ground.data }, { on := 6, ground := Go.Ground.chain }], guard := none }) (by rfl) (fun K2 hK => ?_)
          go_simp
          go_wp2_with (go_at_call 41; (with_reducible refine (hhi _).mono ?_); rintro e w7 ⟨rfl, h⟩)
          clear hS0
          replace HA := Lib.hid (HA.out.step h)
          replace HB := Lib.hid (HB.out.step h)
          replace HR := Lib.hid (HR.out.step h)
          replace HF := Lib.hid (below_step' HF.out h)
          (try replace HP := Lib.hid (HP.out.step h))
          have hS0 : (fun w' : World => (Box w' w.heap.size [.int .i64 ax, .bool alo, .int .i64 alk, .int .i64 aln, .string als, .bool ali, .bool aho, .int .i64 ahk, .int .i64 ahn, .string ahs, .bool ahi, .bool true]) ∧ (Box w' (w.heap.size + 1) [.int .i64 bx, .bool blo, .int .i64 blk, .int .i64 bln, .string bls, .bool bli, .bool bho, .int .i64 bhk, .int .i64 bhn, .string bhs, .bool bhi, .bool be])) _ := ⟨HA.out, HB.out⟩
          clear h
          refine hK.out _ _ (⟨HA.out, HB.out⟩) ?_
          clear hK K2
          try simp only [Act.put, List.setIfInBounds_toArray, List.set_cons_zero, List.set_cons_succ]
          refine stage_take (i := 14) (oi := { dst := some 21, op := Go.Op.move (Go.Operand.tmp 20), type := 4, pos := "plan.go:58", after := #[{ on := 13, ground := Go.Ground.data }, { on := 11, ground := Go.Ground.chain }], guard := none }) (v := ?_) (T := fun _ => True) rfl (by kernel_rfl) (by kernel_rfl) (by kernel_rfl) (by kernel_rfl) (fun _ _ _ h => h) (fun L' w' hW hS => trivial) (fun L' w' hS => hS) (Or.inl ⟨by rfl, ?_⟩) trivial (hS0) ?_
          rotate_left 1
          · intro w9 _; go_simp; (try with_reducible rfl)
          try simp only [Act.put, List.setIfInBounds_toArray, List.set_cons_zero, List.set_cons_succ]
          refine stage_take (i := 15) (oi := { dst := some 22, op := Go.Op.fieldAddr 32 (Go.Operand.tmp 3) 3, type := 0, pos := "plan.go:58", after := #[{ on := 14, ground := Go.Ground.guard }], guard := some (14, false) }) (v := undef) (T := fun _ => True) rfl (by kernel_rfl) (by kernel_rfl) (by kernel_rfl) (by kernel_rfl) (fun _ _ _ h => h) (fun L' w' hW hS => trivial) (fun L' w' hS => hS) (Or.inr ⟨by rfl, rfl⟩) trivial (hS0) ?_
          try simp only [Act.put, List.setIfInBounds_toArray, List.set_cons_zero, List.set_cons_succ]
          refine stage_take (i := 16) (oi := { dst := some 23, op := Go.Op.load 4 (Go.Operand.tmp 22), type := 4, pos := "plan.go:58", after := #[{ on := 15, ground := Go.Ground.data }, { on := 14, ground := Go.Ground.guard }], guard := some (14, false) }) (v := undef) (T := fun _ => True) rfl (by kernel_rfl) (by kernel_rfl) (by kernel_rfl) (by kernel_rfl) (fun _ _ _ h => h) (fun L' w' hW hS => trivial) (fun L' w' hS => hS) (Or.inr ⟨by rfl, rfl⟩) trivial (hS0) ?_
          try simp only [Act.put, List.setIfInBounds_toArray, List.set_cons_zero, List.set_cons_succ]
          refine stage_take (i := 17) (oi := { dst := some 24, op := Go.Op.pick (Go.Operand.tmp 21) (Go.Operand.const (Go.Value.bool true)) (Go.Operand.tmp 23), type := 4, pos := "plan.go:58", after := #[{ on := 14, ground := Go.Ground.data }, { on := 16, ground := Go.Ground.data }], guard := none }) (v := ?_) (T := fun _ => True) rfl (by kernel_rfl) (by kernel_rfl) (by kernel_rfl) (by kernel_rfl) (fun _ _ _ h => h) (fun L' w' hW hS => trivial) (fun L' w' hS => hS) (Or.inl ⟨by rfl, ?_⟩) trivial (hS0) ?_
          rotate_left 1
          · intro w9 _; go_simp; (try with_reducible rfl)
          try simp only [Act.put, List.setIfInBounds_toArray, List.set_cons_zero, List.set_cons_succ]
          refine stage_take (i := 18) (oi := { dst := some 25, op := Go.Op.build 32 #[(0, Go.Operand.tmp 8), (1, Go.Operand.tmp 13), (2, Go.Operand.tmp 18), (3, Go.Operand.tmp 24)], type := 32, pos := "plan.go:58", after := #[{ on := 1, ground := Go.Ground.data }, { on := 6, ground := Go.Ground.data }, { on := 11, ground := Go.Ground.data }, { on := 17, ground := Go.Ground.data }], guard := none }) (v := ?_) (T := fun _ => True) rfl (by kernel_rfl) (by kernel_rfl) (by kernel_rfl) (by kernel_rfl) (fun _ _ _ h => h) (fun L' w' hW hS => trivial) (fun L' w' hS => hS) (Or.inl ⟨by rfl, ?_⟩) trivial (hS0) ?_
          rotate_left 1
          · intro w9 _; go_simp; (try with_reducible rfl)
          try simp only [Act.put, List.setIfInBounds_toArray, List.set_cons_zero, List.set_cons_succ]
          refine stage_all (rs := [20]) (by kernel_rfl) (by simp) (fun i0 hi0 => ?_)
          obtain rfl : i0 = 20 := by simpa using hi0
          refine stage_step (S := fun (L' : Array Bool) (w' : World) => (Box w' w.heap.size [.int .i64 ax, .bool alo, .int .i64 alk, .int .i64 aln, .string als, .bool ali, .bool aho, .int .i64 ahk, .int .i64 ahn, .string ahs, .bool ahi, .bool true]) ∧ (Box w' (w.heap.size + 1) [.int .i64 bx, .bool blo, .int .i64 blk, .int .i64 bln, .string bls, .bool bli, .bool bho, .int .i64 bhk, .int .i64 bhn, .string bhs, .bool bhi, .bool be])) (o := { dst := none, op := Go.Op.store 32 (Go.Operand.tmp 5) (Go.Operand.tmp 25), type := 0, pos := "plan.go:58", after := #[{ on := 19, ground := Go.Ground.data }, { on := 18, ground := Go.Ground.data }, { on := 14, ground := Go.Ground.chain }, { on := 0, ground := Go.Ground.phase }, { on := 1, ground := Go.Ground.phase }, { on := 2, ground := Go.Ground.phase }, { on := 3, ground := Go.Ground.phase }, { on := 4, ground := Go.Ground.phase }, { on := 5, ground := Go.Ground.phase }, { on := 6, ground := Go.Ground.phase }, { on := 7, ground := Go.Ground.phase }, { on := 8, ground := Go.Ground.phase }, { on := 9, ground := Go.Ground.phase }, { on := 10, ground := Go.Ground.phase }, { on := 11, ground := Go.Ground.phase }, { on := 12, ground := Go.Ground.phase }, { on := 13, ground := Go.Ground.phase }, { on := 14, ground := Go.Ground.phase }, { on := 15, ground := Go.Ground.phase }, { on := 16, ground := Go.Ground.phase }, { on := 17, ground := Go.Ground.phase }, { on := 18, ground := Go.Ground.phase }, { on := 19, ground := Go.Ground.phase }], guard := none }) (by rfl) (fun K2 hK => ?_)
          have cHP0 := HP.out.c 0 _ rfl; have fHP0 := HP.out.f 0 (by simp); have cHP1 := HP.out.c 1 _ rfl; have fHP1 := HP.out.f 1 (by simp); have cHP2 := HP.out.c 2 _ rfl; have fHP2 := HP.out.f 2 (by simp); have cHP3 := HP.out.c 3 _ rfl; have fHP3 := HP.out.f 3 (by simp); have cHP4 := HP.out.c 4 _ rfl; have fHP4 := HP.out.f 4 (by simp); have cHP5 := HP.out.c 5 _ rfl; have fHP5 := HP.out.f 5 (by simp); have cHP6 := HP.out.c 6 _ rfl; have fHP6 := HP.out.f 6 (by simp); have cHP7 := HP.out.c 7 _ rfl; have fHP7 := HP.out.f 7 (by simp); have cHP8 := HP.out.c 8 _ rfl; have fHP8 := HP.out.f 8 (by simp); have cHP9 := HP.out.c 9 _ rfl; have fHP9 := HP.out.f 9 (by simp); have cHP10 := HP.out.c 10 _ rfl; have fHP10 := HP.out.f 10 (by simp); have cHP11 := HP.out.c 11 _ rfl; have fHP11 := HP.out.f 11 (by simp); have lHP := HP.out.lt
          go_simp
          clear cHP0 fHP0 cHP1 fHP1 cHP2 fHP2 cHP3 fHP3 cHP4 fHP4 cHP5 fHP5 cHP6 fHP6 cHP7 fHP7 cHP8 fHP8 cHP9 fHP9 cHP10 fHP10 cHP11 fHP11 lHP
          have hP1 := puts12 HP.out (.int .i64 ax) (.bool lo.op) (.int .i64 lo.v.k) (.int .i64 lo.v.n) (.string lo.v.s) (.bool lo.inn) (.bool hi.op) (.int .i64 hi.v.k) (.int .i64 hi.v.n) (.string hi.v.s) (.bool hi.inn) (.bool true)
          replace HA := Lib.hid (puts12_other HA.out (show g ≠ w.heap.size by omega) (.int .i64 ax) (.bool lo.op) (.int .i64 lo.v.k) (.int .i64 lo.v.n) (.string lo.v.s) (.bool lo.inn) (.bool hi.op) (.int .i64 hi.v.k) (.int .i64 hi.v.n) (.string hi.v.s) (.bool hi.inn) (.bool true))
          replace HB := Lib.hid (puts12_other HB.out (show g ≠ w.heap.size + 1 by omega) (.int .i64 ax) (.bool lo.op) (.int .i64 lo.v.k) (.int .i64 lo.v.n) (.string lo.v.s) (.bool lo.inn) (.bool hi.op) (.int .i64 hi.v.k) (.int .i64 hi.v.n) (.string hi.v.s) (.bool hi.inn) (.bool true))
          replace HR := Lib.hid (puts12_other HR.out (show g ≠ w.heap.size + 1 + 1 by omega) (.int .i64 ax) (.bool lo.op) (.int .i64 lo.v.k) (.int .i64 lo.v.n) (.string lo.v.s) (.bool lo.inn) (.bool hi.op) (.int .i64 hi.v.k) (.int .i64 hi.v.n) (.string hi.v.s) (.bool hi.inn) (.bool true))
          replace HF := Lib.hid (puts12_below HF.out (show w.heap.size ≤ g by omega) (.int .i64 ax) (.bool lo.op) (.int .i64 lo.v.k) (.int .i64 lo.v.n) (.string lo.v.s) (.bool lo.inn) (.bool hi.op) (.int .i64 hi.v.k) (.int .i64 hi.v.n) (.string hi.v.s) (.bool hi.inn) (.bool true))
          refine hK.out _ _ (⟨HA.out, HB.out⟩) ?_
          clear hK K2
          try simp only [Act.put, List.setIfInBounds_toArray, List.set_cons_zero, List.set_cons_succ]
          refine stage_done (by kernel_rfl) ?_ _
          go_wp2_with fail
          go_meet
          exact ⟨g, rfl, Lib.hid hP1, hg, HA, HR, HF⟩
      · refine stage_step (S := fun (L' : Array Bool) (w' : World) => (Box w' w.heap.size [.int .i64 ax, .bool alo, .int .i64 alk, .int .i64 aln, .string als, .bool ali, .bool aho, .int .i64 ahk, .int .i64 ahn, .string ahs, .bool ahi, .bool true]) ∧ (Box w' (w.heap.size + 1) [.int .i64 bx, .bool blo, .int .i64 blk, .int .i64 bln, .string bls, .bool bli, .bool bho, .int .i64 bhk, .int .i64 bhn, .string bhs, .bool bhi, .bool be])) (o := { dst := some 5, op := Go.Op.alloc 32, type := 0, pos := "plan.go:58", after := #[], guard := none }) (by rfl) (fun K2 hK => ?_)
        go_simp
        have h := (Below.refl wd.heap.size wd).alloc (Nat.le_refl _) (.cells #[.int .i64 0, .bool false, .int .i64 0, .int .i64 0, .string ⟨#[]⟩, .bool false, .bool false, .int .i64 0, .int .i64 0, .string ⟨#[]⟩, .bool false, .bool false] 32)
        have HP := Lib.hid (Box.new wd #[.int .i64 0, .bool false, .int .i64 0, .int .i64 0, .string ⟨#[]⟩, .bool false, .bool false, .int .i64 0, .int .i64 0, .string ⟨#[]⟩, .bool false, .bool false] 32)
        have hg : w.heap.size + 3 ≤ wd.heap.size := HR.out.lt
        clear hS0
        replace HA := Lib.hid (HA.out.step h)
        replace HB := Lib.hid (HB.out.step h)
        replace HR := Lib.hid (HR.out.step h)
        replace HF := Lib.hid (below_step' HF.out h)
        have hS0 : (fun w' : World => (Box w' w.heap.size [.int .i64 ax, .bool alo, .int .i64 alk, .int .i64 aln, .string als, .bool ali, .bool aho, .int .i64 ahk, .int .i64 ahn, .string ahs, .bool ahi, .bool true]) ∧ (Box w' (w.heap.size + 1) [.int .i64 bx, .bool blo, .int .i64 blk, .int .i64 bln, .string bls, .bool bli, .bool bho, .int .i64 bhk, .int .i64 bhn, .string bhs, .bool bhi, .bool be])) _ := ⟨HA.out, HB.out⟩
        clear h
        refine hK.out _ _ (⟨HA.out, HB.out⟩) ?_
        clear hK K2
        try simp only [Act.put, List.setIfInBounds_toArray, List.set_cons_zero, List.set_cons_succ]
        generalize wd.alloc (.cells #[.int .i64 0, .bool false, .int .i64 0, .int .i64 0, .string ⟨#[]⟩, .bool false, .bool false, .int .i64 0, .int .i64 0, .string ⟨#[]⟩, .bool false, .bool false] 32) = w5 at *
        generalize wd.heap.size = g at *
        refine stage_all (rs := [6]) (by kernel_rfl) (by simp) (fun i0 hi0 => ?_)
        obtain rfl : i0 = 6 := by simpa using hi0
        refine stage_step (S := fun (L' : Array Bool) (w' : World) => (Box w' w.heap.size [.int .i64 ax, .bool alo, .int .i64 alk, .int .i64 aln, .string als, .bool ali, .bool aho, .int .i64 ahk, .int .i64 ahn, .string ahs, .bool ahi, .bool true]) ∧ (Box w' (w.heap.size + 1) [.int .i64 bx, .bool blo, .int .i64 blk, .int .i64 bln, .string bls, .bool bli, .bool bho, .int .i64 bhk, .int .i64 bhn, .string bhs, .bool bhi, .bool be])) (o := { dst := some 13, op := Go.Op.call { callee := Go.Callee.value (Go.Operand.func 41), args := #[Go.Operand.tmp 10, Go.Operand.tmp 12, Go.Operand.const (Go.Value.int Go.IntKind.i64 1)], argTypes := #[30, 30, 3] }, type := 30, pos := "plan.go:58", after := #[{ on := 3, ground := Go.Ground.data }, { on := 5, ground := Go.Ground.data }], guard := none }) (by rfl) (fun K2 hK => ?_)
        go_simp
        go_wp2_with (go_at_call 41; (with_reducible refine (hlo _).mono ?_); rintro e w6 ⟨rfl, h⟩)
        clear hS0
        replace HA := Lib.hid (HA.out.step h)
        replace HB := Lib.hid (HB.out.step h)
        replace HR := Lib.hid (HR.out.step h)
        replace HF := Lib.hid (below_step' HF.out h)
        (try replace HP := Lib.hid (HP.out.step h))
        have hS0 : (fun w' : World => (Box w' w.heap.size [.int .i64 ax, .bool alo, .int .i64 alk, .int .i64 aln, .string als, .bool ali, .bool aho, .int .i64 ahk, .int .i64 ahn, .string ahs, .bool ahi, .bool true]) ∧ (Box w' (w.heap.size + 1) [.int .i64 bx, .bool blo, .int .i64 blk, .int .i64 bln, .string bls, .bool bli, .bool bho, .int .i64 bhk, .int .i64 bhn, .string bhs, .bool bhi, .bool be])) _ := ⟨HA.out, HB.out⟩
        clear h
        refine hK.out _ _ (⟨HA.out, HB.out⟩) ?_
        clear hK K2
        try simp only [Act.put, List.setIfInBounds_toArray, List.set_cons_zero, List.set_cons_succ]
        refine stage_all (rs := [11]) (by kernel_rfl) (by simp) (fun i0 hi0 => ?_)
        obtain rfl : i0 = 11 := by simpa using hi0
        refine stage_step (S := fun (L' : Array Bool) (w' : World) => (Box w' w.heap.size [.int .i64 ax, .bool alo, .int .i64 alk, .int .i64 aln, .string als, .bool ali, .bool aho, .int .i64 ahk, .int .i64 ahn, .string ahs, .bool ahi, .bool true]) ∧ (Box w' (w.heap.size + 1) [.int .i64 bx, .bool blo, .int .i64 blk, .int .i64 bln, .string bls, .bool bli, .bool bho, .int .i64 bhk, .int .i64 bhn, .string bhs, .bool bhi, .bool be])) (o := { dst := some 18, op := Go.Op.call { callee := Go.Callee.value (Go.Operand.func 41), args := #[Go.Operand.tmp 15, Go.Operand.tmp 17, Go.Operand.const (Go.Value.int Go.IntKind.i64 (-1))], argTypes := #[30, 30, 3] }, type := 30, pos := "plan.go:58", after := #[{ on := 8, ground := Go.Ground.data }, { on := 10, ground := Go.Ground.data }, { on := 6, ground := Go.Ground.chain }], guard := none }) (by rfl) (fun K2 hK => ?_)
        go_simp
        go_wp2_with (go_at_call 41; (with_reducible refine (hhi _).mono ?_); rintro e w7 ⟨rfl, h⟩)
        clear hS0
        replace HA := Lib.hid (HA.out.step h)
        replace HB := Lib.hid (HB.out.step h)
        replace HR := Lib.hid (HR.out.step h)
        replace HF := Lib.hid (below_step' HF.out h)
        (try replace HP := Lib.hid (HP.out.step h))
        have hS0 : (fun w' : World => (Box w' w.heap.size [.int .i64 ax, .bool alo, .int .i64 alk, .int .i64 aln, .string als, .bool ali, .bool aho, .int .i64 ahk, .int .i64 ahn, .string ahs, .bool ahi, .bool true]) ∧ (Box w' (w.heap.size + 1) [.int .i64 bx, .bool blo, .int .i64 blk, .int .i64 bln, .string bls, .bool bli, .bool bho, .int .i64 bhk, .int .i64 bhn, .string bhs, .bool bhi, .bool be])) _ := ⟨HA.out, HB.out⟩
        clear h
        refine hK.out _ _ (⟨HA.out, HB.out⟩) ?_
        clear hK K2
        try simp only [Act.put, List.setIfInBounds_toArray, List.set_cons_zero, List.set_cons_succ]
        refine stage_take (i := 14) (oi := { dst := some 21, op := Go.Op.move (Go.Operand.tmp 20), type := 4, pos := "plan.go:58", after := #[{ on := 13, ground := Go.Ground.data }, { on := 11, ground := Go.Ground.chain }], guard := none }) (v := ?_) (T := fun _ => True) rfl (by kernel_rfl) (by kernel_rfl) (by kernel_rfl) (by kernel_rfl) (fun _ _ _ h => h) (fun L' w' hW hS => trivial) (fun L' w' hS => hS) (Or.inl ⟨by rfl, ?_⟩) trivial (hS0) ?_
        rotate_left 1
        · intro w9 _; go_simp; (try with_reducible rfl)
        try simp only [Act.put, List.setIfInBounds_toArray, List.set_cons_zero, List.set_cons_succ]
        refine stage_take (i := 15) (oi := { dst := some 22, op := Go.Op.fieldAddr 32 (Go.Operand.tmp 3) 3, type := 0, pos := "plan.go:58", after := #[{ on := 14, ground := Go.Ground.guard }], guard := some (14, false) }) (v := undef) (T := fun _ => True) rfl (by kernel_rfl) (by kernel_rfl) (by kernel_rfl) (by kernel_rfl) (fun _ _ _ h => h) (fun L' w' hW hS => trivial) (fun L' w' hS => hS) (Or.inr ⟨by rfl, rfl⟩) trivial (hS0) ?_
        try simp only [Act.put, List.setIfInBounds_toArray, List.set_cons_zero, List.set_cons_succ]
        refine stage_take (i := 16) (oi := { dst := some 23, op := Go.Op.load 4 (Go.Operand.tmp 22), type := 4, pos := "plan.go:58", after := #[{ on := 15, ground := Go.Ground.data }, { on := 14, ground := Go.Ground.guard }], guard := some (14, false) }) (v := undef) (T := fun _ => True) rfl (by kernel_rfl) (by kernel_rfl) (by kernel_rfl) (by kernel_rfl) (fun _ _ _ h => h) (fun L' w' hW hS => trivial) (fun L' w' hS => hS) (Or.inr ⟨by rfl, rfl⟩) trivial (hS0) ?_
        try simp only [Act.put, List.setIfInBounds_toArray, List.set_cons_zero, List.set_cons_succ]
        refine stage_take (i := 17) (oi := { dst := some 24, op := Go.Op.pick (Go.Operand.tmp 21) (Go.Operand.const (Go.Value.bool true)) (Go.Operand.tmp 23), type := 4, pos := "plan.go:58", after := #[{ on := 14, ground := Go.Ground.data }, { on := 16, ground := Go.Ground.data }], guard := none }) (v := ?_) (T := fun _ => True) rfl (by kernel_rfl) (by kernel_rfl) (by kernel_rfl) (by kernel_rfl) (fun _ _ _ h => h) (fun L' w' hW hS => trivial) (fun L' w' hS => hS) (Or.inl ⟨by rfl, ?_⟩) trivial (hS0) ?_
        rotate_left 1
        · intro w9 _; go_simp; (try with_reducible rfl)
        try simp only [Act.put, List.setIfInBounds_toArray, List.set_cons_zero, List.set_cons_succ]
        refine stage_take (i := 18) (oi := { dst := some 25, op := Go.Op.build 32 #[(0, Go.Operand.tmp 8), (1, Go.Operand.tmp 13), (2, Go.Operand.tmp 18), (3, Go.Operand.tmp 24)], type := 32, pos := "plan.go:58", after := #[{ on := 1, ground := Go.Ground.data }, { on := 6, ground := Go.Ground.data }, { on := 11, ground := Go.Ground.data }, { on := 17, ground := Go.Ground.data }], guard := none }) (v := ?_) (T := fun _ => True) rfl (by kernel_rfl) (by kernel_rfl) (by kernel_rfl) (by kernel_rfl) (fun _ _ _ h => h) (fun L' w' hW hS => trivial) (fun L' w' hS => hS) (Or.inl ⟨by rfl, ?_⟩) trivial (hS0) ?_
        rotate_left 1
        · intro w9 _; go_simp; (try with_reducible rfl)
        try simp only [Act.put, List.setIfInBounds_toArray, List.set_cons_zero, List.set_cons_succ]
        refine stage_all (rs := [20]) (by kernel_rfl) (by simp) (fun i0 hi0 => ?_)
        obtain rfl : i0 = 20 := by simpa using hi0
        refine stage_step (S := fun (L' : Array Bool) (w' : World) => (Box w' w.heap.size [.int .i64 ax, .bool alo, .int .i64 alk, .int .i64 aln, .string als, .bool ali, .bool aho, .int .i64 ahk, .int .i64 ahn, .string ahs, .bool ahi, .bool true]) ∧ (Box w' (w.heap.size + 1) [.int .i64 bx, .bool blo, .int .i64 blk, .int .i64 bln, .string bls, .bool bli, .bool bho, .int .i64 bhk, .int .i64 bhn, .string bhs, .bool bhi, .bool be])) (o := { dst := none, op := Go.Op.store 32 (Go.Operand.tmp 5) (Go.Operand.tmp 25), type := 0, pos := "plan.go:58", after := #[{ on := 19, ground := Go.Ground.data }, { on := 18, ground := Go.Ground.data }, { on := 14, ground := Go.Ground.chain }, { on := 0, ground := Go.Ground.phase }, { on := 1, ground := Go.Ground.phase }, { on := 2, ground := Go.Ground.phase }, { on := 3, ground := Go.Ground.phase }, { on := 4, ground := Go.Ground.phase }, { on := 5, ground := Go.Ground.phase }, { on := 6, ground := Go.Ground.phase }, { on := 7, ground := Go.Ground.phase }, { on := 8, ground := Go.Ground.phase }, { on := 9, ground := Go.Ground.phase }, { on := 10, ground := Go.Ground.phase }, { on := 11, ground := Go.Ground.phase }, { on := 12, ground := Go.Ground.phase }, { on := 13, ground := Go.Ground.phase }, { on := 14, ground := Go.Ground.phase }, { on := 15, ground := Go.Ground.phase }, { on := 16, ground := Go.Ground.phase }, { on := 17, ground := Go.Ground.phase }, { on := 18, ground := Go.Ground.phase }, { on := 19, ground := Go.Ground.phase }], guard := none }) (by rfl) (fun K2 hK => ?_)
        have cHP0 := HP.out.c 0 _ rfl; have fHP0 := HP.out.f 0 (by simp); have cHP1 := HP.out.c 1 _ rfl; have fHP1 := HP.out.f 1 (by simp); have cHP2 := HP.out.c 2 _ rfl; have fHP2 := HP.out.f 2 (by simp); have cHP3 := HP.out.c 3 _ rfl; have fHP3 := HP.out.f 3 (by simp); have cHP4 := HP.out.c 4 _ rfl; have fHP4 := HP.out.f 4 (by simp); have cHP5 := HP.out.c 5 _ rfl; have fHP5 := HP.out.f 5 (by simp); have cHP6 := HP.out.c 6 _ rfl; have fHP6 := HP.out.f 6 (by simp); have cHP7 := HP.out.c 7 _ rfl; have fHP7 := HP.out.f 7 (by simp); have cHP8 := HP.out.c 8 _ rfl; have fHP8 := HP.out.f 8 (by simp); have cHP9 := HP.out.c 9 _ rfl; have fHP9 := HP.out.f 9 (by simp); have cHP10 := HP.out.c 10 _ rfl; have fHP10 := HP.out.f 10 (by simp); have cHP11 := HP.out.c 11 _ rfl; have fHP11 := HP.out.f 11 (by simp); have lHP := HP.out.lt
        go_simp
        clear cHP0 fHP0 cHP1 fHP1 cHP2 fHP2 cHP3 fHP3 cHP4 fHP4 cHP5 fHP5 cHP6 fHP6 cHP7 fHP7 cHP8 fHP8 cHP9 fHP9 cHP10 fHP10 cHP11 fHP11 lHP
        have hP1 := puts12 HP.out (.int .i64 ax) (.bool lo.op) (.int .i64 lo.v.k) (.int .i64 lo.v.n) (.string lo.v.s) (.bool lo.inn) (.bool hi.op) (.int .i64 hi.v.k) (.int .i64 hi.v.n) (.string hi.v.s) (.bool hi.inn) (.bool true)
        replace HA := Lib.hid (puts12_other HA.out (show g ≠ w.heap.size by omega) (.int .i64 ax) (.bool lo.op) (.int .i64 lo.v.k) (.int .i64 lo.v.n) (.string lo.v.s) (.bool lo.inn) (.bool hi.op) (.int .i64 hi.v.k) (.int .i64 hi.v.n) (.string hi.v.s) (.bool hi.inn) (.bool true))
        replace HB := Lib.hid (puts12_other HB.out (show g ≠ w.heap.size + 1 by omega) (.int .i64 ax) (.bool lo.op) (.int .i64 lo.v.k) (.int .i64 lo.v.n) (.string lo.v.s) (.bool lo.inn) (.bool hi.op) (.int .i64 hi.v.k) (.int .i64 hi.v.n) (.string hi.v.s) (.bool hi.inn) (.bool true))
        replace HR := Lib.hid (puts12_other HR.out (show g ≠ w.heap.size + 1 + 1 by omega) (.int .i64 ax) (.bool lo.op) (.int .i64 lo.v.k) (.int .i64 lo.v.n) (.string lo.v.s) (.bool lo.inn) (.bool hi.op) (.int .i64 hi.v.k) (.int .i64 hi.v.n) (.string hi.v.s) (.bool hi.inn) (.bool true))
        replace HF := Lib.hid (puts12_below HF.out (show w.heap.size ≤ g by omega) (.int .i64 ax) (.bool lo.op) (.int .i64 lo.v.k) (.int .i64 lo.v.n) (.string lo.v.s) (.bool lo.inn) (.bool hi.op) (.int .i64 hi.v.k) (.int .i64 hi.v.n) (.string hi.v.s) (.bool hi.inn) (.bool true))
        refine hK.out _ _ (⟨HA.out, HB.out⟩) ?_
        clear hK K2
        try simp only [Act.put, List.setIfInBounds_toArray, List.set_cons_zero, List.set_cons_succ]
        refine stage_done (by kernel_rfl) ?_ _
        go_wp2_with fail
        go_meet
        exact ⟨g, rfl, Lib.hid hP1, hg, HA, HR, HF⟩
  case rest =>
  obtain ⟨g, rfl, HP, hg, HA, HR, HF⟩ := hcut
  clear hlo hhi HB
  have hne1 : ¬ w.heap.size + 1 + 1 = g := by omega
  have hne2 : ¬ g = w.heap.size + 1 + 1 := by omega
  have hne3 : ¬ g = w.heap.size := by omega
  obtain ⟨loo, lov, loi⟩ := lo
  obtain ⟨hio, hiv, hii⟩ := hi
  dsimp only at HP HRR
  by_cases hb : loo = false ∧ hio = false
  · obtain ⟨rfl, rfl⟩ := hb
    have hc := fun W => order_any lov.k lov.n lov.s hiv.k hiv.n hiv.s W
    have h3 := vorder_three lov hiv
    have hcv : vorder ⟨lov.k, lov.n, lov.s⟩ ⟨hiv.k, hiv.n, hiv.s⟩ = vorder lov hiv := rfl
    simp only [hcv] at hc
    clear hcv
    have H3 := Lib.hid h3
    have HC := Lib.hid hc
    clear h3 hc
    have c1 := HP.out.c 1 _ rfl
    have c6 := HP.out.c 6 _ rfl
    go_upto_if 35 with (fail)
    clear c1 c6
    go_cut [6] (fun _c wx => Hid (Box wx g [.int .i64 ax, .bool false, .int .i64 lov.k, .int .i64 lov.n, .string lov.s, .bool loi, .bool false, .int .i64 hiv.k, .int .i64 hiv.n, .string hiv.s, .bool hii, .bool ((ae || be) || (decide (0 < vorder lov hiv) || (decide (vorder lov hiv = 0) && !(loi && hii))))]) ∧ Hid (Box wx w.heap.size [.int .i64 ax, .bool alo, .int .i64 alk, .int .i64 aln, .string als, .bool ali, .bool aho, .int .i64 ahk, .int .i64 ahn, .string ahs, .bool ahi, .bool ae]) ∧ Hid (Box wx (w.heap.size + 1 + 1) [.int .i64 0, .bool false, .int .i64 0, .int .i64 0, .string ⟨#[]⟩, .bool false, .bool false, .int .i64 0, .int .i64 0, .string ⟨#[]⟩, .bool false, .bool false]) ∧ Hid (Below w.heap.size w wx))
    case first =>
      have cHP0 := HP.out.c 0 _ rfl; have fHP0 := HP.out.f 0 (by simp); have cHP1 := HP.out.c 1 _ rfl; have fHP1 := HP.out.f 1 (by simp); have cHP2 := HP.out.c 2 _ rfl; have fHP2 := HP.out.f 2 (by simp); have cHP3 := HP.out.c 3 _ rfl; have fHP3 := HP.out.f 3 (by simp); have cHP4 := HP.out.c 4 _ rfl; have fHP4 := HP.out.f 4 (by simp); have cHP5 := HP.out.c 5 _ rfl; have fHP5 := HP.out.f 5 (by simp); have cHP6 := HP.out.c 6 _ rfl; have fHP6 := HP.out.f 6 (by simp); have cHP7 := HP.out.c 7 _ rfl; have fHP7 := HP.out.f 7 (by simp); have cHP8 := HP.out.c 8 _ rfl; have fHP8 := HP.out.f 8 (by simp); have cHP9 := HP.out.c 9 _ rfl; have fHP9 := HP.out.f 9 (by simp); have cHP10 := HP.out.c 10 _ rfl; have fHP10 := HP.out.f 10 (by simp); have cHP11 := HP.out.c 11 _ rfl; have fHP11 := HP.out.f 11 (by simp); have lHP := HP.out.lt
      go_wp2_with fail
      clear cHP0 fHP0 cHP1 fHP1 cHP2 fHP2 cHP3 fHP3 cHP4 fHP4 cHP5 fHP5 cHP6 fHP6 cHP7 fHP7 cHP8 fHP8 cHP9 fHP9 cHP10 fHP10 cHP11 fHP11 lHP
      refine (HC.out _).mono ?_; rintro e w4 ⟨rfl, h⟩
      replace HP := Lib.hid (HP.out.below h HP.out.lt); replace HA := Lib.hid (HA.out.below h HA.out.lt); replace HR := Lib.hid (HR.out.below h HR.out.lt); replace HF := Lib.hid (below_step' HF.out h)
      clear h HC HRR
      have c5 := HP.out.c 5 _ rfl
      have c10 := HP.out.c 10 _ rfl
      have c11 := HP.out.c 11 _ rfl
      have f11 := HP.out.f 11 (by simp)
      have hset := fun x => HP.out.set 11 (.bool x) (by simp)
      simp only [List.set_cons_zero, List.set_cons_succ] at hset
      have HS := Lib.hid hset
      clear hset
      have hend : ∀ x : Bool, x = ((ae || be) || (decide (0 < vorder lov hiv) || (decide (vorder lov hiv = 0) && !(loi && hii)))) → Hid (Box (w4.setCell ⟨g, 11, none⟩ (.bool x)) g [.int .i64 ax, .bool false, .int .i64 lov.k, .int .i64 lov.n, .string lov.s, .bool loi, .bool false, .int .i64 hiv.k, .int .i64 hiv.n, .string hiv.s, .bool hii, .bool ((ae || be) || (decide (0 < vorder lov hiv) || (decide (vorder lov hiv = 0) && !(loi && hii))))]) ∧ Hid (Box (w4.setCell ⟨g, 11, none⟩ (.bool x)) w.heap.size [.int .i64 ax, .bool alo, .int .i64 alk, .int .i64 aln, .string als, .bool ali, .bool aho, .int .i64 ahk, .int .i64 ahn, .string ahs, .bool ahi, .bool ae]) ∧ Hid (Box (w4.setCell ⟨g, 11, none⟩ (.bool x)) (w.heap.size + 1 + 1) [.int .i64 0, .bool false, .int .i64 0, .int .i64 0, .string ⟨#[]⟩, .bool false, .bool false, .int .i64 0, .int .i64 0, .string ⟨#[]⟩, .bool false, .bool false]) ∧ Hid (Below w.heap.size w (w4.setCell ⟨g, 11, none⟩ (.bool x))) := fun x hx => by
        refine ⟨?_, Lib.hid (HA.out.other ⟨g, 11, none⟩ _ hne3), Lib.hid (HR.out.other ⟨g, 11, none⟩ _ hne2), Lib.hid (HF.out.setCell (p := ⟨g, 11, none⟩) (by show w.heap.size ≤ g; omega) _)⟩
        rw [← hx]
        exact Lib.hid (HS.out x)
      have HEND := Lib.hid hend
      clear hend HA HR HF HP hne1 hne2 hne3
      have h3 := H3.out
      clear H3
      generalize vorder lov hiv = c at *
      generalize (ae || be) = E at *
      cases E
      · rcases h3 with rfl | rfl | rfl <;> cases loi <;> cases hii
        all_goals
          go_wp2_with fail
          go_meet
          exact HEND.out _ rfl
      · go_wp2_with fail
        go_meet
        exact HEND.out _ (by simp)
    case rest =>
    clear HP HA HR HF H3 HC
    obtain ⟨HP, HA, HR, HF⟩ := hcut
    have HFo := HF.out
    have a0 := HA.out.c 0 _ rfl
    clear HA HF
    have HR2 : Hid (R = if ((ae || be) || (decide (0 < vorder lov hiv) || (decide (vorder lov hiv = 0) && !(loi && hii)))) then (⟨ax, noB, noB, true⟩ : Pl) else ⟨ax, ⟨false, lov, loi⟩, ⟨false, hiv, hii⟩, false⟩) := Lib.hid (by rw [← HRR.out]; simp)
    clear HRR
    generalize ((ae || be) || (decide (0 < vorder lov hiv) || (decide (vorder lov hiv = 0) && !(loi && hii)))) = M at *
    have cHP0 := HP.out.c 0 _ rfl; have fHP0 := HP.out.f 0 (by simp); have cHP1 := HP.out.c 1 _ rfl; have fHP1 := HP.out.f 1 (by simp); have cHP2 := HP.out.c 2 _ rfl; have fHP2 := HP.out.f 2 (by simp); have cHP3 := HP.out.c 3 _ rfl; have fHP3 := HP.out.f 3 (by simp); have cHP4 := HP.out.c 4 _ rfl; have fHP4 := HP.out.f 4 (by simp); have cHP5 := HP.out.c 5 _ rfl; have fHP5 := HP.out.f 5 (by simp); have cHP6 := HP.out.c 6 _ rfl; have fHP6 := HP.out.f 6 (by simp); have cHP7 := HP.out.c 7 _ rfl; have fHP7 := HP.out.f 7 (by simp); have cHP8 := HP.out.c 8 _ rfl; have fHP8 := HP.out.f 8 (by simp); have cHP9 := HP.out.c 9 _ rfl; have fHP9 := HP.out.f 9 (by simp); have cHP10 := HP.out.c 10 _ rfl; have fHP10 := HP.out.f 10 (by simp); have cHP11 := HP.out.c 11 _ rfl; have fHP11 := HP.out.f 11 (by simp); have lHP := HP.out.lt; have cHR0 := HR.out.c 0 _ rfl; have fHR0 := HR.out.f 0 (by simp); have cHR1 := HR.out.c 1 _ rfl; have fHR1 := HR.out.f 1 (by simp); have cHR2 := HR.out.c 2 _ rfl; have fHR2 := HR.out.f 2 (by simp); have cHR3 := HR.out.c 3 _ rfl; have fHR3 := HR.out.f 3 (by simp); have cHR4 := HR.out.c 4 _ rfl; have fHR4 := HR.out.f 4 (by simp); have cHR5 := HR.out.c 5 _ rfl; have fHR5 := HR.out.f 5 (by simp); have cHR6 := HR.out.c 6 _ rfl; have fHR6 := HR.out.f 6 (by simp); have cHR7 := HR.out.c 7 _ rfl; have fHR7 := HR.out.f 7 (by simp); have cHR8 := HR.out.c 8 _ rfl; have fHR8 := HR.out.f 8 (by simp); have cHR9 := HR.out.c 9 _ rfl; have fHR9 := HR.out.f 9 (by simp); have cHR10 := HR.out.c 10 _ rfl; have fHR10 := HR.out.f 10 (by simp); have cHR11 := HR.out.c 11 _ rfl; have fHR11 := HR.out.f 11 (by simp); have lHR := HR.out.lt
    cases M
    all_goals
      go_wp2
      refine bodyPost_ret (by simp [results, Try.results15, go_sem, cHR0, cHR1, cHR2, cHR3, cHR4, cHR5, cHR6, cHR7, cHR8, cHR9, cHR10, cHR11, hne1, hne2]; rfl) rfl ?_
      exact ⟨by rw [HR2.out]; rfl, (by repeat (first | (with_reducible exact HFo) | refine below_set ?_ (by first | exact Nat.le_refl _ | omega)))⟩
  · have hcond : ∀ b : Bool, (!loo && !hio && b) = false := fun b => by cases loo <;> cases hio <;> simp at hb ⊢
    have HR2 : Hid (R = if (ae || be) then (⟨ax, noB, noB, true⟩ : Pl) else ⟨ax, ⟨loo, lov, loi⟩, ⟨hio, hiv, hii⟩, false⟩) := Lib.hid (by rw [← HRR.out, hcond, Bool.or_false])
    have HFo := HF.out
    have a0 := HA.out.c 0 _ rfl
    clear hcond HA HRR
    generalize (ae || be) = M at *
    have cHP0 := HP.out.c 0 _ rfl; have fHP0 := HP.out.f 0 (by simp); have cHP1 := HP.out.c 1 _ rfl; have fHP1 := HP.out.f 1 (by simp); have cHP2 := HP.out.c 2 _ rfl; have fHP2 := HP.out.f 2 (by simp); have cHP3 := HP.out.c 3 _ rfl; have fHP3 := HP.out.f 3 (by simp); have cHP4 := HP.out.c 4 _ rfl; have fHP4 := HP.out.f 4 (by simp); have cHP5 := HP.out.c 5 _ rfl; have fHP5 := HP.out.f 5 (by simp); have cHP6 := HP.out.c 6 _ rfl; have fHP6 := HP.out.f 6 (by simp); have cHP7 := HP.out.c 7 _ rfl; have fHP7 := HP.out.f 7 (by simp); have cHP8 := HP.out.c 8 _ rfl; have fHP8 := HP.out.f 8 (by simp); have cHP9 := HP.out.c 9 _ rfl; have fHP9 := HP.out.f 9 (by simp); have cHP10 := HP.out.c 10 _ rfl; have fHP10 := HP.out.f 10 (by simp); have cHP11 := HP.out.c 11 _ rfl; have fHP11 := HP.out.f 11 (by simp); have lHP := HP.out.lt; have cHR0 := HR.out.c 0 _ rfl; have fHR0 := HR.out.f 0 (by simp); have cHR1 := HR.out.c 1 _ rfl; have fHR1 := HR.out.f 1 (by simp); have cHR2 := HR.out.c 2 _ rfl; have fHR2 := HR.out.f 2 (by simp); have cHR3 := HR.out.c 3 _ rfl; have fHR3 := HR.out.f 3 (by simp); have cHR4 := HR.out.c 4 _ rfl; have fHR4 := HR.out.f 4 (by simp); have cHR5 := HR.out.c 5 _ rfl; have fHR5 := HR.out.f 5 (by simp); have cHR6 := HR.out.c 6 _ rfl; have fHR6 := HR.out.f 6 (by simp); have cHR7 := HR.out.c 7 _ rfl; have fHR7 := HR.out.f 7 (by simp); have cHR8 := HR.out.c 8 _ rfl; have fHR8 := HR.out.f 8 (by simp); have cHR9 := HR.out.c 9 _ rfl; have fHR9 := HR.out.f 9 (by simp); have cHR10 := HR.out.c 10 _ rfl; have fHR10 := HR.out.f 10 (by simp); have cHR11 := HR.out.c 11 _ rfl; have fHR11 := HR.out.f 11 (by simp); have lHR := HR.out.lt
    cases loo <;> cases hio <;> cases M
    all_goals first
      | (exfalso; exact hb ⟨rfl, rfl⟩)
      | (clear hb
         go_wp2
         refine bodyPost_ret (by simp [results, Try.results15, go_sem, cHR0, cHR1, cHR2, cHR3, cHR4, cHR5, cHR6, cHR7, cHR8, cHR9, cHR10, cHR11, hne1, hne2]; rfl) rfl ?_
         exact ⟨by rw [HR2.out]; rfl, (by repeat (first | (with_reducible exact HFo) | refine below_set ?_ (by first | exact Nat.le_refl _ | omega)))⟩)
end Go.Proofs.Ytfmfmammcjpboaa
