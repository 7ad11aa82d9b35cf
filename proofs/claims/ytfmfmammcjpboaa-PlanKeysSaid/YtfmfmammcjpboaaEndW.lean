/- plan: end, Keys. -/
import Derived.Test.YtfmfmammcjpboaaKeyP
import Derived.Test.YtfmfmammcjpboaaEncW
namespace Go.Proofs.Ytfmfmammcjpboaa
open Go.RowKit
set_option linter.unusedVariables false
set_option linter.unusedSimpArgs false
theorem encVal_len (x : V) : (encVal x).length = 3 := rfl
def tx (l : List UInt8) : ByteArray := ⟨l.toArray⟩
theorem tx_list (l : List UInt8) : (tx l).toList = l := by rw [ByteArray.toList_eq]; rfl
theorem tx_app (l m : List UInt8) : tx l ++ tx m = tx (l ++ m) := by
  apply ByteArray.ext
  simp [tx]
theorem tx_size (l : List UInt8) : (tx l).size = l.length := rfl
theorem encode_sole (v : V) : encode [v] = (if vcheck v = 0 then (encV v, 0) else ([], 9)) := by
  unfold encode
  rw [if_neg (by simp)]
  by_cases h : vcheck v = 0
  · rw [if_pos h, if_pos (by simp [okV, h])]; simp [encL]
  · rw [if_neg h, if_neg (by simp [okV, h])]
theorem encode_lit (v : V) (w : World) (hn : InR v.n) : Calls Try.prog 21 #[.slice (some ⟨w.heap.size, 0, none⟩) 1 1] (w.alloc (.cells #[.int .i64 v.k, .int .i64 v.n, .string v.s] 28)) fun e w' =>
    e = .returned (.tuple #[.string (tx (if vcheck v = 0 then (encV v, (0 : Int)) else ([], 9)).1), .int .i64 (if vcheck v = 0 then (encV v, 0) else ([], 9)).2]) ∧ Below (w.alloc (.cells #[.int .i64 v.k, .int .i64 v.n, .string v.s] 28)).heap.size (w.alloc (.cells #[.int .i64 v.k, .int .i64 v.n, .string v.s] 28)) w' := by
  have c := encode_any (some ⟨w.heap.size, 0, none⟩) 1 [v] (w.alloc (.cells #[.int .i64 v.k, .int .i64 v.n, .string v.s] 28)) (RowE.lit (enc := encVal) (k := 3) (l := [v]) (T := 28) (fr := (0, 0)) (cs := #[.int .i64 v.k, .int .i64 v.n, .string v.s]) encVal_len (heap_alloc_new w _) rfl) (by
    intro x hx
    simp at hx
    subst hx; exact hn)
  rw [encode_sole] at c
  simp only [List.length_cons, List.length_nil, Nat.zero_add] at c
  exact c
set_option maxHeartbeats 4000000 in
set_option maxRecDepth 100000 in
theorem end_any (b : Bd) (o : ByteArray) (past : Bool) (w : World) (hn : InR b.v.n) :
    Calls Try.prog 45 #[.agg #[.bool b.op, .int .i64 b.v.k, .int .i64 b.v.n, .string b.v.s, .bool b.inn], .string o, .bool past] w fun e w' => e = .returned (.tuple #[.string (tx (endS b o.toList past).1), .int .i64 (endS b o.toList past).2]) ∧ Below w.heap.size w w' := by
  obtain ⟨bo, v, bi⟩ := b
  dsimp only at hn ⊢
  cases bo
  · have HB := Lib.hid (Box.new w #[.bool false, .int .i64 v.k, .int .i64 v.n, .string v.s, .bool bi] 30)
    have HF : Hid (Below w.heap.size w (w.alloc (.cells #[.bool false, .int .i64 v.k, .int .i64 v.n, .string v.s, .bool bi] 30))) := Lib.hid (by (repeat (first | (with_reducible exact Below.refl _ _) | apply below_alloc _ (Nat.le_refl _) | refine below_set ?_ (by first | exact Nat.le_refl _ | omega) | apply below_drewN | refine below_step ?_ HB)))
    have c := encode_lit v (w.alloc (.cells #[.bool false, .int .i64 v.k, .int .i64 v.n, .string v.s, .bool bi] 30)) hn
    simp only [World.size_alloc] at c
    have hv : endS ⟨false, v, bi⟩ o.toList past = if vcheck v = 0 then (encV v ++ (if past = true then [255] else []), 0) else ([], 9) := rfl
    rw [hv]
    clear hv
    by_cases hc : vcheck v = 0
    · have hl := encV_len hn hc
      rw [if_pos hc] at c ⊢
      have hts := tx_size (encV v)
      have hta := tx_app (encV v) [255]
      have e2 : tx [255] = ⟨#[255]⟩ := rfl
      rw [e2] at hta
      dsimp only at c ⊢
      clear e2
      cases past
      · simp only [Bool.false_eq_true, if_false, List.append_nil]
        clear hta
        generalize tx (encV v) = t at *
        go_enter Try.func45, Try.ntmps45
        have c0 := HB.out.c 0 _ rfl
        have c1 := HB.out.c 1 _ rfl
        have c2 := HB.out.c 2 _ rfl
        have c3 := HB.out.c 3 _ rfl
        have c4 := HB.out.c 4 _ rfl
        clear HB
        go_wp2_with fail
        with_reducible refine c.mono ?_
        rintro e w2 ⟨rfl, h2⟩
        have hb2 : Below w.heap.size w w2 := below_step' (HF.out.alloc HF.out.size (.cells #[.int .i64 v.k, .int .i64 v.n, .string v.s] 28)) (by simpa only [World.size_alloc] using h2)
        clear c h2 HF c0 c1 c2 c3 c4
        go_wp2
        go_ret2
        exact ⟨rfl, hb2⟩
      · simp only [if_true]
        rw [← hta]
        clear hta
        generalize tx (encV v) = t at *
        have hs : t.size ≤ 200 := by omega
        go_enter Try.func45, Try.ntmps45
        have c0 := HB.out.c 0 _ rfl
        have c1 := HB.out.c 1 _ rfl
        have c2 := HB.out.c 2 _ rfl
        have c3 := HB.out.c 3 _ rfl
        have c4 := HB.out.c 4 _ rfl
        clear HB
        go_wp2_with fail
        with_reducible refine c.mono ?_
        rintro e w2 ⟨rfl, h2⟩
        have hb2 : Below w.heap.size w w2 := below_step' (HF.out.alloc HF.out.size (.cells #[.int .i64 v.k, .int .i64 v.n, .string v.s] 28)) (by simpa only [World.size_alloc] using h2)
        clear c h2 HF c0 c1 c2 c3 c4
        go_wp2
        go_ret2
        exact ⟨rfl, hb2⟩
    · rw [if_neg hc] at c ⊢
      have ht0 : tx [] = ⟨#[]⟩ := rfl
      dsimp only at c ⊢
      rw [ht0] at c ⊢
      go_enter Try.func45, Try.ntmps45
      have c0 := HB.out.c 0 _ rfl
      have c1 := HB.out.c 1 _ rfl
      have c2 := HB.out.c 2 _ rfl
      have c3 := HB.out.c 3 _ rfl
      have c4 := HB.out.c 4 _ rfl
      clear HB
      go_wp2_with fail
      with_reducible refine c.mono ?_
      rintro e w2 ⟨rfl, h2⟩
      have hb2 : Below w.heap.size w w2 := below_step' (HF.out.alloc HF.out.size (.cells #[.int .i64 v.k, .int .i64 v.n, .string v.s] 28)) (by simpa only [World.size_alloc] using h2)
      clear c h2 HF c0 c1 c2 c3 c4
      go_wp2
      go_ret2
      exact ⟨rfl, hb2⟩
  · have hv : endS ⟨true, v, bi⟩ o.toList past = (o.toList, 0) := rfl
    have hto : tx o.toList = o := by
      apply ByteArray.ext
      simp [tx, ByteArray.toList_eq]
    rw [hv]
    dsimp only
    rw [hto]
    clear hv hto
    have HB := Lib.hid (Box.new w #[.bool true, .int .i64 v.k, .int .i64 v.n, .string v.s, .bool bi] 30)
    have HF : Hid (Below w.heap.size w (w.alloc (.cells #[.bool true, .int .i64 v.k, .int .i64 v.n, .string v.s, .bool bi] 30))) := Lib.hid (by (repeat (first | (with_reducible exact Below.refl _ _) | apply below_alloc _ (Nat.le_refl _) | refine below_set ?_ (by first | exact Nat.le_refl _ | omega) | apply below_drewN | refine below_step ?_ HB)))
    go_enter Try.func45, Try.ntmps45
    have c0 := HB.out.c 0 _ rfl
    have HFo := HF.out
    clear HB HF
    go_wp2
    go_ret2
    exact ⟨rfl, HFo⟩
end Go.Proofs.Ytfmfmammcjpboaa
