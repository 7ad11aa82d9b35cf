/- keycode.Decode: a key is read. -/
import Derived.Test.YtinkmcbcfdlnjaaDecC
import Derived.Test.YtinkmcbcfdlnjaaLawA
import Derived.Test.YtinkmcbcfdlnjaaStep
import Derived.Test.YtinkmcbcfdlnjaaStage
namespace Go.Proofs.Ytinkmcbcfdlnjaa
open Go.RowKit
set_option linter.unusedVariables false
set_option linter.unusedSimpArgs false
theorem flat_one (l : List V) (v : V) : (l ++ [v]).flatMap encVal = l.flatMap encVal ++ encVal v := by simp
theorem encVal_cells (l : List V) : ∀ u ∈ l.flatMap encVal, u.oneCell' = true := fun u hu => by
  obtain ⟨x, _, hx⟩ := List.mem_flatMap.1 hu
  simp [encVal] at hx
  rcases hx with rfl | rfl | rfl <;> rfl
theorem valD_short {c : UInt8} {s r : List UInt8} {v : V} (h : valD (c :: s) = .ok (v, r)) : r.length ≤ s.length := by
  obtain ⟨h1, h2⟩ := valD_of h
  obtain ⟨c', s', e⟩ := enc_cons h1
  rw [e] at h2
  have := congrArg List.length h2
  simp at this; omega
theorem SlB.row {α : Type} {enc : α → List Value} {k N n c : Nat} {w : World} {A : Option Addr} {l : List α} (h : SlB enc k N w (.slice A n c) l) : RowE enc k w A l := by
  obtain ⟨A', c', e, _, hr, _⟩ := h
  obtain ⟨rfl, _, _⟩ : A = A' ∧ n = l.length ∧ c = c' := by simpa using e
  exact hr
/-- Behind a panic all temporaries may be other ones, but for two. -/
def lift (Q : Exit → Act → World → Prop) (e : Exit) (a : Act) (w : World) : Prop :=
  match e with
  | .panic c => ∀ a' : Act, a'.defers = a.defers → a'.tmps[2]? = a.tmps[2]? → a'.tmps[3]? = a.tmps[3]? → Q (.panic c) a' w
  | e => Q e a w
theorem lift_put {Q : Exit → Act → World → Prop} {c : List PanicEntry} {a : Act} {w : World} {d : Nat} {v : Value} (h2 : d ≠ 2) (h3 : d ≠ 3) (h : lift Q (.panic c) (a.put (some d) v) w) : lift Q (.panic c) a w := fun a' hd q2 q3 =>
  h a' hd (q2.trans (by simp [Act.put, Array.getElem?_setIfInBounds, h2])) (q3.trans (by simp [Act.put, Array.getElem?_setIfInBounds, h3]))
theorem lift_normal {Q : Exit → Act → World → Prop} {a : Act} {w : World} (h : Q .normal a w) : lift Q .normal a w := h
theorem wp_lift {P : Program} {c : Code} {Q : Exit → Act → World → Prop} {a : Act} {w : World} (h : c.wp P (lift Q) a w) : c.wp P Q a w :=
  Code.wp_mono (fun e a w h => by cases e <;> first | exact h | exact h a rfl rfl rfl) h
def decE : Except Int (List V) → List V × Int
  | .error e => ([], e)
  | .ok l => if l.length ≤ 64 then (l, 0) else ([], 3)
theorem decode_E (L : List UInt8) : decode L = decE (decL L.length L []) := by
  unfold decode decE
  cases decL L.length L [] <;> rfl
set_option maxHeartbeats 4000000 in
set_option maxRecDepth 100000 in
theorem decode_any (s : ByteArray) (w : World) (hlen : s.size ≤ 1048576) :
    Calls Try.prog 16 #[.string s] w fun e w' => ∃ A c, e = .returned (.tuple #[.slice A (decode s.toList).1.length c, .int .i64 (decode s.toList).2]) ∧ RowE encVal 3 w' A (decode s.toList).1 ∧ Below w.heap.size w w' := by
  have hmf : ∀ (fn : Fn) (first cap : Array Value) (w : World), (Instr.makeFunc fn first cap).run Try.prog w = .ok (.func fn first cap) w := fun _ _ _ _ => rfl
  obtain ⟨i0, hi, hz0, hz1, hz2⟩ := info_parts (show (Try.prog.info? 31).map (fun i => (i.zero, i.size, i.bytes)) = some (some (.agg #[.int .i64 0, .int .i64 0, .string ⟨#[]⟩]), 3, 32) by kernel_rfl)
  obtain ⟨L, hL⟩ : ∃ L, L = s.toList := ⟨_, rfl⟩
  have hsL : s = tx L := by rw [hL, tx_of]
  rw [← hL]
  rw [hsL] at hlen ⊢
  rw [tx_size] at hlen
  clear hL hsL
  generalize hD : decL L.length L [] = D
  have HD : Hid (decode L = decE D) := Lib.hid (by rw [← hD]; exact decode_E L)
  have HL0 : Hid (decL L.length L [] = D) := Lib.hid hD
  clear hD
  go_enter_defers Try.func16, Try.ntmps16
  go_wp2_with fail
  have HA0 := ((Box.new w #[.slice none 0 0] 22).alloc (.cells #[.int .i64 0] 24)).alloc (.cells #[.string (tx L)] 51)
  have HB0 := (Box.new (w.alloc (.cells #[.slice none 0 0] 22)) #[.int .i64 0] 24).alloc (.cells #[.string (tx L)] 51)
  have HC0 := Box.new ((w.alloc (.cells #[.slice none 0 0] 22)).alloc (.cells #[.int .i64 0] 24)) #[.string (tx L)] 51
  have HF0 : Below w.heap.size w (((w.alloc (.cells #[.slice none 0 0] 22)).alloc (.cells #[.int .i64 0] 24)).alloc (.cells #[.string (tx L)] 51)) := (by (repeat (first | (with_reducible exact Below.refl _ _) | apply below_alloc _ (Nat.le_refl _) | refine below_set ?_ (by first | exact Nat.le_refl _ | omega) | apply below_drewN | refine below_step ?_ HB)))
  have hs0 : (((w.alloc (.cells #[.slice none 0 0] 22)).alloc (.cells #[.int .i64 0] 24)).alloc (.cells #[.string (tx L)] 51)).heap.size = w.heap.size + 3 := by simp
  simp at HB0 HC0
  generalize (((w.alloc (.cells #[.slice none 0 0] 22)).alloc (.cells #[.int .i64 0] 24)).alloc (.cells #[.string (tx L)] 51)) = w3 at *
  go_loopw [9] (fun u wr => ∃ (n : Nat) (r : List UInt8) (acc : List V) (vl : Value), Hid (decL n r acc = D) ∧ r.length ≤ n ∧ acc.length + r.length ≤ L.length ∧ wr.ownsRow (w.heap.size + 3) 31 3 vl acc.length (acc.flatMap encVal) ∧ Box wr w.heap.size [vl] ∧ Box wr (w.heap.size + 1) [.int .i64 0] ∧ Box wr (w.heap.size + 1 + 1) [.string (tx r)] ∧ Below w.heap.size w wr ∧ w.heap.size + 3 ≤ wr.heap.size) (fun u wr => restOf (w.heap.size + 1 + 1) wr)
  case atStart => exact ⟨L.length, L, [], .slice none 0 0, HL0, Nat.le_refl _, by simp, World.ownsRow_nil _ _ _ _, HA0, HB0, HC0, HF0, by omega⟩
  case round =>
    obtain ⟨n, r, acc, vl, HR, hrn, hle, HO, HA, HB, HC, HF, hsz⟩ := hrel
    have hm := restOf_box HC
    cases r with
    | nil =>
      have hr2 := HR.out
      obtain rfl : D = .ok acc := by rw [← hr2]; cases n <;> rfl
      have h := tx_list []
      clear hr2 HR HL0
      have cA := HA.c 0 _ rfl
      have fA := HA.f 0 (by simp)
      have cB := HB.c 0 _ rfl
      have fB := HB.f 0 (by simp)
      have cC := HC.c 0 _ rfl
      obtain ⟨A, cp, rfl, hcap, hnil⟩ := own_slice HO
      have HS : SlB encVal 3 (w.heap.size + 3) wr (.slice A acc.length cp) acc := SlB.of_own encVal_len (by decide) (Nat.le_refl _) HO
      by_cases h64 : acc.length ≤ 64
      · have h64' : (acc.length : Int) ≤ 64 := by omega
        go_wp2_with (go_at_call 24; (with_reducible refine (need_true _ _).mono ?_); rintro e w' ⟨rfl, rfl⟩)
        refine leaves_cons (f := 22) (args := #[.pointer (some ⟨w.heap.size, 0, none⟩), .pointer (some ⟨w.heap.size + 1, 0, none⟩)]) (by simp) (by simp [go_sem]) ?_
        refine (catch_idle _ _ _).mono ?_
        rintro e u' w'' ⟨rfl, rfl, rfl⟩
        refine ⟨_, by simp [results, Try.results16, go_sem, cA, cB]; rfl, ?_⟩
        have e : decode L = (acc, 0) := HD.out.trans (if_pos h64)
        rw [e]
        exact ⟨A, cp, rfl, ((HS.set _ _ (by simp)).set _ _ (by simp)).row, (HF.setCell (p := ⟨w.heap.size, 0, none⟩) (Nat.le_refl _) _).setCell (p := ⟨w.heap.size + 1, 0, none⟩) (by simp) _⟩
      · have h64' : decide ((acc.length : Int) ≤ 64) = false := decide_eq_false (by omega)
        go_wp2_with (go_at_call 24; (with_reducible refine (need_false _ _).mono ?_); rintro e w' ⟨rfl, rfl⟩)
        refine leaves_cons (f := 22) (args := #[.pointer (some ⟨w.heap.size, 0, none⟩), .pointer (some ⟨w.heap.size + 1, 0, none⟩)]) (by simp) (by simp [go_sem]) ?_
        refine (catch_panicking _ _ _ _ _ _ (by simp) cA cB fA fB).mono ?_
        rintro e u' w'' ⟨rfl, rfl, rfl⟩
        refine ⟨_, by simp [results, Try.results16, go_sem, cA, cB]; rfl, ?_⟩
        have e : decode L = ([], 3) := HD.out.trans (if_neg h64)
        rw [e]
        exact ⟨none, 0, rfl, RowE.nil, (HF.setCell (p := ⟨w.heap.size, 0, none⟩) (Nat.le_refl _) _).setCell (p := ⟨w.heap.size + 1, 0, none⟩) (by simp) _⟩
    | cons c r =>
      obtain ⟨n, rfl⟩ : ∃ m, n = m + 1 := ⟨n - 1, by simp at hrn; omega⟩
      have hcc := readVal_any _ _ wr.drew HC.drew (by simp at hle ⊢; omega)
      have cA := HA.c 0 _ rfl
      have fA := HA.f 0 (by simp)
      have cC := HC.c 0 _ rfl
      have h := tx_list (c :: r)
      have hr2 : decL (n + 1) (c :: r) acc = match valD (c :: r) with | .error e => .error e | .ok (v, r) => decL n r (acc ++ [v]) := rfl
      rw [HR.out] at hr2
      cases hv : valD (c :: r) with
      | error e =>
        rw [hv] at hr2
        have HX := Lib.hid hr2
        have hcv : valV (c :: r) = .error e := by unfold valV; rw [hv]; rfl
        rw [hcv] at hcc
        clear hr2 hv hcv HR
        go_wp2_with fail
        refine wp_lift ?_
        refine stage_begin (S := fun (L' : Array Bool) (w' : World) => (L'.getD 5 false = false → w'.cell? ⟨w.heap.size, 0, none⟩ = some vl)) (by kernel_rfl) ?_
        have cA' : wr.drew.cell? ⟨w.heap.size, 0, none⟩ = some vl := cA
        refine stage_take (i := 0) (oi := { dst := some 14, op := Go.Op.load 22 (Go.Operand.tmp 2), type := 22, pos := "keycode.go:147", after := #[], guard := none }) (v := ?_) (T := fun w' : World => w'.cell? ⟨w.heap.size, 0, none⟩ = some vl) rfl (by kernel_rfl) (by kernel_rfl) (by kernel_rfl) (by kernel_rfl) (fun _ _ _ h => lift_put (by decide) (by decide) h) (fun L' w' hW hS => hS (not_yet hW (by kernel_rfl))) (fun L' w' hS => fun h => hS (by rw [getD_set_ne false (by decide)]; exact h)) (Or.inl ⟨by rfl, ?_⟩) (cA') (fun _ => cA') ?_
        rotate_left 1
        · intro w9 hS9; obtain z0 := hS9; go_simp; (try with_reducible rfl)
        try simp only [Act.put, List.setIfInBounds_toArray, List.set_cons_zero, List.set_cons_succ]
        refine stage_take (i := 1) (oi := { dst := some 15, op := Go.Op.move (Go.Operand.tmp 4), type := 49, pos := "keycode.go:147", after := #[], guard := none }) (v := ?_) (T := fun _ => True) rfl (by kernel_rfl) (by kernel_rfl) (by kernel_rfl) (by kernel_rfl) (fun _ _ _ h => lift_put (by decide) (by decide) h) (fun L' w' hW hS => trivial) (fun L' w' hS => fun h => hS (by rw [getD_set_ne false (by decide)]; exact h)) (Or.inl ⟨by rfl, ?_⟩) trivial (fun _ => cA') ?_
        rotate_left 1
        · intro w9 _; go_simp; (try with_reducible rfl)
        try simp only [Act.put, List.setIfInBounds_toArray, List.set_cons_zero, List.set_cons_succ]
        refine stage_all (rs := [2]) (by kernel_rfl) (by simp) (fun i0 hi0 => ?_)
        obtain rfl : i0 = 2 := by simpa using hi0
        refine stage_step (S := fun (L' : Array Bool) (w' : World) => (L'.getD 5 false = false → w'.cell? ⟨w.heap.size, 0, none⟩ = some vl)) (o := { dst := some 16, op := Go.Op.call { callee := Go.Callee.value (Go.Operand.func 23), args := #[Go.Operand.tmp 15], argTypes := #[49] }, type := 31, pos := "keycode.go:147", after := #[{ on := 1, ground := Go.Ground.data }], guard := none }) (by rfl) (fun K2 hK => ?_)
        go_simp
        go_wp2_with (go_at_call 23; (with_reducible refine hcc.mono ?_); rintro e5 w5 ⟨hk5, rfl⟩)
        intro a' hd h2 h3
        replace hd : a'.defers = [{ target := Target.fn (Fn.func 22) #[.pointer (some ⟨w.heap.size, 0, none⟩), .pointer (some ⟨w.heap.size + 1, 0, none⟩)], args := #[] }] := hd
        replace h2 : a'.tmps[2]? = some (.pointer (some ⟨w.heap.size, 0, none⟩)) := h2
        replace h3 : a'.tmps[3]? = some (.pointer (some ⟨w.heap.size + 1, 0, none⟩)) := h3
        have hA5 := HA.drew.kept hk5 HA.lt (by omega)
        have hB5 := HB.drew.kept hk5 HB.lt (by omega)
        have hF5 : Below w.heap.size w w5 := (below_drewN HF 1).trans (hk5.to_below (Nat.le_of_lt HA.lt) (fun k hk => by omega))
        clear cA fA cA'
        have cA := hA5.c 0 _ rfl
        have fA := hA5.f 0 (by simp)
        have cB := hB5.c 0 _ rfl
        have fB := hB5.f 0 (by simp)
        show Leaves _ _ a'.tmps _ a'.defers _ _
        rw [hd]
        refine leaves_cons (f := 22) (args := #[.pointer (some ⟨w.heap.size, 0, none⟩), .pointer (some ⟨w.heap.size + 1, 0, none⟩)]) (by simp) (by simp [go_sem]) ?_
        refine (catch_panicking _ _ _ _ _ _ (by simp) cA cB fA fB).mono ?_
        rintro e6 u' w'' ⟨rfl, rfl, rfl⟩
        refine ⟨_, by simp [results, Try.results16, go_sem, h2, h3, cA, cB]; rfl, ?_⟩
        have ee : decode L = ([], e) := HD.out.trans (by rw [HX.out]; rfl)
        rw [ee]
        exact ⟨none, 0, rfl, RowE.nil, (hF5.setCell (p := ⟨w.heap.size, 0, none⟩) (Nat.le_refl _) _).setCell (p := ⟨w.heap.size + 1, 0, none⟩) (by simp) _⟩
      | ok q =>
        obtain ⟨v, r2⟩ := q
        have hshort := valD_short hv
        rw [hv] at hr2
        have HX := Lib.hid hr2
        have hcv : valV (c :: r) = .ok (.agg #[.int .i64 v.k, .int .i64 v.n, .string v.s], r2) := by unfold valV; rw [hv]; rfl
        rw [hcv] at hcc
        clear hr2 hv hcv HR
        go_wp2_with fail
        refine wp_lift ?_
        refine stage_begin (S := fun (L' : Array Bool) (w' : World) => (L'.getD 5 false = false → w'.cell? ⟨w.heap.size, 0, none⟩ = some vl)) (by kernel_rfl) ?_
        have cA' : wr.drew.cell? ⟨w.heap.size, 0, none⟩ = some vl := cA
        refine stage_take (i := 0) (oi := { dst := some 14, op := Go.Op.load 22 (Go.Operand.tmp 2), type := 22, pos := "keycode.go:147", after := #[], guard := none }) (v := ?_) (T := fun w' : World => w'.cell? ⟨w.heap.size, 0, none⟩ = some vl) rfl (by kernel_rfl) (by kernel_rfl) (by kernel_rfl) (by kernel_rfl) (fun _ _ _ h => lift_put (by decide) (by decide) h) (fun L' w' hW hS => hS (not_yet hW (by kernel_rfl))) (fun L' w' hS => fun h => hS (by rw [getD_set_ne false (by decide)]; exact h)) (Or.inl ⟨by rfl, ?_⟩) (cA') (fun _ => cA') ?_
        rotate_left 1
        · intro w9 hS9; obtain z0 := hS9; go_simp; (try with_reducible rfl)
        try simp only [Act.put, List.setIfInBounds_toArray, List.set_cons_zero, List.set_cons_succ]
        refine stage_take (i := 1) (oi := { dst := some 15, op := Go.Op.move (Go.Operand.tmp 4), type := 49, pos := "keycode.go:147", after := #[], guard := none }) (v := ?_) (T := fun _ => True) rfl (by kernel_rfl) (by kernel_rfl) (by kernel_rfl) (by kernel_rfl) (fun _ _ _ h => lift_put (by decide) (by decide) h) (fun L' w' hW hS => trivial) (fun L' w' hS => fun h => hS (by rw [getD_set_ne false (by decide)]; exact h)) (Or.inl ⟨by rfl, ?_⟩) trivial (fun _ => cA') ?_
        rotate_left 1
        · intro w9 _; go_simp; (try with_reducible rfl)
        try simp only [Act.put, List.setIfInBounds_toArray, List.set_cons_zero, List.set_cons_succ]
        refine stage_all (rs := [2]) (by kernel_rfl) (by simp) (fun i0 hi0 => ?_)
        obtain rfl : i0 = 2 := by simpa using hi0
        refine stage_step (S := fun (L' : Array Bool) (w' : World) => (L'.getD 5 false = false → w'.cell? ⟨w.heap.size, 0, none⟩ = some vl)) (o := { dst := some 16, op := Go.Op.call { callee := Go.Callee.value (Go.Operand.func 23), args := #[Go.Operand.tmp 15], argTypes := #[49] }, type := 31, pos := "keycode.go:147", after := #[{ on := 1, ground := Go.Ground.data }], guard := none }) (by rfl) (fun K2 hK => ?_)
        go_simp
        go_wp2_with (go_at_call 23; (with_reducible refine hcc.mono ?_); rintro e5 w5 ⟨hk5, rfl, hC5⟩)
        have hown5 : w5.ownsRow (w.heap.size + 3) 31 3 vl acc.length (acc.flatMap encVal) := hk5.own (own_below HO (below_drewN (Below.refl _ _) 1)) (fun g hg => ⟨(HO.lt g hg).2, by have := (HO.lt g hg).1; omega⟩)
        have hA5 := HA.drew.kept hk5 HA.lt (by omega)
        have hB5 := HB.drew.kept hk5 HB.lt (by omega)
        have hF5 : Below w.heap.size w w5 := (below_drewN HF 1).trans (hk5.to_below (Nat.le_of_lt HA.lt) (fun k hk => by omega))
        have hs5 : w.heap.size + 3 ≤ w5.heap.size := Nat.le_trans hsz hk5.size
        clear cA fA cA' hcc
        have cA := hA5.c 0 _ rfl
        refine hK.out _ _ (fun _ => cA) ?_
        clear hK K2
        try simp only [Act.put, List.setIfInBounds_toArray, List.set_cons_zero, List.set_cons_succ]
        refine stage_all (rs := [3]) (by kernel_rfl) (by simp) (fun i0 hi0 => ?_)
        obtain rfl : i0 = 3 := by simpa using hi0
        refine stage_step (S := fun (L' : Array Bool) (w' : World) => (L'.getD 5 false = false → w'.cell? ⟨w.heap.size, 0, none⟩ = some vl)) (o := { dst := some 17, op := Go.Op.buildSlice 22 1 #[(0, Go.Operand.tmp 16)], type := 22, pos := "keycode.go:147", after := #[{ on := 2, ground := Go.Ground.data }], guard := none }) (by rfl) (fun K2 hK => ?_)
        go_simp
        have hA6 := hA5.alloc (.cells #[.int .i64 v.k, .int .i64 v.n, .string v.s] 31)
        have hB6 := hB5.alloc (.cells #[.int .i64 v.k, .int .i64 v.n, .string v.s] 31)
        have hC6 := hC5.alloc (.cells #[.int .i64 v.k, .int .i64 v.n, .string v.s] 31)
        have hF6 : Below w.heap.size w (w5.alloc (.cells #[.int .i64 v.k, .int .i64 v.n, .string v.s] 31)) := hF5.alloc (by omega) _
        have hown6 := hown5.alloc (.cells #[.int .i64 v.k, .int .i64 v.n, .string v.s] 31)
        have N6 : Hid (Box (w5.alloc (.cells #[.int .i64 v.k, .int .i64 v.n, .string v.s] 31)) w5.heap.size [.int .i64 v.k, .int .i64 v.n, .string v.s]) := Lib.hid (Box.new w5 #[.int .i64 v.k, .int .i64 v.n, .string v.s] _)
        have hs6 : w.heap.size + 3 ≤ (w5.alloc (.cells #[.int .i64 v.k, .int .i64 v.n, .string v.s] 31)).heap.size := by simp; omega
        clear cA
        have cA := hA6.c 0 _ rfl
        refine hK.out _ _ (fun _ => cA) ?_
        clear hK K2
        try simp only [Act.put, List.setIfInBounds_toArray, List.set_cons_zero, List.set_cons_succ]
        generalize w5.alloc (.cells #[.int .i64 v.k, .int .i64 v.n, .string v.s] 31) = w6 at *
        generalize w5.heap.size = g6 at *
        refine stage_all (rs := [4]) (by kernel_rfl) (by simp) (fun i0 hi0 => ?_)
        obtain rfl : i0 = 4 := by simpa using hi0
        refine stage_step (S := fun (L' : Array Bool) (w' : World) => (L'.getD 5 false = false → w'.cell? ⟨w.heap.size, 0, none⟩ = some vl)) (o := { dst := some 18, op := Go.Op.call { callee := Go.Callee.builtin Go.Builtin.append, args := #[Go.Operand.tmp 14, Go.Operand.tmp 17], argTypes := #[22, 22] }, type := 22, pos := "keycode.go:147", after := #[{ on := 0, ground := Go.Ground.data }, { on := 3, ground := Go.Ground.data }, { on := 2, ground := Go.Ground.chain }], guard := none }) (by rfl) (fun K2 hK => ?_)
        refine step_append_own rfl _ _ 22 rfl (w.heap.size + 3) 31 i0 (.agg #[.int .i64 0, .int .i64 0, .string ⟨#[]⟩]) 3 32 Try.underlying22 hi hz0 hz1 hz2 rfl (by decide) _ acc.length (acc.flatMap encVal) rfl hown6 ⟨g6, 0, none⟩ 1 1 (encVal v) rfl (encVal_len v) (fun i u hi => by rw [Addr.add_lit, Nat.zero_add]; exact N6.out.c i u hi) (fun u hu => encVal_cells [v] u (by simpa using hu)) (by simp only [maxLen]; simp at hle; omega) (by simp at hle; omega) hs6 (fun vl2 w7 hown hgrow => ?_)
        have qa : vl.ownBlock ≠ some w.heap.size := fun q => by have := (hown6.lt _ q).1; omega
        have qb : vl.ownBlock ≠ some (w.heap.size + 1) := fun q => by have := (hown6.lt _ q).1; omega
        have qc : vl.ownBlock ≠ some (w.heap.size + 1 + 1) := fun q => by have := (hown6.lt _ q).1; omega
        have hA7 := hA6.grown hgrow (Ne.symm qa)
        have hB7 := hB6.grown hgrow (Ne.symm qb)
        have hC7 := hC6.grown hgrow (Ne.symm qc)
        have hF7 : Below w.heap.size w w7 := hF6.grown hgrow (by omega) (fun k hk => by have := (hown6.lt k hk).1; omega)
        have hs7 : w.heap.size + 3 ≤ w7.heap.size := Nat.le_trans hs6 hgrow.size
        clear cA
        have cA := hA7.c 0 _ rfl
        refine hK.out _ _ (fun _ => cA) ?_
        clear hK K2
        try simp only [Act.put, List.setIfInBounds_toArray, List.set_cons_zero, List.set_cons_succ]
        obtain ⟨A7, c7, rfl, _, _⟩ := own_slice hown
        refine stage_all (rs := [5]) (by kernel_rfl) (by simp) (fun i0 hi0 => ?_)
        obtain rfl : i0 = 5 := by simpa using hi0
        refine stage_step (S := fun (L' : Array Bool) (w' : World) => (L'.getD 5 false = false → w'.cell? ⟨w.heap.size, 0, none⟩ = some vl)) (o := { dst := none, op := Go.Op.store 22 (Go.Operand.tmp 2) (Go.Operand.tmp 18), type := 0, pos := "keycode.go:147", after := #[{ on := 4, ground := Go.Ground.data }, { on := 4, ground := Go.Ground.chain }, { on := 0, ground := Go.Ground.phase }, { on := 1, ground := Go.Ground.phase }, { on := 2, ground := Go.Ground.phase }, { on := 3, ground := Go.Ground.phase }, { on := 4, ground := Go.Ground.phase }], guard := none }) (by rfl) (fun K2 hK => ?_)
        have fA7 := hA7.f 0 (by simp)
        go_simp
        refine hK.out _ _ (fun h => by simp at h) ?_
        clear hK K2
        try simp only [Act.put, List.setIfInBounds_toArray, List.set_cons_zero, List.set_cons_succ]
        refine stage_done (by kernel_rfl) ?_ _
        refine lift_normal ?_
        go_wp2_with fail
        go_roundw
        case rel => exact ⟨n, r2, acc ++ [v], _, Lib.hid HX.out.symm, by simp at hrn; omega, by simp at hle ⊢; omega, own_set (by rw [flat_one, List.length_append]; exact hown) _ _ (by simp), by simpa using hA7.set 0 _ (by simp), hB7.other _ _ (by simp), hC7.other _ _ (by simp <;> omega), hF7.setCell (p := ⟨w.heap.size, 0, none⟩) (Nat.le_refl _) _, by simpa using hs7⟩
        case measure => rw [hm, restOf_box (hC7.other ⟨w.heap.size, 0, none⟩ (.slice A7 (acc.length + 1) c7) (by simp <;> omega))]; simp only [List.length_cons]; omega
end Go.Proofs.Ytinkmcbcfdlnjaa
