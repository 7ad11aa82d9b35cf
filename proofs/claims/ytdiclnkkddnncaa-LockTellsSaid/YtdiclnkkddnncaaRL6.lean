/- The page's locks: Readers. -/
import Derived.Test.YtdiclnkkddnncaaRL5
import Derived.Test.YtdiclnkkddnncaaRdL
namespace Go.Proofs.Ytdiclnkkddnncaa
open Go.RowKit
open Go.Shelf
set_option linter.unusedVariables false
set_option linter.unusedSimpArgs false
theorem comp_step : ∀ (m : List Int) (p : Option Int) (a : Int), compR p (m ++ [a]) = if (compR p m).getLast?.or p = some a then compR p m else compR p m ++ [a]
  | [], p, a => by
    rw [List.nil_append, compR_cons]
    by_cases q : p = some a <;> simp [compR, q]
  | b :: m, p, a => by
    rw [List.cons_append, compR_cons, compR_cons]
    by_cases q : p = some b
    · rw [if_pos q, if_pos q]; exact comp_step m p a
    · rw [if_neg q, if_neg q, comp_step m (some b) a, List.getLast?_cons]
      have e : ((compR (some b) m).getLast?.or (some b)) = ((some ((compR (some b) m).getLast?.getD b)).or p) := by
        cases (compR (some b) m).getLast? <;> rfl
      rw [e]
      split <;> rfl
theorem comp_cov {l : List Lk} {j : Nat} {y : Lk} {k : ByteArray} (hy : l[j]? = some y) : compR none (((l.take (j + 1)).filter (fun x => cov x k)).map (·.tx)) = if cov y k = true then (if (compR none (((l.take j).filter (fun x => cov x k)).map (·.tx))).getLast? = some y.tx then compR none (((l.take j).filter (fun x => cov x k)).map (·.tx)) else compR none (((l.take j).filter (fun x => cov x k)).map (·.tx)) ++ [y.tx]) else compR none (((l.take j).filter (fun x => cov x k)).map (·.tx)) := by
  rw [List.take_add_one, hy]
  simp only [Option.toList_some, List.filter_append, List.map_append]
  by_cases q : cov y k = true
  · rw [if_pos q]
    have : ([y].filter (fun x => cov x k)).map (·.tx) = [y.tx] := by simp [q]
    rw [this, comp_step]
    simp
  · rw [if_neg q]
    have : ([y].filter (fun x => cov x k)).map (·.tx) = [] := by simp [q]
    rw [this, List.append_nil]
theorem comp_le : ∀ (l : List Int) (p : Option Int), (compR p l).length ≤ l.length
  | [], _ => Nat.le_refl _
  | a :: l, p => by
    rw [compR_cons]
    split
    · have := comp_le l p; simp; omega
    · have := comp_le l (some a); simp; omega
theorem app_int (w : World) (ty : TypeId) (base : Nat) (v0 : Value) (l : List Int) (x : Int) (h0 : w.ownsRow base 3 1 v0 l.length (l.map (Value.int .i64))) (q : Nat) (hq : w.heap[q]? = some (.cells #[.int .i64 x] 3)) (hl : (l.length + 1) * 8 ≤ 140737488355328) (hb : base ≤ w.heap.size) :
    ∃ v' w', (Builtin.append_ #[50, 50] ty #[v0, .slice (some ⟨q, 0, none⟩) 1 1]).run Try.prog w = .ok v' w' ∧ w'.ownsRow base 3 1 v' (l ++ [x]).length ((l ++ [x]).map (Value.int .i64)) ∧ Below base w w' := by
  obtain ⟨i0, hi, hz0, hz1, hz2⟩ := infoI
  obtain ⟨v', w', hrun, h1, h2, _⟩ := run_append_own_at (P := Try.prog) w base 50 ty 3 i0 _ 1 8 Try.underlying50 hi hz0 hz1 hz2 rfl (by decide) v0 l.length (l.map (Value.int .i64)) h0 ⟨q, 0, none⟩ 1 1 [.int .i64 x] rfl
    (fun j u hj => by
      cases j with
      | zero =>
        obtain rfl : Value.int .i64 x = u := by simpa using hj
        simp [Addr.add, World.cell?, hq]
      | succ j => simp at hj) (fun u hu => one_int hu) (by simp only [maxLen]; omega) (by omega) hb
  exact ⟨v', w', hrun, by simpa using h1, (Below.refl base w).grown h2 hb (fun k hk => (h0.lt k hk).1)⟩
set_option maxHeartbeats 4000000 in
set_option maxRecDepth 100000 in
theorem rlreaders_any (A : Option Addr) (c : Nat) (l : List Lk) (key : ByteArray) (w : World) (HR : RowE encL 3 w A l) (hl : l.length ≤ 140737488355328) :
    Calls Try.prog 21 #[.agg #[.slice A l.length c], .string key] w fun e w' => ∃ u, e = .returned (.tuple #[u, .int .i64 (readersR l key).2]) ∧ SlB encI 1 w.heap.size w' u (readersR l key).1 ∧ Below w.heap.size w w' := by
  have E1 : Hid (chkL l = 9 → readersR l key = ([], 9)) := Lib.hid (fun h => by unfold readersR; rw [if_pos (by simp [h]), h])
  have E2 : Hid (chkL l = 0 → readersR l key = (compR none ((l.filter (fun x => cov x key)).map (·.tx)), 0)) := Lib.hid (fun h => by unfold readersR; rw [if_neg (by simp [h])])
  have CK := Lib.hid (fun h : chkL l = 0 => (chkL_iff l).1 h)
  have C9 := chkL_or l
  have BC := Lib.hid (Box.new w #[.slice A l.length c] 24)
  have h0 : Below w.heap.size w (w.alloc (.cells #[.slice A l.length c] 24)) := (by (repeat (first | (with_reducible exact Below.refl _ _) | apply below_alloc _ (Nat.le_refl _) | refine below_set ?_ (by first | exact Nat.le_refl _ | omega) | apply below_drewN | refine below_step ?_ HB)))
  have RW := Lib.hid HR
  have HF := Lib.hid h0
  have hck := rlcheck_any A c l _ (HR.below h0) hl
  clear h0 HR
  generalize chkL l = kc at *
  go_enter Try.func21, Try.ntmps21
  have cBC0 := BC.out.c 0 _ rfl; have fBC0 := BC.out.f 0 (by simp); have lBC := BC.out.lt
  go_wp2_with fail
  clear cBC0 fBC0 lBC
  generalize w.alloc (.cells #[.slice A l.length c] 24) = w0 at *
  refine hck.mono ?_; rintro e w1 ⟨rfl, h1⟩
  replace BC := Lib.hid (BC.out.below h1 BC.out.lt); replace HF := Lib.hid (below_step' HF.out h1)
  clear hck h1
  rcases C9 with rfl | rfl
  · obtain ⟨h512, _, _⟩ := CK.out (by trivial)
    have E3 := Lib.hid (E2.out (by trivial))
    clear E1 E2 CK
    have hz1 : w.heap.size + 1 ≤ w1.heap.size := BC.out.lt
    obtain ⟨base, hbase⟩ : ∃ base, base = w.heap.size + 1 := ⟨_, rfl⟩
    go_wp2_with fail
    go_loopw [6, 7] (fun s6 s7 wr => ∃ j : Nat, j ≤ l.length ∧ s7 = .int .i64 j ∧ Hid (Below w.heap.size w wr) ∧ Hid (Box wr w.heap.size [.slice A l.length c]) ∧ ∃ zs : List Int, Hid (compR none (((l.take j).filter (fun x => cov x key)).map (·.tx)) = zs) ∧ Hid (wr.ownsRow base 3 1 s6 zs.length (zs.map (Value.int .i64)))) (fun _ s7 _ => l.length - (Lib.intOf s7).toNat)
    case atStart => exact ⟨0, Nat.zero_le _, rfl, HF, BC, [], Lib.hid rfl, Lib.hid (World.ownsRow_nil _ _ _ _)⟩
    case round =>
      clear HF BC
      obtain ⟨j, hj, rfl, HFr, BCr, zs, HZr, HOr⟩ := hrel
      have hzl512 : zs.length ≤ 512 := by
        rw [← HZr.out]
        refine Nat.le_trans (comp_le _ _) ?_
        rw [List.length_map]
        exact Nat.le_trans (List.length_filter_le _ _) (by rw [List.length_take]; omega)
      obtain ⟨Ar, cr, rfl, _, _⟩ := own_slice HOr.out
      by_cases hlt : j < l.length
      · obtain ⟨y, hy⟩ : ∃ y, l[j]? = some y := ⟨_, List.getElem?_eq_getElem hlt⟩
        obtain ⟨b0, off, rfl, hb0, g0, g1, g2⟩ := RW.out.tri hy HFr.out
        have HZ0 := Lib.hid (comp_cov (k := key) hy)
        rw [HZr.out] at HZ0
        have hC : cov y key = (!lt? key y.lo && (nil? y.hi || lt? key y.hi)) := rfl
        generalize cov y key = cv at *
        clear hy HZr
        obtain ⟨ytx, ylo, yhi⟩ := y
        dsimp only at g0 g1 g2 hC
        try dsimp only at HZ0
        have hji : (j : Int) < (l.length : Int) := by omega
        cases hb1 : Op.bytesLess key.toList ylo.toList with
        | true =>
          have hcv : cv = false := by rw [hC]; simp [lt?, hb1]
          clear hC
          have HZ : Hid (compR none (((l.take (j + 1)).filter (fun x => cov x key)).map (·.tx)) = zs) := Lib.hid (by rw [HZ0.out, if_neg (by simp [hcv])])
          clear HZ0
          have cBCr0 := BCr.out.c 0 _ rfl; have fBCr0 := BCr.out.f 0 (by simp); have lBCr := BCr.out.lt
          go_upto_region 8 with (fail)
          clear cBCr0 fBCr0 lBCr
          have BYr := Lib.hid (Box.new wr #[.int .i64 ytx, .string ylo, .string yhi] 26)
          have hb := (Below.refl _ wr).alloc (Nat.le_refl _) (.cells #[.int .i64 ytx, .string ylo, .string yhi] 26)
          replace BCr := Lib.hid (BCr.out.below hb BCr.out.lt); replace HFr := Lib.hid (below_step' HFr.out hb)
          replace HOr := Lib.hid (own_below HOr.out hb)
          clear hb
          generalize wr.alloc (.cells #[.int .i64 ytx, .string ylo, .string yhi] 26) = w8 at *
          generalize wr.heap.size = gy at *
          have cBCr0 := BCr.out.c 0 _ rfl; have fBCr0 := BCr.out.f 0 (by simp); have lBCr := BCr.out.lt; have cBYr0 := BYr.out.c 0 _ rfl; have fBYr0 := BYr.out.f 0 (by simp); have cBYr1 := BYr.out.c 1 _ rfl; have fBYr1 := BYr.out.f 1 (by simp); have cBYr2 := BYr.out.c 2 _ rfl; have fBYr2 := BYr.out.f 2 (by simp); have lBYr := BYr.out.lt
          go_quiet (fail)
          clear cBCr0 fBCr0 lBCr; clear cBYr0 fBYr0 cBYr1 fBYr1 cBYr2 fBYr2 lBYr
          have hd9 := below_drewN (Below.refl w8.heap.size w8) nq
          replace BCr := Lib.hid (BCr.out.below hd9 BCr.out.lt); replace BYr := Lib.hid (BYr.out.below hd9 BYr.out.lt); replace HFr := Lib.hid (below_step' HFr.out hd9)
          replace HOr := Lib.hid (own_below HOr.out hd9)
          clear hd9
          generalize w8.drewN nq = w9 at *
          go_wp2_with fail
          go_roundw
          case rel => exact ⟨j + 1, by omega, by go_num, HFr, BCr, zs, Lib.hid (by rw [HZ.out]), HOr⟩
          case measure => simp [Lib.intOf]; omega

        | false =>
          cases hb2 : (yhi.toList == []) with
          | true =>
            have hcv : cv = true := by rw [hC]; simp [lt?, nil?, hb1, hb2]
            clear hC
            have HZ1 : Hid (compR none (((l.take (j + 1)).filter (fun x => cov x key)).map (·.tx)) = if zs.getLast? = some ytx then zs else zs ++ [ytx]) := Lib.hid (by rw [HZ0.out, if_pos hcv])
            clear HZ0
            rcases List.eq_nil_or_concat zs with hz | ⟨z0, a, hz⟩
            · subst hz
              have HZ : Hid (compR none (((l.take (j + 1)).filter (fun x => cov x key)).map (·.tx)) = [] ++ [ytx]) := Lib.hid (by rw [HZ1.out]; simp)
              clear HZ1
              have hz0 : (([] : List Int).length : Int) = 0 := rfl
              have cBCr0 := BCr.out.c 0 _ rfl; have fBCr0 := BCr.out.f 0 (by simp); have lBCr := BCr.out.lt
              go_upto_region 8 with (fail)
              clear cBCr0 fBCr0 lBCr
              have BYr := Lib.hid (Box.new wr #[.int .i64 ytx, .string ylo, .string yhi] 26)
              have hb := (Below.refl _ wr).alloc (Nat.le_refl _) (.cells #[.int .i64 ytx, .string ylo, .string yhi] 26)
              replace BCr := Lib.hid (BCr.out.below hb BCr.out.lt); replace HFr := Lib.hid (below_step' HFr.out hb)
              replace HOr := Lib.hid (own_below HOr.out hb)
              clear hb
              generalize wr.alloc (.cells #[.int .i64 ytx, .string ylo, .string yhi] 26) = w8 at *
              generalize wr.heap.size = gy at *
              have cBCr0 := BCr.out.c 0 _ rfl; have fBCr0 := BCr.out.f 0 (by simp); have lBCr := BCr.out.lt; have cBYr0 := BYr.out.c 0 _ rfl; have fBYr0 := BYr.out.f 0 (by simp); have cBYr1 := BYr.out.c 1 _ rfl; have fBYr1 := BYr.out.f 1 (by simp); have cBYr2 := BYr.out.c 2 _ rfl; have fBYr2 := BYr.out.f 2 (by simp); have lBYr := BYr.out.lt
              go_quiet (fail)
              clear cBCr0 fBCr0 lBCr; clear cBYr0 fBYr0 cBYr1 fBYr1 cBYr2 fBYr2 lBYr
              have hd9 := below_drewN (Below.refl w8.heap.size w8) nq
              replace BCr := Lib.hid (BCr.out.below hd9 BCr.out.lt); replace BYr := Lib.hid (BYr.out.below hd9 BYr.out.lt); replace HFr := Lib.hid (below_step' HFr.out hd9)
              replace HOr := Lib.hid (own_below HOr.out hd9)
              clear hd9
              generalize w8.drewN nq = w9 at *
              go_upto_region 9 with (fail)
              obtain ⟨v2, w10, hrun, ho2, hb2⟩ := app_int (w9.alloc (.cells #[.int .i64 ytx] 3)) 50 base _ ([] : List Int) ytx (HOr.out.alloc _) w9.heap.size (heap_alloc_new w9 _) (by first | omega | (simp; done)) (by have := HFr.out.size; simp; omega)
              have hz2 := HFr.out.size
              have hz1 : w.heap.size < w9.heap.size := BCr.out.lt
              have HF3 : Hid (Below w.heap.size w w10) := Lib.hid ((HFr.out.alloc hz2 (.cells #[.int .i64 ytx] 3)).trans (hb2.mono (by omega)))
              have BC3 := Lib.hid ((BCr.out.alloc (.cells #[.int .i64 ytx] 3)).below hb2 (by omega))
              have HO3 : Hid (w10.ownsRow base 3 1 v2 (([] : List Int) ++ [ytx]).length ((([] : List Int) ++ [ytx]).map (Value.int .i64))) := Lib.hid ho2
              clear ho2 hb2
              have cBYr0 := BYr.out.c 0 _ rfl; have fBYr0 := BYr.out.f 0 (by simp); have cBYr1 := BYr.out.c 1 _ rfl; have fBYr1 := BYr.out.f 1 (by simp); have cBYr2 := BYr.out.c 2 _ rfl; have fBYr2 := BYr.out.f 2 (by simp); have lBYr := BYr.out.lt
              go_wp2_with (at_builtin; refine Lib.wpList_append_run _ rfl _ _ _ _ rfl _ _ rfl rfl _ _ hrun ?_)
              go_roundw
              case rel => exact ⟨j + 1, by omega, by go_num, HF3, BC3, ([] : List Int) ++ [ytx], Lib.hid (by rw [HZ.out]), HO3⟩
              case measure => simp [Lib.intOf]; omega

            · have hzl : zs.length = z0.length + 1 := by rw [hz]; simp
              obtain ⟨gg, hAr, hlast⟩ : ∃ gg, Ar = some ⟨gg, 0, none⟩ ∧ wr.cell? ⟨gg, z0.length, none⟩ = some (.int .i64 a) := by
                have h1 := own_some HOr.out (by omega)
                obtain ⟨gg, cc, hv, _⟩ := h1
                cases hv
                refine ⟨gg, rfl, (HOr.out.cellAt z0.length (by omega)).trans ?_⟩
                rw [hz]; simp
              subst hAr
              have hgl : zs.getLast? = some a := by rw [hz]; simp
              have zi1 : ((zs.length : Nat) : Int) - 1 = ((z0.length : Nat) : Int) := by omega
              have zi2 : (((zs.length : Nat) : Int) == 0) = false := beq_false_of_ne (by omega)
              have zi3 : ((z0.length : Nat) : Int) < ((zs.length : Nat) : Int) := by omega
              rw [hgl] at HZ1
              clear hz hgl hzl
              generalize z0.length = n0 at *
              by_cases hay : a = ytx
              · subst hay
                have HZ : Hid (compR none (((l.take (j + 1)).filter (fun x => cov x key)).map (·.tx)) = zs) := Lib.hid (by rw [HZ1.out, if_pos rfl])
                clear HZ1
                have cBCr0 := BCr.out.c 0 _ rfl; have fBCr0 := BCr.out.f 0 (by simp); have lBCr := BCr.out.lt
                go_upto_region 8 with (fail)
                clear cBCr0 fBCr0 lBCr
                have BYr := Lib.hid (Box.new wr #[.int .i64 a, .string ylo, .string yhi] 26)
                have hb := (Below.refl _ wr).alloc (Nat.le_refl _) (.cells #[.int .i64 a, .string ylo, .string yhi] 26)
                replace BCr := Lib.hid (BCr.out.below hb BCr.out.lt); replace HFr := Lib.hid (below_step' HFr.out hb)
                replace HOr := Lib.hid (own_below HOr.out hb)
                clear hb
                replace hlast := (((Below.refl _ wr).alloc (Nat.le_refl _) (.cells #[.int .i64 a, .string ylo, .string yhi] 26)).cell (p := ⟨gg, n0, none⟩) (World.block_lt_of_cell? _ _ hlast)).trans hlast
                generalize wr.alloc (.cells #[.int .i64 a, .string ylo, .string yhi] 26) = w8 at *
                generalize wr.heap.size = gy at *
                have cBCr0 := BCr.out.c 0 _ rfl; have fBCr0 := BCr.out.f 0 (by simp); have lBCr := BCr.out.lt; have cBYr0 := BYr.out.c 0 _ rfl; have fBYr0 := BYr.out.f 0 (by simp); have cBYr1 := BYr.out.c 1 _ rfl; have fBYr1 := BYr.out.f 1 (by simp); have cBYr2 := BYr.out.c 2 _ rfl; have fBYr2 := BYr.out.f 2 (by simp); have lBYr := BYr.out.lt
                go_quiet (fail)
                clear cBCr0 fBCr0 lBCr; clear cBYr0 fBYr0 cBYr1 fBYr1 cBYr2 fBYr2 lBYr
                have hd9 := below_drewN (Below.refl w8.heap.size w8) nq
                replace BCr := Lib.hid (BCr.out.below hd9 BCr.out.lt); replace BYr := Lib.hid (BYr.out.below hd9 BYr.out.lt); replace HFr := Lib.hid (below_step' HFr.out hd9)
                replace HOr := Lib.hid (own_below HOr.out hd9)
                clear hd9
                generalize w8.drewN nq = w9 at *
                go_wp2_with fail
                go_roundw
                case rel => exact ⟨j + 1, by omega, by go_num, HFr, BCr, zs, Lib.hid (by rw [HZ.out]), HOr⟩
                case measure => simp [Lib.intOf]; omega

              · have hay1 : (a == ytx) = false := by simpa using hay
                have hay2 : (a != ytx) = true := by simpa using hay
                have HZ : Hid (compR none (((l.take (j + 1)).filter (fun x => cov x key)).map (·.tx)) = zs ++ [ytx]) := Lib.hid (by rw [HZ1.out, if_neg (by simpa using hay)])
                clear HZ1
                have cBCr0 := BCr.out.c 0 _ rfl; have fBCr0 := BCr.out.f 0 (by simp); have lBCr := BCr.out.lt
                go_upto_region 8 with (fail)
                clear cBCr0 fBCr0 lBCr
                have BYr := Lib.hid (Box.new wr #[.int .i64 ytx, .string ylo, .string yhi] 26)
                have hb := (Below.refl _ wr).alloc (Nat.le_refl _) (.cells #[.int .i64 ytx, .string ylo, .string yhi] 26)
                replace BCr := Lib.hid (BCr.out.below hb BCr.out.lt); replace HFr := Lib.hid (below_step' HFr.out hb)
                replace HOr := Lib.hid (own_below HOr.out hb)
                clear hb
                replace hlast := (((Below.refl _ wr).alloc (Nat.le_refl _) (.cells #[.int .i64 ytx, .string ylo, .string yhi] 26)).cell (p := ⟨gg, n0, none⟩) (World.block_lt_of_cell? _ _ hlast)).trans hlast
                generalize wr.alloc (.cells #[.int .i64 ytx, .string ylo, .string yhi] 26) = w8 at *
                generalize wr.heap.size = gy at *
                have cBCr0 := BCr.out.c 0 _ rfl; have fBCr0 := BCr.out.f 0 (by simp); have lBCr := BCr.out.lt; have cBYr0 := BYr.out.c 0 _ rfl; have fBYr0 := BYr.out.f 0 (by simp); have cBYr1 := BYr.out.c 1 _ rfl; have fBYr1 := BYr.out.f 1 (by simp); have cBYr2 := BYr.out.c 2 _ rfl; have fBYr2 := BYr.out.f 2 (by simp); have lBYr := BYr.out.lt
                go_quiet (fail)
                clear cBCr0 fBCr0 lBCr; clear cBYr0 fBYr0 cBYr1 fBYr1 cBYr2 fBYr2 lBYr
                have hd9 := below_drewN (Below.refl w8.heap.size w8) nq
                replace BCr := Lib.hid (BCr.out.below hd9 BCr.out.lt); replace BYr := Lib.hid (BYr.out.below hd9 BYr.out.lt); replace HFr := Lib.hid (below_step' HFr.out hd9)
                replace HOr := Lib.hid (own_below HOr.out hd9)
                clear hd9
                generalize w8.drewN nq = w9 at *
                go_upto_region 9 with (fail)
                obtain ⟨v2, w10, hrun, ho2, hb2⟩ := app_int (w9.alloc (.cells #[.int .i64 ytx] 3)) 50 base _ zs ytx (HOr.out.alloc _) w9.heap.size (heap_alloc_new w9 _) (by first | omega | (simp; done)) (by have := HFr.out.size; simp; omega)
                have hz2 := HFr.out.size
                have hz1 : w.heap.size < w9.heap.size := BCr.out.lt
                have HF3 : Hid (Below w.heap.size w w10) := Lib.hid ((HFr.out.alloc hz2 (.cells #[.int .i64 ytx] 3)).trans (hb2.mono (by omega)))
                have BC3 := Lib.hid ((BCr.out.alloc (.cells #[.int .i64 ytx] 3)).below hb2 (by omega))
                have HO3 : Hid (w10.ownsRow base 3 1 v2 (zs ++ [ytx]).length ((zs ++ [ytx]).map (Value.int .i64))) := Lib.hid ho2
                clear ho2 hb2
                have cBYr0 := BYr.out.c 0 _ rfl; have fBYr0 := BYr.out.f 0 (by simp); have cBYr1 := BYr.out.c 1 _ rfl; have fBYr1 := BYr.out.f 1 (by simp); have cBYr2 := BYr.out.c 2 _ rfl; have fBYr2 := BYr.out.f 2 (by simp); have lBYr := BYr.out.lt
                go_wp2_with (at_builtin; refine Lib.wpList_append_run _ rfl _ _ _ _ rfl _ _ rfl rfl _ _ hrun ?_)
                go_roundw
                case rel => exact ⟨j + 1, by omega, by go_num, HF3, BC3, zs ++ [ytx], Lib.hid (by rw [HZ.out]), HO3⟩
                case measure => simp [Lib.intOf]; omega

          | false =>
            cases hb3 : Op.bytesLess key.toList yhi.toList with
            | true =>
              have hcv : cv = true := by rw [hC]; simp [lt?, nil?, hb1, hb2, hb3]
              clear hC
              have HZ1 : Hid (compR none (((l.take (j + 1)).filter (fun x => cov x key)).map (·.tx)) = if zs.getLast? = some ytx then zs else zs ++ [ytx]) := Lib.hid (by rw [HZ0.out, if_pos hcv])
              clear HZ0
              rcases List.eq_nil_or_concat zs with hz | ⟨z0, a, hz⟩
              · subst hz
                have HZ : Hid (compR none (((l.take (j + 1)).filter (fun x => cov x key)).map (·.tx)) = [] ++ [ytx]) := Lib.hid (by rw [HZ1.out]; simp)
                clear HZ1
                have hz0 : (([] : List Int).length : Int) = 0 := rfl
                have cBCr0 := BCr.out.c 0 _ rfl; have fBCr0 := BCr.out.f 0 (by simp); have lBCr := BCr.out.lt
                go_upto_region 8 with (fail)
                clear cBCr0 fBCr0 lBCr
                have BYr := Lib.hid (Box.new wr #[.int .i64 ytx, .string ylo, .string yhi] 26)
                have hb := (Below.refl _ wr).alloc (Nat.le_refl _) (.cells #[.int .i64 ytx, .string ylo, .string yhi] 26)
                replace BCr := Lib.hid (BCr.out.below hb BCr.out.lt); replace HFr := Lib.hid (below_step' HFr.out hb)
                replace HOr := Lib.hid (own_below HOr.out hb)
                clear hb
                generalize wr.alloc (.cells #[.int .i64 ytx, .string ylo, .string yhi] 26) = w8 at *
                generalize wr.heap.size = gy at *
                have cBCr0 := BCr.out.c 0 _ rfl; have fBCr0 := BCr.out.f 0 (by simp); have lBCr := BCr.out.lt; have cBYr0 := BYr.out.c 0 _ rfl; have fBYr0 := BYr.out.f 0 (by simp); have cBYr1 := BYr.out.c 1 _ rfl; have fBYr1 := BYr.out.f 1 (by simp); have cBYr2 := BYr.out.c 2 _ rfl; have fBYr2 := BYr.out.f 2 (by simp); have lBYr := BYr.out.lt
                go_quiet (fail)
                clear cBCr0 fBCr0 lBCr; clear cBYr0 fBYr0 cBYr1 fBYr1 cBYr2 fBYr2 lBYr
                have hd9 := below_drewN (Below.refl w8.heap.size w8) nq
                replace BCr := Lib.hid (BCr.out.below hd9 BCr.out.lt); replace BYr := Lib.hid (BYr.out.below hd9 BYr.out.lt); replace HFr := Lib.hid (below_step' HFr.out hd9)
                replace HOr := Lib.hid (own_below HOr.out hd9)
                clear hd9
                generalize w8.drewN nq = w9 at *
                go_upto_region 9 with (fail)
                obtain ⟨v2, w10, hrun, ho2, hb2⟩ := app_int (w9.alloc (.cells #[.int .i64 ytx] 3)) 50 base _ ([] : List Int) ytx (HOr.out.alloc _) w9.heap.size (heap_alloc_new w9 _) (by first | omega | (simp; done)) (by have := HFr.out.size; simp; omega)
                have hz2 := HFr.out.size
                have hz1 : w.heap.size < w9.heap.size := BCr.out.lt
                have HF3 : Hid (Below w.heap.size w w10) := Lib.hid ((HFr.out.alloc hz2 (.cells #[.int .i64 ytx] 3)).trans (hb2.mono (by omega)))
                have BC3 := Lib.hid ((BCr.out.alloc (.cells #[.int .i64 ytx] 3)).below hb2 (by omega))
                have HO3 : Hid (w10.ownsRow base 3 1 v2 (([] : List Int) ++ [ytx]).length ((([] : List Int) ++ [ytx]).map (Value.int .i64))) := Lib.hid ho2
                clear ho2 hb2
                have cBYr0 := BYr.out.c 0 _ rfl; have fBYr0 := BYr.out.f 0 (by simp); have cBYr1 := BYr.out.c 1 _ rfl; have fBYr1 := BYr.out.f 1 (by simp); have cBYr2 := BYr.out.c 2 _ rfl; have fBYr2 := BYr.out.f 2 (by simp); have lBYr := BYr.out.lt
                go_wp2_with (at_builtin; refine Lib.wpList_append_run _ rfl _ _ _ _ rfl _ _ rfl rfl _ _ hrun ?_)
                go_roundw
                case rel => exact ⟨j + 1, by omega, by go_num, HF3, BC3, ([] : List Int) ++ [ytx], Lib.hid (by rw [HZ.out]), HO3⟩
                case measure => simp [Lib.intOf]; omega

              · have hzl : zs.length = z0.length + 1 := by rw [hz]; simp
                obtain ⟨gg, hAr, hlast⟩ : ∃ gg, Ar = some ⟨gg, 0, none⟩ ∧ wr.cell? ⟨gg, z0.length, none⟩ = some (.int .i64 a) := by
                  have h1 := own_some HOr.out (by omega)
                  obtain ⟨gg, cc, hv, _⟩ := h1
                  cases hv
                  refine ⟨gg, rfl, (HOr.out.cellAt z0.length (by omega)).trans ?_⟩
                  rw [hz]; simp
                subst hAr
                have hgl : zs.getLast? = some a := by rw [hz]; simp
                have zi1 : ((zs.length : Nat) : Int) - 1 = ((z0.length : Nat) : Int) := by omega
                have zi2 : (((zs.length : Nat) : Int) == 0) = false := beq_false_of_ne (by omega)
                have zi3 : ((z0.length : Nat) : Int) < ((zs.length : Nat) : Int) := by omega
                rw [hgl] at HZ1
                clear hz hgl hzl
                generalize z0.length = n0 at *
                by_cases hay : a = ytx
                · subst hay
                  have HZ : Hid (compR none (((l.take (j + 1)).filter (fun x => cov x key)).map (·.tx)) = zs) := Lib.hid (by rw [HZ1.out, if_pos rfl])
                  clear HZ1
                  have cBCr0 := BCr.out.c 0 _ rfl; have fBCr0 := BCr.out.f 0 (by simp); have lBCr := BCr.out.lt
                  go_upto_region 8 with (fail)
                  clear cBCr0 fBCr0 lBCr
                  have BYr := Lib.hid (Box.new wr #[.int .i64 a, .string ylo, .string yhi] 26)
                  have hb := (Below.refl _ wr).alloc (Nat.le_refl _) (.cells #[.int .i64 a, .string ylo, .string yhi] 26)
                  replace BCr := Lib.hid (BCr.out.below hb BCr.out.lt); replace HFr := Lib.hid (below_step' HFr.out hb)
                  replace HOr := Lib.hid (own_below HOr.out hb)
                  clear hb
                  replace hlast := (((Below.refl _ wr).alloc (Nat.le_refl _) (.cells #[.int .i64 a, .string ylo, .string yhi] 26)).cell (p := ⟨gg, n0, none⟩) (World.block_lt_of_cell? _ _ hlast)).trans hlast
                  generalize wr.alloc (.cells #[.int .i64 a, .string ylo, .string yhi] 26) = w8 at *
                  generalize wr.heap.size = gy at *
                  have cBCr0 := BCr.out.c 0 _ rfl; have fBCr0 := BCr.out.f 0 (by simp); have lBCr := BCr.out.lt; have cBYr0 := BYr.out.c 0 _ rfl; have fBYr0 := BYr.out.f 0 (by simp); have cBYr1 := BYr.out.c 1 _ rfl; have fBYr1 := BYr.out.f 1 (by simp); have cBYr2 := BYr.out.c 2 _ rfl; have fBYr2 := BYr.out.f 2 (by simp); have lBYr := BYr.out.lt
                  go_quiet (fail)
                  clear cBCr0 fBCr0 lBCr; clear cBYr0 fBYr0 cBYr1 fBYr1 cBYr2 fBYr2 lBYr
                  have hd9 := below_drewN (Below.refl w8.heap.size w8) nq
                  replace BCr := Lib.hid (BCr.out.below hd9 BCr.out.lt); replace BYr := Lib.hid (BYr.out.below hd9 BYr.out.lt); replace HFr := Lib.hid (below_step' HFr.out hd9)
                  replace HOr := Lib.hid (own_below HOr.out hd9)
                  clear hd9
                  generalize w8.drewN nq = w9 at *
                  go_wp2_with fail
                  go_roundw
                  case rel => exact ⟨j + 1, by omega, by go_num, HFr, BCr, zs, Lib.hid (by rw [HZ.out]), HOr⟩
                  case measure => simp [Lib.intOf]; omega

                · have hay1 : (a == ytx) = false := by simpa using hay
                  have hay2 : (a != ytx) = true := by simpa using hay
                  have HZ : Hid (compR none (((l.take (j + 1)).filter (fun x => cov x key)).map (·.tx)) = zs ++ [ytx]) := Lib.hid (by rw [HZ1.out, if_neg (by simpa using hay)])
                  clear HZ1
                  have cBCr0 := BCr.out.c 0 _ rfl; have fBCr0 := BCr.out.f 0 (by simp); have lBCr := BCr.out.lt
                  go_upto_region 8 with (fail)
                  clear cBCr0 fBCr0 lBCr
                  have BYr := Lib.hid (Box.new wr #[.int .i64 ytx, .string ylo, .string yhi] 26)
                  have hb := (Below.refl _ wr).alloc (Nat.le_refl _) (.cells #[.int .i64 ytx, .string ylo, .string yhi] 26)
                  replace BCr := Lib.hid (BCr.out.below hb BCr.out.lt); replace HFr := Lib.hid (below_step' HFr.out hb)
                  replace HOr := Lib.hid (own_below HOr.out hb)
                  clear hb
                  replace hlast := (((Below.refl _ wr).alloc (Nat.le_refl _) (.cells #[.int .i64 ytx, .string ylo, .string yhi] 26)).cell (p := ⟨gg, n0, none⟩) (World.block_lt_of_cell? _ _ hlast)).trans hlast
                  generalize wr.alloc (.cells #[.int .i64 ytx, .string ylo, .string yhi] 26) = w8 at *
                  generalize wr.heap.size = gy at *
                  have cBCr0 := BCr.out.c 0 _ rfl; have fBCr0 := BCr.out.f 0 (by simp); have lBCr := BCr.out.lt; have cBYr0 := BYr.out.c 0 _ rfl; have fBYr0 := BYr.out.f 0 (by simp); have cBYr1 := BYr.out.c 1 _ rfl; have fBYr1 := BYr.out.f 1 (by simp); have cBYr2 := BYr.out.c 2 _ rfl; have fBYr2 := BYr.out.f 2 (by simp); have lBYr := BYr.out.lt
                  go_quiet (fail)
                  clear cBCr0 fBCr0 lBCr; clear cBYr0 fBYr0 cBYr1 fBYr1 cBYr2 fBYr2 lBYr
                  have hd9 := below_drewN (Below.refl w8.heap.size w8) nq
                  replace BCr := Lib.hid (BCr.out.below hd9 BCr.out.lt); replace BYr := Lib.hid (BYr.out.below hd9 BYr.out.lt); replace HFr := Lib.hid (below_step' HFr.out hd9)
                  replace HOr := Lib.hid (own_below HOr.out hd9)
                  clear hd9
                  generalize w8.drewN nq = w9 at *
                  go_upto_region 9 with (fail)
                  obtain ⟨v2, w10, hrun, ho2, hb2⟩ := app_int (w9.alloc (.cells #[.int .i64 ytx] 3)) 50 base _ zs ytx (HOr.out.alloc _) w9.heap.size (heap_alloc_new w9 _) (by first | omega | (simp; done)) (by have := HFr.out.size; simp; omega)
                  have hz2 := HFr.out.size
                  have hz1 : w.heap.size < w9.heap.size := BCr.out.lt
                  have HF3 : Hid (Below w.heap.size w w10) := Lib.hid ((HFr.out.alloc hz2 (.cells #[.int .i64 ytx] 3)).trans (hb2.mono (by omega)))
                  have BC3 := Lib.hid ((BCr.out.alloc (.cells #[.int .i64 ytx] 3)).below hb2 (by omega))
                  have HO3 : Hid (w10.ownsRow base 3 1 v2 (zs ++ [ytx]).length ((zs ++ [ytx]).map (Value.int .i64))) := Lib.hid ho2
                  clear ho2 hb2
                  have cBYr0 := BYr.out.c 0 _ rfl; have fBYr0 := BYr.out.f 0 (by simp); have cBYr1 := BYr.out.c 1 _ rfl; have fBYr1 := BYr.out.f 1 (by simp); have cBYr2 := BYr.out.c 2 _ rfl; have fBYr2 := BYr.out.f 2 (by simp); have lBYr := BYr.out.lt
                  go_wp2_with (at_builtin; refine Lib.wpList_append_run _ rfl _ _ _ _ rfl _ _ rfl rfl _ _ hrun ?_)
                  go_roundw
                  case rel => exact ⟨j + 1, by omega, by go_num, HF3, BC3, zs ++ [ytx], Lib.hid (by rw [HZ.out]), HO3⟩
                  case measure => simp [Lib.intOf]; omega

            | false =>
              have hcv : cv = false := by rw [hC]; simp [lt?, nil?, hb1, hb2, hb3]
              clear hC
              have HZ : Hid (compR none (((l.take (j + 1)).filter (fun x => cov x key)).map (·.tx)) = zs) := Lib.hid (by rw [HZ0.out, if_neg (by simp [hcv])])
              clear HZ0
              have cBCr0 := BCr.out.c 0 _ rfl; have fBCr0 := BCr.out.f 0 (by simp); have lBCr := BCr.out.lt
              go_upto_region 8 with (fail)
              clear cBCr0 fBCr0 lBCr
              have BYr := Lib.hid (Box.new wr #[.int .i64 ytx, .string ylo, .string yhi] 26)
              have hb := (Below.refl _ wr).alloc (Nat.le_refl _) (.cells #[.int .i64 ytx, .string ylo, .string yhi] 26)
              replace BCr := Lib.hid (BCr.out.below hb BCr.out.lt); replace HFr := Lib.hid (below_step' HFr.out hb)
              replace HOr := Lib.hid (own_below HOr.out hb)
              clear hb
              generalize wr.alloc (.cells #[.int .i64 ytx, .string ylo, .string yhi] 26) = w8 at *
              generalize wr.heap.size = gy at *
              have cBCr0 := BCr.out.c 0 _ rfl; have fBCr0 := BCr.out.f 0 (by simp); have lBCr := BCr.out.lt; have cBYr0 := BYr.out.c 0 _ rfl; have fBYr0 := BYr.out.f 0 (by simp); have cBYr1 := BYr.out.c 1 _ rfl; have fBYr1 := BYr.out.f 1 (by simp); have cBYr2 := BYr.out.c 2 _ rfl; have fBYr2 := BYr.out.f 2 (by simp); have lBYr := BYr.out.lt
              go_quiet (fail)
              clear cBCr0 fBCr0 lBCr; clear cBYr0 fBYr0 cBYr1 fBYr1 cBYr2 fBYr2 lBYr
              have hd9 := below_drewN (Below.refl w8.heap.size w8) nq
              replace BCr := Lib.hid (BCr.out.below hd9 BCr.out.lt); replace BYr := Lib.hid (BYr.out.below hd9 BYr.out.lt); replace HFr := Lib.hid (below_step' HFr.out hd9)
              replace HOr := Lib.hid (own_below HOr.out hd9)
              clear hd9
              generalize w8.drewN nq = w9 at *
              go_wp2_with fail
              go_roundw
              case rel => exact ⟨j + 1, by omega, by go_num, HFr, BCr, zs, Lib.hid (by rw [HZ.out]), HOr⟩
              case measure => simp [Lib.intOf]; omega

      · obtain rfl : j = l.length := by omega
        rw [List.take_length] at HZr
        have EE : Hid (readersR l key = (zs, 0)) := Lib.hid (by rw [E3.out, HZr.out])
        have HS := Lib.hid (SlB.ints (N := w.heap.size) (by omega) HOr.out)
        have cBCr0 := BCr.out.c 0 _ rfl; have fBCr0 := BCr.out.f 0 (by simp); have lBCr := BCr.out.lt
        go_wp2_with fail
        clear cBCr0 fBCr0 lBCr
        refine bodyPost_ret (v := .tuple #[.slice Ar zs.length cr, .int .i64 0]) (by simp [results, Try.results21, go_sem]) rfl ?_
        rw [EE.out]
        exact ⟨_, rfl, HS.out, HFr.out⟩
  · have EE := Lib.hid (E1.out (by trivial))
    clear E1 E2 CK RW
    go_wp2_with fail
    refine bodyPost_ret (v := .tuple #[.slice none 0 0, .int .i64 9]) (by simp [results, Try.results21, go_sem]) rfl ?_
    rw [EE.out]
    exact ⟨_, rfl, SlB.nil _, HF.out⟩
end Go.Proofs.Ytdiclnkkddnncaa
