/- Package lock: Readers; the law's reads. -/
import Derived.Test.YtdiclnkkddnncaaCmpL
import Derived.Test.YtdiclnkkddnncaaLkC
import Derived.Test.YtdiclnkkddnncaaOfL
namespace Go.Proofs.Ytdiclnkkddnncaa
open Go.RowKit
open Go.Shelf
set_option linter.unusedVariables false
set_option linter.unusedSimpArgs false
def encI (n : Int) : List Value := [.int .i64 n]
theorem encI_len (x : Int) : (encI x).length = 1 := rfl
theorem encI_flat (l : List Int) : l.flatMap encI = l.map (Value.int .i64) := by induction l <;> simp_all [encI]
theorem SlB.ints {N : Nat} {w : World} {base n : Nat} {v : Value} {l : List Int} (hN : N ≤ base) (h : w.ownsRow base 3 1 v n (l.map (Value.int .i64))) : SlB encI 1 N w v l := SlB.of_own encI_len (by decide) hN (by rw [encI_flat]; exact h)
theorem infoI : ∃ i0, Try.prog.info? 3 = some i0 ∧ i0.zero = some (.int .i64 0) ∧ i0.size = 1 ∧ i0.bytes = 8 :=
  info_parts (show (Try.prog.info? 3).map (fun i => (i.zero, i.size, i.bytes)) = some (some (.int .i64 0), 1, 8) by kernel_rfl)
theorem less_zero : ∀ s : List UInt8, Op.bytesLess s (s ++ [0]) = true
  | [] => by simp [Op.bytesLess]
  | a :: s => by simp [Op.bytesLess, less_zero s]
theorem zero_least : ∀ s t : List UInt8, Op.bytesLess s t = true → Op.bytesLess t (s ++ [0]) = false
  | [], [], h => by simp [Op.bytesLess] at h
  | [], b :: t, _ => by
    cases t <;> simp [Op.bytesLess]
  | a :: s, [], h => by simp [Op.bytesLess] at h
  | a :: s, b :: t, h => by
    simp only [Op.bytesLess, Bool.or_eq_true, decide_eq_true_eq, Bool.and_eq_true, beq_iff_eq] at h
    simp only [List.cons_append, Op.bytesLess, Bool.or_eq_false_iff, decide_eq_false_iff_not, Bool.and_eq_false_iff]
    rcases h with h | ⟨rfl, h⟩
    · rw [UInt8.lt_iff_toNat_lt] at *
      refine ⟨by omega, .inl ?_⟩
      simp only [beq_eq_false_iff_ne, ne_eq]
      intro e; subst e; omega
    · refine ⟨by rw [UInt8.lt_iff_toNat_lt]; omega, .inr (zero_least s t h)⟩
theorem ends_key {k k0 h : ByteArray} (hk : k0.toList = k.toList ++ [0]) : decide (endsR k0 h ≤ 0) = (nil? h || lt? k h) := by
  have n0 : nil? k0 = false := by unfold nil?; rw [hk]; simp
  have l0 : lt? k k0 = true := by unfold lt?; rw [hk]; exact less_zero _
  have e : (endsR k0 h ≤ 0) ↔ (nil? h = true ∨ lt? k h = true) := by
    constructor
    · intro hle
      cases hn : nil? h with
      | true => exact .inl rfl
      | false =>
        right
        by_cases z : endsR k0 h < 0
        · rcases ((ends_neg _ _).1 z).2 with q | q
          · rw [q] at hn; cases hn
          · exact lt_trans' l0 q
        · have z0 : endsR k0 h = 0 := by omega
          rw [← lt_congr (a := k) rfl ((ends_zero _ _).1 z0)]; exact l0
    · rintro (q | q)
      · have := (ends_neg k0 h).2 ⟨n0, .inl q⟩; omega
      · rcases elt_tri k0 h with r | r | r
        · have := (ends_neg _ _).2 r; omega
        · have := (ends_zero _ _).2 r; omega
        · exfalso
          rcases r.2 with r2 | r2
          · rw [r2] at n0; cases n0
          · have := zero_least k.toList h.toList q
            unfold lt? at r2
            rw [hk, this] at r2; cases r2
  cases hn : nil? h <;> cases hl : lt? k h <;> simp [e, hn, hl]
theorem one_int {r : Int} {u : Value} (hu : u ∈ [Value.int .i64 r]) : u.oneCell' = true := by rw [List.mem_singleton.1 hu]; rfl
theorem cell_one {w : World} {q : Nat} {r : Int} {T : TypeId} (hq : w.heap.size = q) {j : Nat} {u : Value} (hj : [Value.int .i64 r][j]? = some u) : (w.alloc (.cells #[.int .i64 r] T)).cell? ((⟨q, 0, none⟩ : Addr).add j) = some u := by
  subst hq
  cases j with
  | zero =>
    obtain rfl : Value.int .i64 r = u := by simpa using hj
    simp [Addr.add]
  | succ j => simp at hj
def readersR (l : List Lk) (k : ByteArray) : List Int × Int := if chkL l ≠ 0 then ([], chkL l) else (compR none ((l.filter (fun x => cov x k)).map (·.tx)), 0)
theorem key_zero (k : ByteArray) : (k ++ (⟨#[0]⟩ : ByteArray)).toList = k.toList ++ [0] := by
  rw [ByteArray.toList_eq, ByteArray.toList_eq]
  simp
set_option maxRecDepth 100000 in
theorem compact_nil (w : World) : Calls Try.prog 44 #[.slice none 0 0] w fun e w' => e = .returned (.slice none 0 0) ∧ w' = w := by
  go_enter Try.func44, Try.ntmps44
  go_wp2
  go_ret
  exact ⟨rfl, rfl⟩
theorem compact_any (base : Nat) (v : Value) (l : List Int) (w : World) (HO : w.ownsRow base 3 1 v l.length (l.map (Value.int .i64))) (hl : l.length ≤ 1000) :
    Calls Try.prog 44 #[v] w fun e w' => ∃ v', e = .returned v' ∧ w'.ownsRow base 3 1 v' (compR none l).length ((compR none l).map (Value.int .i64)) ∧ Below base w w' := by
  rcases HO.2 with ⟨rfl, h0⟩ | ⟨g, cap, cur, rfl, _⟩
  · obtain rfl : l = [] := List.eq_nil_of_length_eq_zero h0
    refine (compact_nil w).mono ?_
    rintro e w' ⟨rfl, rfl⟩
    exact ⟨_, rfl, World.ownsRow_nil _ _ _ _, Below.refl _ _⟩
  · refine (compact_own base g cap l w HO hl).mono ?_
    rintro e w' ⟨rfl, h1, h2⟩
    exact ⟨_, rfl, h1, h2⟩
set_option maxHeartbeats 4000000 in
set_option maxRecDepth 100000 in
theorem readers_any (A : Option Addr) (c : Nat) (l : List Lk) (key : ByteArray) (w : World) (HR : RowE encL 3 w A l) (hl : l.length ≤ 140737488355328) (hk : key.size ≤ 140737488351232) :
    Calls Try.prog 20 #[.agg #[.slice A l.length c], .string key] w fun e w' => ∃ u, e = .returned (.tuple #[u, .int .i64 (readersR l key).2]) ∧ SlB encI 1 w.heap.size w' u (readersR l key).1 ∧ Below w.heap.size w w' := by
  obtain ⟨i0, hi, hz0, hz1, hz2⟩ := infoI
  have ba : Below w.heap.size w (w.alloc (.cells #[.slice A l.length c] 30)) := (by (repeat (first | (with_reducible exact Below.refl _ _) | apply below_alloc _ (Nat.le_refl _) | refine below_set ?_ (by first | exact Nat.le_refl _ | omega) | apply below_drewN | refine below_step ?_ HB)))
  have B2 := Box1.new w (.slice A l.length c) 30
  have hck := lcheck_any A c l _ (HR.below ba) hl
  have HR0 := Lib.hid (HR.below ba)
  have E1 : Hid (chkL l ≠ 0 → readersR l key = ([], chkL l)) := Lib.hid (fun h => by unfold readersR; rw [if_pos h])
  have E2 : Hid (chkL l = 0 → readersR l key = (compR none ((l.filter (fun x => cov x key)).map (·.tx)), 0)) := Lib.hid (fun h => by unfold readersR; rw [if_neg (by simp [h])])
  have CK := Lib.hid (fun h => ((chkL_iff l).1 h).1)
  clear HR
  generalize hkk : chkL l = k at *
  clear hkk
  go_enter Try.func20, Try.ntmps20
  go_wp2_with fail
  refine hck.mono ?_; rintro e w1 ⟨rfl, h1⟩
  have HB := B2.step h1
  have HR1 := Lib.hid (HR0.out.below h1)
  have HF := ba.trans (h1.mono (by simp))
  have hz := HF.size
  clear h1 hck B2 ba HR0
  obtain ⟨c0, f0, l0⟩ := HB
  by_cases k0 : k = 0
  · subst k0
    have hlen := CK.out (by trivial)
    have EE := Lib.hid (E2.out (by trivial))
    clear E1 E2 CK
    go_wp2_with fail
    go_loopw [7, 18] (fun s7 s18 wr => ∃ j : Nat, j ≤ l.length ∧ s18 = .int .i64 j ∧ Below w1.heap.size w1 wr ∧ Hid (wr.ownsRow w1.heap.size 3 1 s7 (((l.take j).filter (fun x => cov x key)).map (·.tx)).length ((((l.take j).filter (fun x => cov x key)).map (·.tx)).map (Value.int .i64)))) (fun _ s18 _ => l.length - (Lib.intOf s18).toNat)
    case atStart => exact ⟨0, Nat.zero_le _, rfl, Below.refl _ _, Lib.hid (by simpa using World.ownsRow_nil _ _ _ _)⟩
    case round =>
      obtain ⟨j, hj, rfl, hbel, HO⟩ := hrel
      by_cases hlt : j < l.length
      · obtain ⟨x, hx⟩ : ∃ x, l[j]? = some x := ⟨_, List.getElem?_eq_getElem hlt⟩
        obtain ⟨b0, off, rfl, hb0, g0, g1, g2⟩ := HR1.out.tri hx hbel
        have TK : Hid (((l.take (j + 1)).filter (fun x => cov x key)).map (·.tx) = ((l.take j).filter (fun x => cov x key)).map (·.tx) ++ (if cov x key = true then [x.tx] else [])) := Lib.hid (by
          rw [List.take_add_one, hx]; simp only [Option.toList_some, List.filter_append, List.map_append]
          congr 1
          by_cases q : cov x key = true
          · simp [q]
          · simp [q])
        have hcl : (((l.take j).filter (fun x => cov x key)).map (·.tx)).length ≤ 512 := by
          rw [List.length_map]; exact Nat.le_trans (List.length_filter_le _ _) (by rw [List.length_take]; omega)
        have hek := Lib.hid (ends_key (h := x.hi) (key_zero key))
        have hC := Lib.hid (show cov x key = (!lt? key x.lo && (nil? x.hi || lt? key x.hi)) from rfl)
        have C3 := fun W => ends_any (key ++ (⟨#[0]⟩ : ByteArray)) x.hi W
        have hsz : ¬ (9223372036854775807 < key.size + 1) := by omega
        clear hx
        generalize ((l.take j).filter (fun x => cov x key)).map (·.tx) = zs at *
        obtain ⟨tx, lo, hi'⟩ := x
        dsimp only at g0 g1 g2 TK hek hC C3
        have hb4 := hbel.alloc hbel.size (.cells #[.int .i64 tx, .string lo, .string hi'] 35)
        have HO4 := Lib.hid (HO.out.alloc (.cells #[.int .i64 tx, .string lo, .string hi'] 35))
        have l4 : wr.heap.size < (wr.alloc (.cells #[.int .i64 tx, .string lo, .string hi'] 35)).heap.size := by simp
        generalize endsR (key ++ (⟨#[0]⟩ : ByteArray)) hi' = ev at *
        cases hb : Op.bytesLess key.toList lo.toList with
        | true =>
          have TK2 : Hid (((l.take (j + 1)).filter (fun x => cov x key)).map (·.tx) = zs) := Lib.hid (by rw [TK.out, hC.out]; simp [lt?, hb])
          clear TK hek hC C3
          go_wp2
          go_roundw
          case rel => exact ⟨j + 1, by omega, by go_num, hb4, Lib.hid (by rw [TK2.out]; exact HO4.out)⟩
          case measure => simp [Lib.intOf]; omega
        | false =>
          by_cases he : ev ≤ 0
          · have TK2 : Hid (((l.take (j + 1)).filter (fun x => cov x key)).map (·.tx) = zs ++ [tx]) := Lib.hid (by
              have := hek.out
              rw [decide_eq_true he] at this
              rw [TK.out, hC.out, ← this]; simp [lt?, hb])
            clear TK hek hC
            go_wp2_with (first | (refine (C3 _).mono ?_; rintro e wn ⟨rfl, rfl⟩) | (at_builtin; refine wpList_append_own _ rfl _ _ 50 rfl w1.heap.size 3 i0 (.int .i64 0) 1 8 Try.underlying50 hi hz0 hz1 hz2 rfl (by decide) _ _ _ rfl (HO4.out.alloc _) ⟨wr.heap.size + 1, 0, none⟩ 1 1 [.int .i64 tx] rfl rfl ?c1 ?c2 ?c3 ?c4 ?c5 ?_))
            all_goals first | (intro jj u hjj; exact cell_one (by simp) hjj) | (intro u hu; exact one_int hu) | (unfold maxLen; omega) | omega | (have := hbel.size; simp; omega) | skip
            intro v' w3 hown' hgrow hnil
            have hB3 : Below w1.heap.size w1 w3 := (hb4.alloc hb4.size (.cells #[.int .i64 tx] 3)).grown hgrow (by have := hbel.size; simp; omega) (fun k hk => (HO4.out.lt k hk).1)
            have HO3 : Hid (w3.ownsRow w1.heap.size 3 1 v' (zs ++ [tx]).length ((zs ++ [tx]).map (Value.int .i64))) := Lib.hid (by simpa using hown')
            clear hown' hgrow hnil
            go_wp2
            go_roundw
            case rel => exact ⟨j + 1, by omega, by go_num, hB3, Lib.hid (by rw [TK2.out]; exact HO3.out)⟩
            case measure => simp [Lib.intOf]; omega
          · have TK2 : Hid (((l.take (j + 1)).filter (fun x => cov x key)).map (·.tx) = zs) := Lib.hid (by
              have := hek.out
              rw [decide_eq_false he] at this
              rw [TK.out, hC.out, ← this]; simp)
            clear TK hek hC
            go_wp2_with (refine (C3 _).mono ?_; rintro e wn ⟨rfl, rfl⟩)
            go_roundw
            case rel => exact ⟨j + 1, by omega, by go_num, hb4, Lib.hid (by rw [TK2.out]; exact HO4.out)⟩
            case measure => simp [Lib.intOf]; omega
      · obtain rfl : j = l.length := by omega
        rw [List.take_length] at HO
        have hcp := compact_any w1.heap.size u7 ((l.filter (fun x => cov x key)).map (·.tx)) wr HO.out (by rw [List.length_map]; exact Nat.le_trans (List.length_filter_le _ _) (by omega))
        go_wp2_with fail
        refine hcp.mono ?_; rintro e w2 ⟨v2, rfl, hown2, h2⟩
        go_wp2
        refine bodyPost_ret (v := .tuple #[v2, .int .i64 0]) (by simp [results, Try.results20, go_sem]) rfl ?_
        rw [EE.out]
        exact ⟨_, rfl, SlB.ints (base := w1.heap.size) (by omega) hown2, HF.trans ((hbel.mono hz).trans (h2.mono hz))⟩
  · have EE := Lib.hid (E1.out k0)
    clear E1 E2 CK
    go_wp2
    refine bodyPost_ret (v := .tuple #[.slice none 0 0, .int .i64 k]) (by simp [results, Try.results20, go_sem]) rfl ?_
    rw [EE.out]
    exact ⟨_, rfl, SlB.nil _, HF⟩
end Go.Proofs.Ytdiclnkkddnncaa
