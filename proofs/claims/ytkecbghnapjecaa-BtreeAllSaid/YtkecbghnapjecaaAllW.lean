/- The law BtreeAll: its walk. -/
import Derived.Test.YtkecbghnapjecaaAllP
namespace Go.Proofs.Ytkecbghnapjecaa
open Go.RowKit
set_option linter.unusedVariables false
set_option linter.unusedSimpArgs false
theorem wpList_append_eq {P : Program} {w : World} {ops : Array Oper} {rest : List Oper} {o : Oper} {a : Act} {Q : Exit → Act → World → Prop} (s x : Operand) (t : TypeId)
    (ho : o.op = Op.call { callee := Callee.builtin Builtin.append, args := #[s, x], argTypes := #[t, t] }) (hw : Region.wanted o (yielded ops a.tmps) = true) {v u v' : Value} {w' : World}
    (hs : a.eval s = v) (hx : a.eval x = u) (hrun : (Builtin.append_ #[t, t] o.type #[v, u]).run P w = .ok v' w') (h : wpList P ops Q rest (a.put o.dst v') w') : wpList P ops Q (o :: rest) a w := by
  refine wpList_step fun K hK => ?_
  rw [if_pos hw]
  unfold Oper.wp
  simp [execOp, ho, resolve, invoke, builtin, hs, hx, hrun, Result.andThen]
  exact hK _ _ h
set_option maxHeartbeats 4000000 in
set_option maxRecDepth 100000 in
theorem all_any (NA : Option Addr) (nc : Nat) (root : Int) (s : List Nd) (at' : ByteArray) (w : World) (hN : NodesAt w NA s) (hok : StOk s) (hroot : InR root) :
    Calls Try.prog 5 #[.agg #[.slice NA s.length nc, .int .i64 root], .string at'] w fun e w' => e = .returned (.bool true) ∧ Below w.heap.size w w' := by
  obtain ⟨iP, hp0, hp1, hp2, hp3⟩ := info_parts (show (Try.prog.info? 56).map (fun i => (i.zero, i.size, i.bytes)) = some (some (.agg #[.string ⟨#[]⟩, .string ⟨#[]⟩]), 2, 32) by kernel_rfl)
  have HB := Lib.hid (Box.new w #[.slice NA s.length nc, .int .i64 root] 24)
  have hb0 : Below w.heap.size w (w.alloc (.cells #[.slice NA s.length nc, .int .i64 root] 24)) := (Below.refl _ _).alloc (Nat.le_refl _) _
  have HS := Lib.hid (hN.below hb0)
  have HF := Lib.hid hb0
  have HOK := Lib.hid hok
  clear hN hb0 hok
  go_enter Try.func5, Try.ntmps5
  go_wp2_with fail
  generalize w.alloc (.cells #[.slice NA s.length nc, .int .i64 root] 24) = w1 at *
  refine (alive_any _).mono ?_
  rintro e w2 ⟨rfl, hb⟩
  replace HB := Lib.hid (HB.out.step hb)
  replace HS := Lib.hid (HS.out.below hb)
  replace HF := Lib.hid (below_step' HF.out hb)
  clear hb
  by_cases he : at'.toList = []
  · have he2 : (at'.toList == []) = true := by rw [he]; rfl
    go_wp2_with fail
    refine (alive_any _).mono ?_
    rintro e w3 ⟨rfl, hb⟩
    replace HF := Lib.hid (below_step' HF.out hb)
    go_wp2_with fail
    go_ret
    exact ⟨rfl, HF.out⟩
  · have he2 : (at'.toList == []) = false := by rw [beq_eq_false_iff_ne]; exact he
    obtain ⟨l1, l2, er, e1, e2, e3, hlen⟩ := all_facts s root at' he
    have hr1 := fun A c w hN => range_any A c root s ⟨#[]⟩ at' w (HOK.out.ok (c := c) hN) hroot
    have hr2 := fun A c w hN => range_any A c root s at' ⟨#[]⟩ w (HOK.out.ok (c := c) hN) hroot
    have hr3 := fun A c w hN => range_any A c root s ⟨#[]⟩ ⟨#[]⟩ w (HOK.out.ok (c := c) hN) hroot
    rw [e1] at hr1
    rw [e2] at hr2
    rw [e3] at hr3
    have HR1 := Lib.hid hr1
    have HR2 := Lib.hid hr2
    have HR3 := Lib.hid hr3
    have HL := Lib.hid hlen
    clear hr1 hr2 hr3 e1 e2 e3 hlen
    have cHB0 := HB.out.c 0 _ rfl; have fHB0 := HB.out.f 0 (by simp); have cHB1 := HB.out.c 1 _ rfl; have fHB1 := HB.out.f 1 (by simp); have lHB := HB.out.lt
    go_wp2_with fail
    clear cHB0 fHB0 cHB1 fHB1 lHB
    refine (of_any NA nc root s w2 HS.out HOK.out).mono ?_
    rintro e w3 ⟨A, c, rfl, _, _, hn, _, hb⟩
    replace HB := Lib.hid (HB.out.step hb)
    replace HS := Lib.hid (HS.out.below hb)
    replace HF := Lib.hid (below_step' HF.out hb)
    have HD := Lib.hid (HR1.out A c w3 hn)
    clear hb hn HR1
    go_wp2_with fail
    refine HD.out.mono ?_
    rintro e w4 ⟨v, rfl, hown, hb⟩
    obtain ⟨A1, c1, rfl, hz1, hq1, _⟩ := own_row hown
    have HQ1 := Lib.hid hq1
    have HZ1 := Lib.hid hz1
    replace HB := Lib.hid (HB.out.step hb)
    replace HS := Lib.hid (HS.out.below hb)
    replace HF := Lib.hid (below_step' HF.out hb)
    clear hb HD hown hq1 hz1
    have cHB0 := HB.out.c 0 _ rfl; have fHB0 := HB.out.f 0 (by simp); have cHB1 := HB.out.c 1 _ rfl; have fHB1 := HB.out.f 1 (by simp); have lHB := HB.out.lt
    go_wp2_with fail
    clear cHB0 fHB0 cHB1 fHB1 lHB
    refine (of_any NA nc root s w4 HS.out HOK.out).mono ?_
    rintro e w5 ⟨A4, c4, rfl, _, _, hn, _, hb⟩
    replace HB := Lib.hid (HB.out.step hb)
    replace HS := Lib.hid (HS.out.below hb)
    replace HF := Lib.hid (below_step' HF.out hb)
    replace HQ1 := Lib.hid (HQ1.out.below hb)
    have HD := Lib.hid (HR2.out A4 c4 w5 hn)
    clear hb hn HR2
    go_wp2_with fail
    refine HD.out.mono ?_
    rintro e w6 ⟨v, rfl, hown, hb⟩
    obtain ⟨A2, c2, rfl, hz2, hq2, _⟩ := own_row hown
    have HQ2 := Lib.hid hq2
    have HZ2 := Lib.hid hz2
    replace HB := Lib.hid (HB.out.step hb)
    replace HS := Lib.hid (HS.out.below hb)
    replace HF := Lib.hid (below_step' HF.out hb)
    replace HQ1 := Lib.hid (HQ1.out.below hb)
    clear hb HD hown hq2 hz2
    have cHB0 := HB.out.c 0 _ rfl; have fHB0 := HB.out.f 0 (by simp); have cHB1 := HB.out.c 1 _ rfl; have fHB1 := HB.out.f 1 (by simp); have lHB := HB.out.lt
    go_wp2_with fail
    clear cHB0 fHB0 cHB1 fHB1 lHB
    refine (of_any NA nc root s w6 HS.out HOK.out).mono ?_
    rintro e w7 ⟨A5, c5, rfl, _, _, hn, _, hb⟩
    replace HF := Lib.hid (below_step' HF.out hb)
    replace HQ1 := Lib.hid (HQ1.out.below hb)
    replace HQ2 := Lib.hid (HQ2.out.below hb)
    have HD := Lib.hid (HR3.out A5 c5 w7 hn)
    clear hb hn HR3 HB HS
    go_wp2_with fail
    refine HD.out.mono ?_
    rintro e w8 ⟨v, rfl, hown, hb⟩
    obtain ⟨A3, c3, rfl, hz3, hq3, hlt3⟩ := own_row hown
    replace HF := Lib.hid (below_step' HF.out hb)
    replace HQ1 := Lib.hid (HQ1.out.below hb)
    replace HQ2 := Lib.hid (HQ2.out.below hb)
    have hlen := HL.out
    have hl12 : (l1 ++ l2).length = l1.length + l2.length := List.length_append
    obtain ⟨v1, w9, r1, o1, g1⟩ := run_append_row (P := Try.prog) (enc := encPr) (w := w8) w8.heap.size 36 36 56 iP (.agg #[.string ⟨#[]⟩, .string ⟨#[]⟩]) 2 32 Try.underlying36 hp0 hp1 hp2 hp3 rfl (by decide) encPr_len encPr_one (.slice none 0 0) 0 [] (World.ownsRow_nil _ _ _ _) A1 l1 c1 HZ1.out HQ1.out (by unfold maxLen; omega) (by omega) (Nat.le_refl _)
    have b9 : Below w8.heap.size w8 w9 := (Below.refl _ _).grown g1 (Nat.le_refl _) (fun k e => by simp [Value.ownBlock] at e)
    rw [Nat.zero_add, List.nil_append] at o1
    obtain ⟨v2, w10, r2, o2, g2⟩ := run_append_row (P := Try.prog) (enc := encPr) (w := w9) w8.heap.size 36 36 56 iP (.agg #[.string ⟨#[]⟩, .string ⟨#[]⟩]) 2 32 Try.underlying36 hp0 hp1 hp2 hp3 rfl (by decide) encPr_len encPr_one v1 l1.length (l1.flatMap encPr) o1 A2 l2 c2 HZ2.out (HQ2.out.below b9) (by unfold maxLen; omega) (by omega) b9.size
    have b10 : Below w8.heap.size w8 w10 := b9.grown g2 b9.size (fun k e => (o1.lt k e).1)
    rw [← List.flatMap_append, ← hl12] at o2
    obtain ⟨A6, c6, rfl, _, hq6, _⟩ := own_row o2
    have hsp := samePairs_same A6 A3 c6 c3 (l1 ++ l2) w10 hq6 (hq3.below b10) (by omega)
    have HSP := Lib.hid hsp
    have HF2 := Lib.hid (below_step' HF.out b10)
    clear hsp hq6 hq3 o2 g2 o1 g1 b9 b10 hl12 hlen hown hb hz3 hlt3 HD HQ1 HQ2 HZ1 HZ2 HL
    generalize (l1 ++ l2).length = n3 at *
    have heq : (er == er) = true := beq_self_eq_true er
    have HR1 := Lib.hid r1
    have HR2 := Lib.hid r2
    clear r1 r2
    go_wp2_with (first | (at_builtin; refine wpList_append_eq _ _ 36 rfl rfl rfl rfl HR1.out ?_) | (at_builtin; refine wpList_append_eq _ _ 36 rfl rfl rfl rfl HR2.out ?_))
    refine HSP.out.mono ?_
    rintro e w11 ⟨rfl, hb⟩
    replace HF2 := Lib.hid (below_step' HF2.out hb)
    go_wp2_with fail
    go_ret
    exact ⟨rfl, HF2.out⟩
end Go.Proofs.Ytkecbghnapjecaa
