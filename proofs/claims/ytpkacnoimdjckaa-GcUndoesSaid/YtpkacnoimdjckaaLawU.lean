/- Chains, in plain Lean: what is put and undone. -/
import Derived.Test.YtpkacnoimdjckaaLawG
import Derived.Test.YtpkacnoimdjckaaPutW
namespace Go.Proofs.Ytpkacnoimdjckaa
open Go.RowKit
set_option linter.unusedVariables false
set_option linter.unusedSimpArgs false
theorem lt_total {a b : ByteArray} (h : lt? a b = false) (hn : a.toList ≠ b.toList) : lt? b a = true := by
  have e := less_total a.toList b.toList
  have h' : Op.bytesLess a.toList b.toList = false := h
  have hb : (a.toList == b.toList) = false := by simpa using hn
  rw [h', hb] at e
  exact e.symm
theorem place_le : ∀ (ks : List ByteArray) (t : ByteArray), place ks t ≤ ks.length
  | [], _ => Nat.zero_le _
  | k :: ks, t => by
    have := place_le ks t
    unfold place; split <;> simp <;> omega
theorem putV_succ {α : Type} (a : α) (l : List α) (i : Nat) (x : α) : putV (a :: l) (i + 1) x = a :: putV l i x := by simp [putV]
theorem putV_zero {α : Type} (l : List α) (x : α) : putV l 0 x = x :: l := by simp [putV]
theorem chkC_ins {key : ByteArray} {W : List Ver} (hW : W ≠ [] ∧ chk W = 0) : ∀ (ks : List ByteArray) (ls : List (List Ver)) (p : Option ByteArray), ks.length = ls.length → chkCFrom p ks ls = true → after? p key = true → atK ks key = false →
    chkCFrom p (putV ks (place ks key) key) (putV ls (place ks key) W) = true
  | [], [], p, _, _, ha, _ => by
    have hq : W.isEmpty = false := by cases hh : W with | nil => exact absurd hh hW.1 | cons a b => rfl
    show chkCFrom p [key] [W] = true
    rw [chkC_cons]
    simp [ha, hq, hW.2, chkCFrom]
  | [], _ :: _, p, h, _, _, _ => by simp at h
  | _ :: _, [], p, h, _, _, _ => by simp at h
  | k :: ks, l :: ls, p, h, hc, ha, hat => by
    have hq : W.isEmpty = false := by cases hh : W with | nil => exact absurd hh hW.1 | cons a b => rfl
    rw [chkC_cons] at hc
    simp only [Bool.and_eq_true] at hc
    obtain ⟨⟨⟨h1, h2⟩, h3⟩, h4⟩ := hc
    by_cases q : lt? k key = true
    · have e : place (k :: ks) key = place ks key + 1 := by simp [place, q]
      have e2 : atK ks key = false := by
        unfold atK at hat ⊢
        rw [e] at hat; simpa using hat
      rw [e, putV_succ, putV_succ, chkC_cons, chkC_ins hW ks ls (some k) (by simpa using h) h4 q e2]
      simp [h1, h3]; simpa using h2
    · have q' : lt? k key = false := by simpa using q
      have e : place (k :: ks) key = 0 := by simp [place, q']
      have hne : k.toList ≠ key.toList := by
        unfold atK at hat
        rw [e] at hat; simpa using hat
      have hl := lt_total q' hne
      rw [e, putV_zero, putV_zero, chkC_cons, chkC_cons]
      have hl' : after? (some key) k = true := hl
      simp [ha, hq, hW.2, hl', h3, h4]; simpa using h2
theorem chkC_set {W : List Ver} (hW : W ≠ [] ∧ chk W = 0) : ∀ (ks : List ByteArray) (ls : List (List Ver)) (p : Option ByteArray) (i : Nat), chkCFrom p ks ls = true → chkCFrom p ks (ls.set i W) = true
  | [], ls, p, i, _ => by unfold chkCFrom; rfl
  | _ :: _, [], p, i, _ => by simp [chkCFrom]
  | k :: ks, l :: ls, p, 0, hc => by
    have hq : W.isEmpty = false := by cases hh : W with | nil => exact absurd hh hW.1 | cons a b => rfl
    rw [chkC_cons] at hc
    simp only [Bool.and_eq_true] at hc
    rw [List.set_cons_zero, chkC_cons]
    simp [hc.1.1.1, hq, hW.2, hc.2]
  | k :: ks, l :: ls, p, i + 1, hc => by
    rw [chkC_cons] at hc
    simp only [Bool.and_eq_true] at hc
    rw [List.set_cons_succ, chkC_cons, chkC_set hW ks ls (some k) i hc.2]
    simp only [Bool.and_eq_true]
    exact ⟨hc.1, trivial⟩
theorem split_at {α : Type} {l : List α} {i : Nat} {x : α} (h : l[i]? = some x) : l = l.take i ++ x :: l.drop (i + 1) := by
  have hi := lt_of_get h
  have e := (List.take_append_drop i l).symm
  have : l.drop i = x :: l.drop (i + 1) := by
    rw [List.drop_eq_getElem_cons hi]
    congr 1
    rw [List.getElem?_eq_getElem hi] at h
    exact Option.some.inj h
  rw [this] at e; exact e
theorem set_split {α : Type} {l : List α} {i : Nat} (h : i < l.length) (u : α) : l.set i u = l.take i ++ u :: l.drop (i + 1) := by
  rw [List.set_eq_take_append_cons_drop, if_pos h]
theorem turn_mid {T : List Ver → List Ver × Int} {ka kb : List ByteArray} {la lb : List (List Ver)} {k : ByteArray} {W old : List Ver} (h1 : ka.length = la.length) (h2 : kb.length = lb.length) (ha : ∀ l ∈ la, (T l).1 = l ∧ l ≠ []) (hb : ∀ l ∈ lb, (T l).1 = l ∧ l ≠ []) (hW : (T W).1 = old) :
    ((ka ++ k :: kb).zip (la ++ W :: lb)).flatMap (keyT T) = ka ++ ((if old = [] then [] else [k]) ++ kb) ∧ ((ka ++ k :: kb).zip (la ++ W :: lb)).flatMap (lstT T) = la ++ ((if old = [] then [] else [old]) ++ lb) := by
  rw [List.zip_append h1, List.zip_cons_cons, List.flatMap_append, List.flatMap_append, List.flatMap_cons, List.flatMap_cons]
  obtain ⟨a1, a2, _⟩ := same_turn (T := T) h1 ha
  obtain ⟨b1, b2, _⟩ := same_turn (T := T) h2 hb
  rw [a1, a2, b1, b2]
  unfold keyT lstT
  simp only [hW]
  exact ⟨trivial, trivial⟩
theorem tell_new {fr tt : ByteArray} {snap T tx : Int} {gone : Bool} {val : ByteArray} {k : ByteArray} {old : List Ver} (hT : tx ≠ T) (hc : chk old = 0) (hW : chk (⟨0, tx, gone, val⟩ :: old) = 0) : tellP fr tt snap T (k, ⟨0, tx, gone, val⟩ :: old) = tellP fr tt snap T (k, old) := by
  rw [tellP_see hW, tellP_see hc, see_cons]
  have : sees snap T ⟨0, tx, gone, val⟩ = false := by simp [sees, hT]
  rw [this]; rfl
/-- What a put makes, where nothing of one's own was there. -/
theorem put_new {ks : List ByteArray} {ls : List (List Ver)} {key : ByteArray} {snap tx : Int} {gone : Bool} {val : ByteArray} (hn : ∀ l ∈ ls, openB tx l = false) (hp : (putR ks ls key snap tx gone val).2.2 = 0) :
    chkC ks ls = 0 ∧ 1 ≤ tx ∧ tx ≤ 1099511627776 ∧ ∃ (ka kb : List ByteArray) (la lb : List (List Ver)) (k : ByteArray) (old : List Ver), ka.length = la.length ∧ kb.length = lb.length ∧ chk old = 0 ∧ chk (⟨0, tx, gone, val⟩ :: old) = 0 ∧
      ks = ka ++ ((if old = [] then [] else [k]) ++ kb) ∧ ls = la ++ ((if old = [] then [] else [old]) ++ lb) ∧ (putR ks ls key snap tx gone val).1 = ka ++ k :: kb ∧ (putR ks ls key snap tx gone val).2.1 = la ++ (⟨0, tx, gone, val⟩ :: old) :: lb ∧ chkC (ka ++ k :: kb) (la ++ (⟨0, tx, gone, val⟩ :: old) :: lb) = 0 := by
  unfold putR at hp ⊢
  by_cases hc : chkC ks ls ≠ 0
  · rw [if_pos hc] at hp; exact absurd hp hc
  · rw [if_neg hc] at hp ⊢
    have hc0 : chkC ks ls = 0 := by simpa using hc
    refine ⟨hc0, ?_⟩
    by_cases hb : (1024 : Int) < key.size
    · rw [if_pos hb] at hp; cases hp
    · rw [if_neg hb] at hp ⊢
      by_cases hw : (write snap tx gone val (oldP ks ls key)).2 ≠ 0
      · rw [if_pos hw] at hp; exact absurd hp hw
      · rw [if_neg hw] at hp ⊢
        obtain ⟨hlen, hle, hri, hls⟩ := chkC_ok hc0
        have hw0 : (write snap tx gone val (oldP ks ls key)).2 = 0 := by simpa using hw
        obtain ⟨k0, k1, ⟨m, hm, hmm, hmo, _⟩, t1, t2, _⟩ := write_ok hw0
        have hol : openB tx (oldP ks ls key) = false := by
          unfold oldP
          by_cases hat : atK ks key = true
          · rw [if_pos hat]
            cases hq : ls[place ks key]? with
            | none => rfl
            | some l => exact hn l (List.mem_of_getElem? hq)
          · rw [if_neg hat]; rfl
        have hown : ownHead (oldP ks ls key) = false := by
          rcases hmo with h | h
          · cases ho : oldP ks ls key with
            | nil => rfl
            | cons v k => have := h v k ho; simpa [ownHead] using this
          · rw [hol] at h; cases h
        rw [hown] at hmm
        simp only [Bool.false_eq_true, if_false] at hmm
        subst hmm
        refine ⟨t1, t2, ?_⟩
        rw [hm] at k1
        by_cases hat : atK ks key = true
        · rw [if_pos hat]
          obtain ⟨y, hy⟩ : ∃ y, ks[place ks key]? = some y := by
            unfold atK at hat
            cases hq : ks[place ks key]? with
            | none => rw [hq] at hat; cases hat
            | some y => exact ⟨y, rfl⟩
          have hi := lt_of_get hy
          obtain ⟨l, hl⟩ : ∃ l, ls[place ks key]? = some l := ⟨_, List.getElem?_eq_getElem (by omega)⟩
          have ho : oldP ks ls key = l := by unfold oldP; rw [if_pos hat, hl]; rfl
          have hl0 := (hls l (List.mem_of_getElem? hl)).1
          refine ⟨ks.take (place ks key), ks.drop (place ks key + 1), ls.take (place ks key), ls.drop (place ks key + 1), y, oldP ks ls key, by rw [List.length_take, List.length_take]; omega, by rw [List.length_drop, List.length_drop]; omega, k0, k1, ?_, ?_, ?_, ?_, ?_⟩
          · rw [ho, if_neg hl0]; exact split_at hy
          · rw [ho, if_neg hl0]; exact split_at hl
          · exact split_at hy
          · show ls.set _ _ = _
            rw [set_split (by omega), hm]
          · rw [← split_at hy, ← set_split (by omega : place ks key < ls.length)]
            exact chkC_mk (by rw [List.length_set]; exact hlen) hle (chkC_set ⟨by simp, k1⟩ ks ls none _ (chkC_from hc0))
        · rw [if_neg hat] at hp ⊢
          by_cases hf : ks.length = 2048
          · rw [if_pos hf] at hp; cases hp
          · rw [if_neg hf]
            have ho : oldP ks ls key = [] := by unfold oldP; rw [if_neg hat]
            have hpl := place_le ks key
            have hat' : atK ks key = false := by simpa using hat
            refine ⟨ks.take (place ks key), ks.drop (place ks key), ls.take (place ks key), ls.drop (place ks key), key, oldP ks ls key, by rw [List.length_take, List.length_take]; omega, by rw [List.length_drop, List.length_drop]; omega, k0, k1, ?_, ?_, rfl, ?_, ?_⟩
            · rw [ho, if_pos rfl]; exact (List.take_append_drop _ _).symm
            · rw [ho, if_pos rfl]; exact (List.take_append_drop _ _).symm
            · show putV _ _ _ = _
              rw [hm]; rfl
            · have hi := chkC_ins (key := key) (W := ⟨0, tx, gone, val⟩ :: oldP ks ls key) ⟨by simp, k1⟩ ks ls none hlen (chkC_from hc0) rfl hat'
              refine chkC_mk ?_ ?_ hi
              · rw [List.length_append, List.length_append, List.length_cons, List.length_cons, List.length_take, List.length_take, List.length_drop, List.length_drop]; omega
              · rw [List.length_append, List.length_cons, List.length_take, List.length_drop]; omega
/-- .. undone. -/
theorem put_undone {ks : List ByteArray} {ls : List (List Ver)} {key : ByteArray} {snap tx : Int} {gone : Bool} {val : ByteArray} (hn : ∀ l ∈ ls, openB tx l = false) (hp : (putR ks ls key snap tx gone val).2.2 = 0) :
    chkC (putR ks ls key snap tx gone val).1 (putR ks ls key snap tx gone val).2.1 = 0 ∧ (chgR (undoT tx) (putR ks ls key snap tx gone val).1 (putR ks ls key snap tx gone val).2.1).1 = ks ∧ (chgR (undoT tx) (putR ks ls key snap tx gone val).1 (putR ks ls key snap tx gone val).2.1).2.1 = ls ∧ (chgR (undoT tx) (putR ks ls key snap tx gone val).1 (putR ks ls key snap tx gone val).2.1).2.2.2 = 0 := by
  obtain ⟨hc, _, _, ka, kb, la, lb, k, old, h1, h2, h3, h4, h5, h6, h7, h8, h9⟩ := put_new hn hp
  rw [h7, h8]
  refine ⟨h9, ?_⟩
  have hls := (chkC_ok h9).2.2.2
  have he : errZ (undoT tx) (la ++ (⟨0, tx, gone, val⟩ :: old) :: lb) = 0 := errZ_nil (fun l hl => (hls l hl).2)
  have hsame : ∀ l ∈ ls, l ∈ la ++ (⟨0, tx, gone, val⟩ :: old) :: lb → (undoT tx l).1 = l ∧ l ≠ [] := fun l hl hl2 => by
    refine ⟨?_, (hls l hl2).1⟩
    show undo tx l = l
    unfold undo
    rw [if_pos (hls l hl2).2, if_neg (by rw [hn l hl]; simp)]
  have hW : (undoT tx (⟨0, tx, gone, val⟩ :: old)).1 = old := by
    show undo tx _ = _
    unfold undo
    rw [if_pos h4, if_pos (by simp [openB])]
    rfl
  obtain ⟨e1, e2⟩ := turn_mid (T := undoT tx) (k := k) h1 h2 (fun l hl => hsame l (by rw [h6]; simp [hl]) (by simp [hl])) (fun l hl => hsame l (by rw [h6]; simp [hl]) (by simp [hl])) hW
  unfold chgR
  rw [if_neg (by simp [h9]), if_neg (by simp [he])]
  exact ⟨e1.trans h5.symm, e2.trans h6.symm, rfl⟩
/-- .. who reads otherwise sees none of it. -/
theorem put_unseen {ks : List ByteArray} {ls : List (List Ver)} {key : ByteArray} {snap tx T : Int} {gone : Bool} {val : ByteArray} (hn : ∀ l ∈ ls, openB tx l = false) (hp : (putR ks ls key snap tx gone val).2.2 = 0) (hT : 1099511627776 < T) (fr tt : ByteArray) (sn : Int) :
    rangeR (putR ks ls key snap tx gone val).1 (putR ks ls key snap tx gone val).2.1 fr tt sn T = rangeR ks ls fr tt sn T := by
  obtain ⟨hc, _, htx, ka, kb, la, lb, k, old, h1, h2, h3, h4, h5, h6, h7, h8, h9⟩ := put_new hn hp
  rw [h7, h8]
  unfold rangeR
  rw [if_neg (by simp [h9]), if_neg (by simp [hc])]
  unfold rangeL
  rw [List.zip_append h1, List.zip_cons_cons, List.flatMap_append, List.flatMap_cons, tell_new (by omega) h3 h4]
  by_cases ho : old = []
  · rw [if_pos ho] at h5 h6
    rw [h5, h6, List.nil_append, List.nil_append, List.zip_append h1, List.flatMap_append, ho, tellP_see (by rw [← ho]; exact h3)]
    simp [see]
  · rw [if_neg ho] at h5 h6
    rw [h5, h6, List.zip_append h1, List.singleton_append, List.singleton_append, List.zip_cons_cons, List.flatMap_append, List.flatMap_cons]
theorem put_bad {ks : List ByteArray} {ls : List (List Ver)} {key : ByteArray} {snap tx : Int} {gone : Bool} {val : ByteArray} (hp : (putR ks ls key snap tx gone val).2.2 ≠ 0) : (putR ks ls key snap tx gone val).1 = [] := by
  unfold putR at hp ⊢
  (repeat' split) <;> simp_all
end Go.Proofs.Ytpkacnoimdjckaa
