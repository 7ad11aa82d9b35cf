/- Kinds: how a plain value lies in cells; that whatever a statement's arguments read as is of its kind (with the bounds that come of its size). -/
import Derived.Test.YtkecbghnapjecaaBase
import Derived.ProofKit
import Derived.SizedLaws
import Derived.ChangeOld
import Derived.Deep.Slices
namespace Go.Proofs.Ytkecbghnapjecaa
open Go.RowKit
set_option linter.unusedVariables false
set_option linter.unusedSimpArgs false
/-- How values of a type lie in cells: how many, and which. -/
structure Kd (α : Type) where
  sz : Nat
  K : World → α → List Value → Prop
  len : ∀ {w : World} {x : α} {cs : List Value}, K w x cs → cs.length = sz
  below : ∀ {w w1 : World} {x : α} {cs : List Value}, Below w.heap.size w w1 → K w x cs → K w1 x cs
namespace Kd
def int (k : IntKind) : Kd Int := ⟨1, fun _ x cs => cs = [.int k x], fun h => by rw [h]; rfl, fun _ h => h⟩
def bool : Kd Bool := ⟨1, fun _ x cs => cs = [.bool x], fun h => by rw [h]; rfl, fun _ h => h⟩
def str : Kd ByteArray := ⟨1, fun _ x cs => cs = [.string x], fun h => by rw [h]; rfl, fun _ h => h⟩
def pair {α β : Type} (a : Kd α) (b : Kd β) : Kd (α × β) where
  sz := a.sz + b.sz
  K := fun w x cs => ∃ c0 c1, cs = c0 ++ c1 ∧ a.K w x.1 c0 ∧ b.K w x.2 c1
  len := by
    rintro w x cs ⟨c0, c1, rfl, h0, h1⟩
    rw [List.length_append, a.len h0, b.len h1]
  below := by
    rintro w w1 x cs hb ⟨c0, c1, rfl, h0, h1⟩
    exact ⟨c0, c1, rfl, a.below hb h0, b.below hb h1⟩
def iso {α β : Type} (d : Kd β) (f : α → β) : Kd α := ⟨d.sz, fun w x cs => d.K w (f x) cs, fun h => d.len h, fun hb h => d.below hb h⟩
/-- A row of elements from an address on. -/
def Row {α : Type} (d : Kd α) (w : World) (A : Option Addr) (l : List α) : Prop :=
  ∀ (i : Nat) (x : α), l[i]? = some x → ∃ ad cs, A = some ad ∧ d.K w x cs ∧ ∀ (j : Nat) (v : Value), cs[j]? = some v → w.cell? (ad.add (i * d.sz + j)) = some v
theorem Row.below {α : Type} {d : Kd α} {w w1 : World} {A : Option Addr} {l : List α} (h : d.Row w A l) (hb : Below w.heap.size w w1) : d.Row w1 A l := fun i x hi => by
  obtain ⟨ad, cs, hA, hK, hc⟩ := h i x hi
  exact ⟨ad, cs, hA, d.below hb hK, fun j v hj => (hb.cell (World.block_lt_of_cell? _ _ (hc j v hj))).trans (hc j v hj)⟩
theorem Row.nil {α : Type} {d : Kd α} {w : World} {A : Option Addr} : d.Row w A [] := fun i x h => by simp at h
def slice {α : Type} (d : Kd α) : Kd (List α) where
  sz := 1
  K := fun w l cs => ∃ A c, cs = [.slice A l.length c] ∧ l.length ≤ c ∧ d.Row w A l
  len := by
    rintro w x cs ⟨A, c, rfl, _⟩
    rfl
  below := by
    rintro w w1 x cs hb ⟨A, c, rfl, h0, h1⟩
    exact ⟨A, c, rfl, h0, h1.below hb⟩
end Kd
/-- Whatever reads as data of type t is of kind d, and is ok. -/
def Opens (P : Program) (t : TypeId) {α : Type} (d : Kd α) (ok : α → Prop) : Prop :=
  ∀ {H : Type} {enc : TypeId × Value → H} {w : World} {base : Nat} {spare : Nat → Bool} {held : Bool} {fuel : Nat} {cs : List Value} {x : DataW H × List MemPlace},
    DataW.trod enc P w base spare held fuel t cs = some x → (∀ n ∈ x.1.weights P t, n ≤ reachBytes) → ∃ y, d.K w y cs ∧ ok y
section
variable {P : Program} {t : TypeId}
theorem opens_int {k : IntKind} (ht : P.underlying t = some (.int k)) : Opens P t (Kd.int k) (fun n => (Lit.int k n).wf = true) := fun h _ => by
  obtain ⟨n, rfl, _, hw⟩ := DataW.trod_int ht h
  exact ⟨n, rfl, hw⟩
theorem opens_bool (ht : P.underlying t = some .bool) : Opens P t Kd.bool (fun _ => True) := fun h _ => by
  obtain ⟨b, rfl, _⟩ := DataW.trod_bool ht h
  exact ⟨b, rfl, trivial⟩
theorem opens_str (ht : P.underlying t = some .string) : Opens P t Kd.str (fun s => s.size ≤ 140737488351232) := fun h hw => by
  obtain ⟨s, rfl, rfl, _⟩ := DataW.trod_string ht h
  refine ⟨s, rfl, ?_⟩
  have := hw s.data.toList.length (by simp [DataW.weights])
  have e : s.data.toList.length = s.size := by rw [Array.length_toList]; rfl
  rw [e] at this
  exact this
theorem opens_iso {α β : Type} {d : Kd β} {ok : β → Prop} (h : Opens P t d ok) (f : α → β) (g : β → α) (hfg : ∀ y, f (g y) = y) (ok' : α → Prop) (hok : ∀ y, ok y → ok' (g y)) : Opens P t (d.iso f) ok' := fun hx hw => by
  obtain ⟨y, hK, ho⟩ := h hx hw
  exact ⟨g y, by show d.K _ (f (g y)) _; rw [hfg]; exact hK, hok y ho⟩
/-- A struct's fields from an offset on. -/
def OpensF (P : Program) (fs : List Field) (off : Nat) {α : Type} (d : Kd α) (ok : α → Prop) : Prop :=
  ∀ {H : Type} {enc : TypeId × Value → H} {w : World} {base : Nat} {spare : Nat → Bool} {held : Bool} {n : Nat} {cs : List Value} {xs : List (DataW H × List MemPlace)},
    (∀ (i : Nat) (f : Field), fs[i]? = some f → DataW.trod enc P w base spare held n f.type ((cs.drop f.offset).take (P.cellsOf f.type)) = xs[i]?) → xs.length = fs.length →
    (∀ m ∈ DataW.weightsEach P (fs.map (·.type)) (xs.map (·.1)), m ≤ reachBytes) → ∃ y, d.K w y ((cs.drop off).take d.sz) ∧ ok y
theorem opensF_one {f : Field} {off : Nat} {α : Type} {d : Kd α} {ok : α → Prop} (hf : f.offset = off) (hc : P.cellsOf f.type = d.sz) (h : Opens P f.type d ok) : OpensF P [f] off d ok := fun {H enc w base spare held n cs xs} hx hl hw => by
  match xs, hl with
  | [x], _ =>
    have h0 := hx 0 f rfl
    rw [hf, hc] at h0
    exact h h0 (fun m hm => hw m (by simp [DataW.weightsEach, hm]))
theorem opensF_cons {f : Field} {fs : List Field} {off : Nat} {α β : Type} {d : Kd α} {e : Kd β} {ok : α → Prop} {ok' : β → Prop} (hf : f.offset = off) (hc : P.cellsOf f.type = d.sz) (h : Opens P f.type d ok) (h' : OpensF P fs (off + d.sz) e ok') :
    OpensF P (f :: fs) off (Kd.pair d e) (fun y => ok y.1 ∧ ok' y.2) := fun {H enc w base spare held n cs xs} hx hl hw => by
  match xs, hl with
  | x :: xs, hl =>
    have h0 := hx 0 f rfl
    rw [hf, hc] at h0
    obtain ⟨y, hy, oy⟩ := h h0 (fun m hm => hw m (by simp [DataW.weightsEach, hm]))
    obtain ⟨z, hz, oz⟩ := h' (cs := cs) (xs := xs) (fun i f hi => hx (i + 1) f (by simpa using hi)) (by simpa using hl) (fun m hm => hw m (by simp [DataW.weightsEach]; right; simpa using hm))
    refine ⟨(y, z), ⟨_, _, ?_, hy, hz⟩, oy, oz⟩
    show (cs.drop off).take (d.sz + e.sz) = _
    rw [List.take_add, List.drop_drop]
theorem opens_struct {fs : Array Field} {α : Type} {d : Kd α} {ok : α → Prop} (ht : P.underlying t = some (.struct fs)) (hc : P.cellsOf t = d.sz) (h : OpensF P fs.toList 0 d ok) : Opens P t d ok := fun {H enc w base spare held fuel cs x} hx hw => by
  obtain ⟨xs, n, _, rfl, hl, hn, hf⟩ := DataW.trod_struct ht hx
  obtain ⟨y, hy, oy⟩ := h (cs := cs) (xs := xs) (fun i f hi => hf i f (by simpa using hi)) (by simpa using hn) (fun m hm => hw m (by simpa [DataW.weights, ht] using hm))
  refine ⟨y, ?_, oy⟩
  rw [List.drop_zero, List.take_of_length_le (by omega)] at hy
  exact hy
theorem list_of {α : Type} {p : Nat → α → Prop} : ∀ n, (∀ i, i < n → ∃ x, p i x) → ∃ l : List α, l.length = n ∧ ∀ i x, l[i]? = some x → p i x
  | 0, _ => ⟨[], rfl, fun i x h => by simp at h⟩
  | n + 1, h => by
    obtain ⟨l, hl, hp⟩ := list_of n (fun i hi => h i (by omega))
    obtain ⟨x, hx⟩ := h n (by omega)
    refine ⟨l ++ [x], by simp [hl], fun i y hi => ?_⟩
    by_cases hlt : i < l.length
    · rw [List.getElem?_append_left hlt] at hi; exact hp i y hi
    · rw [List.getElem?_append_right (by omega)] at hi
      have : i - l.length = 0 := by
        apply Decidable.byContradiction; intro k
        rw [List.getElem?_eq_none (by simp; omega)] at hi; cases hi
      rw [this] at hi
      obtain rfl : x = y := by simpa using hi
      obtain rfl : i = n := by omega
      exact hx
theorem mem_weightsAll {H : Type} {e : TypeId} {d : DataW H} : ∀ {l : List (DataW H)}, d ∈ l → ∀ n ∈ d.weights P e, n ∈ DataW.weightsAll P e l
  | x :: l, h, n, hn => by
    rw [DataW.weightsAll]
    rcases List.mem_cons.1 h with rfl | h
    · exact List.mem_append_left _ hn
    · exact List.mem_append_right _ (mem_weightsAll h n hn)
theorem opens_slice {e : TypeId} {α : Type} {d : Kd α} {ok : α → Prop} {B : Nat} (ht : P.underlying t = some (.slice e)) (hc : P.cellsOf e = d.sz) (hB : P.bytesOf e = B) (h : Opens P e d ok) :
    Opens P t d.slice (fun l => l.length * B ≤ 140737488351232 ∧ ∀ x ∈ l, ok x) := fun {H enc w base spare held fuel cs x} hx hw => by
  rcases DataW.trod_slice ht hx with ⟨rfl, rfl⟩ | ⟨a, len, cap, elems, rest, n, _, rfl, rfl, _, hle, _, hl, hel, _, _⟩
  · exact ⟨[], ⟨none, 0, rfl, Nat.le_refl _, Kd.Row.nil⟩, by simp, by simp⟩
  · have hwt : ∀ m ∈ DataW.weightsAll P e (elems.map (·.1)), m ≤ reachBytes := fun m hm => hw m (by simp [DataW.weights, ht]; right; left; simpa using hm)
    obtain ⟨l, hll, hp⟩ := list_of (p := fun i y => (∃ cs', w.cells? base (a.add (i * P.cellsOf e)) (P.cellsOf e) = some cs' ∧ d.K w y cs') ∧ ok y) len (fun i hi => by
      have h1 := hel i hi
      rw [List.getElem?_eq_getElem (by omega)] at h1
      obtain ⟨cs', h2, h3⟩ := Option.bind_eq_some_iff.1 h1
      obtain ⟨y, hy, oy⟩ := h h3 (fun m hm => hwt m (mem_weightsAll (List.mem_map.2 ⟨_, List.getElem_mem _, rfl⟩) m hm))
      exact ⟨y, ⟨cs', h2, hy⟩, oy⟩)
    have h47 : (elems.length + rest.length) * P.bytesOf e ≤ reachBytes := hw _ (by simp [DataW.weights, ht])
    refine ⟨l, ⟨some a, cap, by rw [hll], by omega, fun i x hi => ?_⟩, ?_, fun x hx => ?_⟩
    · obtain ⟨⟨cs', h2, hK⟩, _⟩ := hp i x hi
      obtain ⟨_, hlen, hcell⟩ := World.cells?_some h2
      refine ⟨a, cs', rfl, hK, fun j v hj => ?_⟩
      have hjl : j < P.cellsOf e := by
        rw [← hlen]
        apply Decidable.byContradiction; intro k
        rw [List.getElem?_eq_none (by omega)] at hj; cases hj
      rw [← Go.Deep.add_add, ← hc, hcell j hjl, hj]
    · rw [hll, ← hl, ← hB]
      exact Nat.le_trans (Nat.mul_le_mul_right _ (Nat.le_add_right _ _)) h47
    · obtain ⟨i, hi⟩ := List.mem_iff_getElem?.1 hx
      exact (hp i x hi).2
/-- An argument: what it holds. -/
theorem open_arg {H : Type} {enc : TypeId × Value → H} {w : World} {base : Nat} {spare : Nat → Bool} {held : Bool} {v : Value} {dat : DataW H} {ps : List MemPlace} {α : Type} {d : Kd α} {ok : α → Prop} {ts : List TypeId} {ds : List (DataW H)} {j : Nat}
    (hO : Opens P t d ok) (h : DataW.Trod enc P w base spare held t v dat ps) (hsz : (DataW.weightsEach P ts ds).all (· ≤ reachBytes) = true) (hj : ts[j]? = some t) (hd : ds[j]? = some dat) : ∃ y, d.K w y v.cells.toList ∧ ok y := by
  obtain ⟨fuel, hf⟩ := h
  exact hO hf (fun n hn => by have := List.all_eq_true.1 hsz n (DataW.weights_mem_each hj hd n hn); simpa using this)
end
end Go.Proofs.Ytkecbghnapjecaa
