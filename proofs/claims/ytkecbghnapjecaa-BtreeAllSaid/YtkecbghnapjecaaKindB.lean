/- A state of the page's tree as an argument. -/
import Derived.Test.YtkecbghnapjecaaKindN
import Derived.Test.YtkecbghnapjecaaOfB
namespace Go.Proofs.Ytkecbghnapjecaa
open Go.RowKit
set_option linter.unusedVariables false
set_option linter.unusedSimpArgs false
def kNd : Kd Nd := (Kd.pair (Kd.nslice Kd.str) (Kd.pair (Kd.nslice Kd.str) (Kd.nslice (Kd.int .i64)))).iso (fun n => (n.keys, n.vals, n.kids))
theorem rowS {w : World} {A : Option Addr} {l : List ByteArray} (h : Kd.str.Row w A l) : RowE encS 1 w A l := RowE.of (d := Kd.str) (enc := encS) (by decide) (fun _ _ _ h => h) h
theorem rowI {w : World} {A : Option Addr} {l : List Int} (h : (Kd.int .i64).Row w A l) : RowE encI 1 w A l := RowE.of (d := Kd.int .i64) (enc := encI) (by decide) (fun _ _ _ h => h) h
theorem kNd_open {w : World} {y : Nd} {cs : List Value} (h : kNd.K w y cs) : NdAt w cs y := by
  obtain ⟨_, _, rfl, ⟨KA, kc, rfl, h1, h2, h3⟩, _, _, rfl, ⟨VA, vc, rfl, h4, h5, h6⟩, IA, ic, rfl, h7, h8, h9⟩ := h
  exact ⟨KA, kc, VA, vc, IA, ic, rfl, rowS h2, rowS h5, rowI h8, h3, h6, h9, h1, h4, h7⟩
def OkNd (n : Nd) : Prop := (n.keys.length * 16 ≤ 140737488351232 ∧ ∀ x ∈ n.keys, x.size ≤ 140737488351232) ∧ (n.vals.length * 16 ≤ 140737488351232 ∧ ∀ x ∈ n.vals, x.size ≤ 140737488351232) ∧ (n.kids.length * 8 ≤ 140737488351232 ∧ ∀ x ∈ n.kids, (Lit.int .i64 x).wf = true)
theorem opens_kNd : Opens Try.prog 65 kNd OkNd :=
  opens_iso (opens_struct Try.underlying65 (by kernel_rfl)
    (opensF_cons rfl (by kernel_rfl) (opens_nslice Try.underlying57 (by kernel_rfl) (by kernel_rfl) (opens_str Try.underlying9))
      (opensF_cons rfl (by kernel_rfl) (opens_nslice Try.underlying57 (by kernel_rfl) (by kernel_rfl) (opens_str Try.underlying9))
        (opensF_one rfl (by kernel_rfl) (opens_nslice Try.underlying63 (by kernel_rfl) (by kernel_rfl) (opens_int Try.underlying3))))))
    _ (fun y => ⟨y.1, y.2.1, y.2.2⟩) (fun _ => rfl) _ (fun _ h => h)
def kSt : Kd (List Nd × Int) := Kd.pair (Kd.nslice kNd) (Kd.int .i64)
theorem opens_kSt : Opens Try.prog 24 kSt (fun y => (y.1.length * 72 ≤ 140737488351232 ∧ ∀ x ∈ y.1, OkNd x) ∧ (Lit.int .i64 y.2).wf = true) :=
  opens_struct Try.underlying24 (by kernel_rfl)
    (opensF_cons rfl (by kernel_rfl) (opens_nslice Try.underlying22 (by kernel_rfl) (by kernel_rfl) opens_kNd)
      (opensF_one rfl (by kernel_rfl) (opens_int Try.underlying3)))
theorem rowN {w : World} {A : Option Addr} {s : List Nd} (h : kNd.Row w A s) : NodesAt w A s := fun i n hi => by
  obtain ⟨n0, hn0⟩ : ∃ n0, s[0]? = some n0 := ⟨_, List.getElem?_eq_getElem (by have := (List.getElem?_eq_some_iff.1 hi).1; omega)⟩
  obtain ⟨ad, cs, rfl, hK, hc⟩ := h 0 n0 hn0
  obtain ⟨KA, kc, _, _, _, _, rfl, _⟩ := kNd_open hK
  have c0 := hc 0 _ rfl
  have e0 : ad.add (0 * kNd.sz + 0) = ad := by simp [Addr.add]
  rw [e0] at c0
  have hsp : ad.spot = none := by
    unfold World.cell? at c0
    split at c0
    · split at c0
      · cases c0
      · rename_i q; simpa using q
    · cases c0
  obtain ⟨b, off, sp⟩ := ad
  obtain rfl : sp = none := hsp
  obtain ⟨ad', cs', e1, hK', hc'⟩ := h i n hi
  obtain rfl := Option.some.inj e1
  refine ⟨b, off, cs', rfl, World.block_lt_of_cell? _ _ c0, kNd_open hK', fun j v hj => ?_⟩
  have c1 := hc' j v hj
  rw [Addr.add_lit] at c1
  have e : off + i * 3 + j = off + (i * kNd.sz + j) := by show off + i * 3 + j = off + (i * 3 + j); omega
  rw [e]; exact c1
theorem wf_inR {n : Int} (h : (Lit.int .i64 n).wf = true) : InR n := by
  simp [Lit.wf, IntKind.min, IntKind.max, IntKind.signed, IntKind.bits] at h; exact ⟨by omega, by omega⟩
theorem kSt_open {w : World} {y : List Nd × Int} {cs : List Value} (h : kSt.K w y cs) : ∃ A c, cs = [.slice A y.1.length c, .int .i64 y.2] ∧ NodesAt w A y.1 ∧ y.1.length ≤ c ∧ (A = none → c = 0) := by
  obtain ⟨_, _, rfl, ⟨A, c, rfl, h1, h2, h3⟩, rfl⟩ := h
  exact ⟨A, c, rfl, rowN h2, h1, h3⟩
theorem st_ok {y : List Nd × Int} (h : (y.1.length * 72 ≤ 140737488351232 ∧ ∀ x ∈ y.1, OkNd x) ∧ (Lit.int .i64 y.2).wf = true) : StOk y.1 ∧ InR y.2 :=
  ⟨⟨h.1.1, fun n hn => by
    obtain ⟨⟨h1, _⟩, ⟨h2, _⟩, h3, h4⟩ := h.1.2 n hn
    exact ⟨h1, h2, h3, fun x hx => wf_inR (h4 x hx)⟩⟩, wf_inR h.2⟩
end Go.Proofs.Ytkecbghnapjecaa
