/- The page's chains as an argument. -/
import Derived.Test.YtpkacnoimdjckaaProg
import Derived.Test.YtpkacnoimdjckaaKindN
import Derived.Test.YtpkacnoimdjckaaChn
import Derived.Test.YtpkacnoimdjckaaLines
namespace Go.Proofs.Ytpkacnoimdjckaa
open Go.RowKit
set_option linter.unusedVariables false
set_option linter.unusedSimpArgs false
def kRef : Kd Ver := (Kd.pair (Kd.int .i64) (Kd.pair (Kd.int .i64) (Kd.pair Kd.bool Kd.str))).iso (fun v => (v.st, v.tx, v.gone, v.val))
theorem kRef_open {w : World} {y : Ver} {cs : List Value} (h : kRef.K w y cs) : cs = encVer y := by
  obtain ⟨_, _, rfl, rfl, _, _, rfl, rfl, _, _, rfl, rfl, rfl⟩ := h
  rfl
theorem opens_kRef : Opens Try.prog 41 kRef (fun _ => True) :=
  opens_iso (opens_struct Try.underlying41 (by kernel_rfl)
    (opensF_cons rfl (by kernel_rfl) (opens_int Try.underlying3) (opensF_cons rfl (by kernel_rfl) (opens_int Try.underlying3) (opensF_cons rfl (by kernel_rfl) (opens_bool Try.underlying4) (opensF_one rfl (by kernel_rfl) (opens_str Try.underlying9))))))
    _ (fun y => ⟨y.1, y.2.1, y.2.2.1, y.2.2.2⟩) (fun _ => rfl) _ (fun _ _ => trivial)
theorem rowR {w : World} {A : Option Addr} {l : List Ver} (h : kRef.Row w A l) : RowE encVer 4 w A l := RowE.of (d := kRef) (enc := encVer) (by decide) (fun _ _ _ h => kRef_open h) h
theorem rowS {w : World} {A : Option Addr} {l : List ByteArray} (h : Kd.str.Row w A l) : RowE encS 1 w A l := RowE.of (d := Kd.str) (enc := encS) (by decide) (fun _ _ _ h => h) h
def kCh : Kd (List ByteArray × List (List Ver)) := Kd.pair (Kd.nslice Kd.str) (Kd.nslice (Kd.nslice kRef))
theorem opens_kCh : Opens Try.prog 25 kCh (fun y => (y.1.length * 16 ≤ 140737488351232 ∧ ∀ x ∈ y.1, x.size ≤ 140737488351232) ∧ (y.2.length * 24 ≤ 140737488351232 ∧ ∀ l ∈ y.2, l.length * 40 ≤ 140737488351232 ∧ ∀ x ∈ l, True)) :=
  opens_struct Try.underlying25 (by kernel_rfl)
    (opensF_cons rfl (by kernel_rfl) (opens_nslice Try.underlying22 (by kernel_rfl) (by kernel_rfl) (opens_str Try.underlying9))
      (opensF_one rfl (by kernel_rfl) (opens_nslice Try.underlying23 (by kernel_rfl) (by kernel_rfl) (opens_nslice Try.underlying39 (by kernel_rfl) (by kernel_rfl) opens_kRef))))
theorem rowLs {w : World} {A : Option Addr} {ls : List (List Ver)} (h : (Kd.nslice kRef).Row w A ls) : RowL w A ls := fun i l hi => by
  obtain ⟨l0, hl0⟩ : ∃ l0, ls[0]? = some l0 := ⟨_, List.getElem?_eq_getElem (by have := lt_of_get hi; omega)⟩
  obtain ⟨ad, cs, rfl, ⟨A0, k0, rfl, _⟩, hc⟩ := h 0 l0 hl0
  have c0 := hc 0 _ rfl
  have e0 : ad.add (0 * (Kd.nslice kRef).sz + 0) = ad := by simp [Addr.add]
  rw [e0] at c0
  have hsp : ad.spot = none := by
    unfold World.cell? at c0
    split at c0
    · split at c0
      · cases c0
      · rename_i q; simpa using q
    · cases c0
  obtain ⟨b, off, sp⟩ := ad
  obtain rfl : sp = none := hsp
  obtain ⟨ad', cs', e1, ⟨A', c', rfl, h1, h2, h3⟩, hc'⟩ := h i l hi
  obtain rfl := Option.some.inj e1
  have c1 := hc' 0 _ rfl
  rw [Addr.add_lit] at c1
  refine ⟨b, off, _, rfl, World.block_lt_of_cell? _ _ c0, ?_, A', c', rfl, h1, rowR h2, h3⟩
  have e : off + i = off + (i * (Kd.nslice kRef).sz + 0) := by show off + i = off + (i * 1 + 0); omega
  rw [e]; exact c1
theorem kCh_open {w : World} {y : List ByteArray × List (List Ver)} {cs : List Value} (h : kCh.K w y cs) : ∃ AK AL ck cl, cs = [.slice AK y.1.length ck, .slice AL y.2.length cl] ∧ RowE encS 1 w AK y.1 ∧ RowL w AL y.2 ∧ (AK = none → ck = 0) ∧ (AL = none → cl = 0) := by
  obtain ⟨_, _, rfl, ⟨AK, ck, rfl, _, h1, h2⟩, AL, cl, rfl, _, h3, h4⟩ := h
  exact ⟨AK, AL, ck, cl, rfl, rowS h1, rowLs h3, h2, h4⟩
end Go.Proofs.Ytpkacnoimdjckaa
