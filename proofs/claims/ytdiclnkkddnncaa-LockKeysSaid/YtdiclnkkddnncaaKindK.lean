/- Texts as an argument. -/
import Derived.Test.YtdiclnkkddnncaaProg
import Derived.Test.YtdiclnkkddnncaaKinds
import Derived.Test.YtdiclnkkddnncaaLines
namespace Go.Proofs.Ytdiclnkkddnncaa
open Go.RowKit
def encS (s : ByteArray) : List Value := [.string s]
theorem encS_len (s : ByteArray) : (encS s).length = 1 := rfl
theorem opens_strs : Opens Try.prog 42 Kd.str.slice (fun l => l.length * 16 ≤ 140737488351232 ∧ ∀ x ∈ l, x.size ≤ 140737488351232) :=
  opens_slice Try.underlying42 (by kernel_rfl) (by kernel_rfl) (opens_str Try.underlying9)
theorem rowS {w : World} {A : Option Addr} {l : List ByteArray} (h : Kd.str.Row w A l) : RowE encS 1 w A l := RowE.of (d := Kd.str) (enc := encS) (by decide) (fun _ _ _ h => h) h
end Go.Proofs.Ytdiclnkkddnncaa
