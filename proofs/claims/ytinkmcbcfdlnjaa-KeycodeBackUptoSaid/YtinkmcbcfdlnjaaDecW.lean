/- Package keycode: the reader's small functions. -/
import Derived.Test.YtinkmcbcfdlnjaaEncW
import Derived.Test.YtinkmcbcfdlnjaaBox
import Derived.Test.YtinkmcbcfdlnjaaDec
import Derived.Defers
import Derived.Recover
namespace Go.Proofs.Ytinkmcbcfdlnjaa
open Go.RowKit
set_option linter.unusedVariables false
set_option linter.unusedSimpArgs false
/-- A panic with an error. -/
abbrev pan (e : Int) : List PanicEntry := [{ v := Value.iface 24 (Value.int IntKind.i64 e), recovered := false }]
set_option maxRecDepth 100000 in
theorem need_true (e : Int) (w : World) : Calls Try.prog 24 #[.bool true, .int .i64 e] w fun r w' => r = .returned (.tuple #[]) ∧ w = w' := by
  go_enter Try.func24, Try.ntmps24
  go_wp2
  go_end0
  exact ⟨rfl, rfl⟩
set_option maxRecDepth 100000 in
theorem need_false (e : Int) (w : World) : Calls Try.prog 24 #[.bool false, .int .i64 e] w fun r w' => r = .panicked (pan e) ∧ w = w' := by
  go_enter Try.func24, Try.ntmps24
  go_wp2
  exact ⟨rfl, rfl, rfl⟩
set_option maxRecDepth 100000 in
theorem octet_nil (b : Nat) (w : World) (hb : w.cell? ⟨b, 0, none⟩ = some (.string (tx []))) : Calls Try.prog 29 #[.pointer (some ⟨b, 0, none⟩)] w fun r w' => r = .panicked (pan 8) ∧ w' = w := by
  have h := tx_list []
  go_enter Try.func29, Try.ntmps29
  go_wp2_with (go_at_call 24; (with_reducible refine (need_false _ _).mono ?_); rintro e w' ⟨rfl, rfl⟩)
  exact ⟨rfl, rfl, rfl⟩
theorem tx_tail (c : UInt8) (L : List UInt8) : (tx (c :: L)).extract 1 (tx (c :: L)).size = tx L := by
  rw [← tx_of ((tx (c :: L)).extract 1 (tx (c :: L)).size)]
  congr 1
  rw [ByteArray.toList_eq]
  simp [tx, ByteArray.size]
set_option maxRecDepth 100000 in
theorem octet_cons (b : Nat) (c : UInt8) (L : List UInt8) (w : World) (hb : w.cell? ⟨b, 0, none⟩ = some (.string (tx (c :: L)))) (hf : w.frozen? ⟨b, 0, none⟩ = false) : Calls Try.prog 29 #[.pointer (some ⟨b, 0, none⟩)] w fun r w' => r = .returned (.int .u8 c.toNat) ∧ w' = w.setCell ⟨b, 0, none⟩ (.string (tx L)) := by
  have h := tx_list (c :: L)
  have h1 : 0 < (tx (c :: L)).size := by rw [tx_size]; simp
  have h2 : ∀ g : 0 < (tx (c :: L)).size, (tx (c :: L))[0] = c := fun g => rfl
  have h3 := tx_tail c L
  go_enter Try.func29, Try.ntmps29
  go_wp2_with (go_at_call 24; (with_reducible refine (need_true _ _).mono ?_); rintro e w' ⟨rfl, rfl⟩)
  go_ret
  exact ⟨rfl, rfl⟩
end Go.Proofs.Ytinkmcbcfdlnjaa
