/-
  Plain facts: the reference's test of a page's bits is the program's. No condition beyond what each states.
-/
import Derived.Test.YtieieinaijopnaaPage
namespace Go.Proofs.Ytieieinaijopnaa
open Go.RowKit
set_option maxRecDepth 100000 in
theorem bit_all : ∀ x : Fin 256, ∀ b : Fin 8, ∀ k : Fin 3,
    (bits BinOp.and IntKind.u8 ((x.val : Int) / 2 ^ b.val) 1 == 1 && bits BinOp.and IntKind.u8 (([0, 4, 8].getD k.val 0 : Int) / 2 ^ b.val) 1 == 0) = bitT (x.val : Int) ([0, 4, 8].getD k.val 0) b.val := by
  decide +kernel
theorem bit_ref (x can : Int) (hx : 0 ≤ x ∧ x ≤ 255) (hc : can = 0 ∨ can = 4 ∨ can = 8) (b : Nat) (hb : b ≤ 7) :
    (bits BinOp.and IntKind.u8 (x / 2 ^ b) 1 == 1 && bits BinOp.and IntKind.u8 (can / 2 ^ b) 1 == 0) = bitT x can b := by
  obtain ⟨n, rfl⟩ := Int.eq_ofNat_of_zero_le hx.1
  have hn : n < 256 := by omega
  rcases hc with rfl | rfl | rfl
  · exact bit_all ⟨n, hn⟩ ⟨b, by omega⟩ ⟨0, by decide⟩
  · exact bit_all ⟨n, hn⟩ ⟨b, by omega⟩ ⟨1, by decide⟩
  · exact bit_all ⟨n, hn⟩ ⟨b, by omega⟩ ⟨2, by decide⟩
/-- The reference's page of ones says which bits can be on. -/
theorem ones8 : ∀ i, i < 20 → 2 ≤ i → gi (cachL ⟨true, true, true⟩) i = canB 8 i := by decide +kernel
theorem ones10 : ∀ i, i < 12 → 2 ≤ i → gi (ctlL ⟨true, true, true⟩) i = canB 10 i := by decide +kernel
theorem can_of (r0 : Int) (i : Nat) : canB r0 i = 0 ∨ canB r0 i = 4 ∨ canB r0 i = 8 := by
  unfold canB
  split
  · exact .inr (.inl rfl)
  · split
    · exact .inr (.inr rfl)
    · exact .inl rfl
end Go.Proofs.Ytieieinaijopnaa
