/-
  Plain facts: a clean page's bytes, and the values as bits behind it. No condition beyond what each states.
-/
import Derived.Test.YtieieinaijopnaaRef
namespace Go.Proofs.Ytieieinaijopnaa
open Go.RowKit
set_option maxRecDepth 100000 in
theorem clean_all : ∀ x : Fin 256, ((∀ b : Fin 8, bitT (x.val : Int) 4 b.val = false) → (x.val : Int) = 0 ∨ (x.val : Int) = 4) ∧ ((∀ b : Fin 8, bitT (x.val : Int) 8 b.val = false) → (x.val : Int) = 0 ∨ (x.val : Int) = 8) := by
  decide +kernel
theorem clean4 (x : Int) (hx : 0 ≤ x ∧ x ≤ 255) (h : ∀ b, b ≤ 7 → bitT x 4 b = false) : x = 0 ∨ x = 4 := by
  obtain ⟨n, rfl⟩ := Int.eq_ofNat_of_zero_le hx.1
  exact (clean_all ⟨n, by omega⟩).1 fun b => h b.val (by omega)
theorem clean8 (x : Int) (hx : 0 ≤ x ∧ x ≤ 255) (h : ∀ b, b ≤ 7 → bitT x 8 b = false) : x = 0 ∨ x = 8 := by
  obtain ⟨n, rfl⟩ := Int.eq_ofNat_of_zero_le hx.1
  exact (clean_all ⟨n, by omega⟩).2 fun b => h b.val (by omega)
theorem upd8 (v : V) (x : Int) (hx : x = 0 ∨ x = 4) : (bitsV v).tdiv 2 * 2 + x.tdiv 4 = bitsV ⟨x != 0, v.b, v.c⟩ := by
  obtain ⟨a, b, c⟩ := v
  rcases hx with rfl | rfl <;> cases a <;> cases b <;> cases c <;> decide
theorem upd10 (v : V) (x y : Int) (hx : x = 0 ∨ x = 4) (hy : y = 0 ∨ y = 8) : (bitsV v).tmod 2 + x.tdiv 4 * 2 + y.tdiv 8 * 4 = bitsV ⟨v.a, x != 0, y != 0⟩ := by
  obtain ⟨a, b, c⟩ := v
  rcases hx with rfl | rfl <;> rcases hy with rfl | rfl <;> cases a <;> cases b <;> cases c <;> decide
/-- The values behind a clean page, as bits. -/
theorem updV8 (R : List Int) (v : V) (h0 : gi R 0 = 8) (hb : 0 ≤ gi R 2 ∧ gi R 2 ≤ 255) (hc : Clean R 8 20) : (bitsV v).tdiv 2 * 2 + (gi R 2).tdiv 4 = bitsV (updV R v) := by
  rw [upd8 v _ (clean4 _ hb fun b h => hc 2 (by decide) (by decide) b h), updV, if_pos h0]
theorem updV10 (R : List Int) (v : V) (h0 : gi R 0 = 10) (hb : 0 ≤ gi R 2 ∧ gi R 2 ≤ 255) (hd : 0 ≤ gi R 4 ∧ gi R 4 ≤ 255) (hc : Clean R 10 12) : (bitsV v).tmod 2 + (gi R 2).tdiv 4 * 2 + (gi R 4).tdiv 8 * 4 = bitsV (updV R v) := by
  rw [upd10 v _ _ (clean4 _ hb fun b h => hc 2 (by decide) (by decide) b h) (clean8 _ hd fun b h => hc 4 (by decide) (by decide) b h), updV, if_neg (by rw [h0]; decide)]
end Go.Proofs.Ytieieinaijopnaa
