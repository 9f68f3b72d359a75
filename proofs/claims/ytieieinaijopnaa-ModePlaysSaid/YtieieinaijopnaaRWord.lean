/-
  Words for the walk of the reference's Sense. No condition beyond what each states.
-/
import Derived.Test.YtieieinaijopnaaRef
namespace Go.Proofs.Ytieieinaijopnaa
open Go.RowKit
/-- The reference's pages: two numbers. -/
def RG (w : World) (p : Nat) (x y : Int) : Prop := w.heap[p]? = some (.cells #[.int .i64 x, .int .i64 y] 46 (0, 0))
theorem RG.mod {w w' : World} {p : Nat} {x y : Int} {F : Nat → Prop} (h : RG w p x y) (hm : Mod F w w') (hn : ¬ F p) : RG w' p x y := hm.heap h hn
theorem RG.lt {w : World} {p : Nat} {x y : Int} (h : RG w p x y) : p < w.heap.size := (Array.getElem?_eq_some_iff.1 h).1
theorem RG.cells {w : World} {p : Nat} {x y : Int} (h : RG w p x y) : w.cell? ⟨p, 0, none⟩ = some (.int .i64 x) ∧ w.cell? ⟨p, 1, none⟩ = some (.int .i64 y) := by
  refine ⟨?_, ?_⟩ <;> rw [cell_of_row w p _ _ 46 (0, 0) h] <;> rfl
/-- What is known of the blocks while the reference's Sense runs. -/
def REnv (W : World) (b : Nat) (c : C) (p : Nat) (x y : Int) : Prop := W.heap[b]? = some (.cells (cc c) 36 (0, 0)) ∧ W.heap[b + 1]? = some (.cells z8 31 (0, 0)) ∧ RG W p x y
theorem REnv.mod {W W' : World} {b p : Nat} {c : C} {x y : Int} {F : Nat → Prop} (h : REnv W b c p x y) (hm : Mod F W W') (h1 : ¬ F b) (h2 : ¬ F (b + 1)) (h3 : ¬ F p) : REnv W' b c p x y :=
  ⟨hm.heap h.1 h1, hm.heap h.2.1 h2, h.2.2.mod hm h3⟩
theorem REnv.q {W W' : World} {b p : Nat} {c : C} {x y : Int} (h : REnv W b c p x y) (hm : Mod (fun _ => False) W W') : REnv W' b c p x y := h.mod hm (by simp) (by simp) (by simp)
theorem REnv.cells {W : World} {b p : Nat} {c : C} {x y : Int} (h : REnv W b c p x y) : W.cell? ⟨b, 1, none⟩ = some (.bool c.long) ∧ W.cell? ⟨b, 9, none⟩ = some (.int .u8 c.page) ∧ W.cell? ⟨b, 10, none⟩ = some (.int .u8 c.control) := by
  refine ⟨?_, ?_, ?_⟩ <;> rw [cell_of_row W b _ _ 36 (0, 0) h.1] <;> rfl
theorem REnv.rg {W : World} {b p : Nat} {c : C} {x y : Int} (h : REnv W b c p x y) : RG W p x y := h.2.2
theorem REnv.size {W : World} {b p : Nat} {c : C} {x y : Int} (h : REnv W b c p x y) : b + 1 < W.heap.size := (Array.getElem?_eq_some_iff.1 h.2.1).1
theorem dev_of (n : V) : Int.tdiv (bitsV n) 4 = if n.c then 1 else 0 := by
  obtain ⟨a, b, c⟩ := n
  cases a <;> cases b <;> cases c <;> rfl
theorem rpage8x (v : V) (x : Int) (hx : x = bitsV v) (w : World) : Calls Try.prog 23 #[.int .u8 8, .int .i64 x] w fun e w' => ∃ g, e = .returned (.slice (some ⟨g, 0, none⟩) 20 20) ∧ Row w' 5 1 (ic .u8) (.slice (some ⟨g, 0, none⟩) 20 20) (cachL v) ∧ Mod (fun _ => False) w w' ∧ w.heap.size ≤ g := by
  subst hx
  exact rpage8 v w
theorem rpage10x (v : V) (x : Int) (hx : x = bitsV v) (w : World) : Calls Try.prog 23 #[.int .u8 10, .int .i64 x] w fun e w' => ∃ g, e = .returned (.slice (some ⟨g, 0, none⟩) 12 12) ∧ Row w' 5 1 (ic .u8) (.slice (some ⟨g, 0, none⟩) 12 12) (ctlL v) ∧ Mod (fun _ => False) w w' ∧ w.heap.size ≤ g := by
  subst hx
  exact rpage10 v w
end Go.Proofs.Ytieieinaijopnaa
