/-
  Words for the walk of the reference's Select. No condition beyond what each states.
-/
import Derived.Test.YtieieinaijopnaaRSel0
import Derived.Test.YtieieinaijopnaaBitr
import Derived.Test.YtieieinaijopnaaBitu
import Derived.RegionTactic
namespace Go.Proofs.Ytieieinaijopnaa
open Go.RowKit
/-- What is known of the blocks while the reference's Select runs. -/
def RQ (W : World) (b : Nat) (c : C) (p : Nat) (x y : Int) : Prop := REnv W b c p x y ∧ W.heap[b + 1 + 1]? = some (.cells #[.int .u8 5, .int .u16 6656, .int .u64 0, .bool false, .int .i64 0, .int .i64 0, .bool false, .bool false] 31 (0, 0))
theorem RQ.mod {W W' : World} {b p : Nat} {c : C} {x y : Int} {F : Nat → Prop} (h : RQ W b c p x y) (hm : Mod F W W') (h1 : ¬ F b) (h2 : ¬ F (b + 1)) (h4 : ¬ F (b + 1 + 1)) (h3 : ¬ F p) : RQ W' b c p x y :=
  ⟨h.1.mod hm h1 h2 h3, hm.heap h.2 h4⟩
theorem RQ.q {W W' : World} {b p : Nat} {c : C} {x y : Int} (h : RQ W b c p x y) (hm : Mod (fun _ => False) W W') : RQ W' b c p x y := h.mod hm (by simp) (by simp) (by simp) (by simp)
theorem RQ.save {W : World} {b p : Nat} {c : C} {x y : Int} (h : RQ W b c p x y) : W.cell? ⟨b, 11, none⟩ = some (.bool c.save) := by
  rw [cell_of_row W b _ _ 36 (0, 0) h.1.1]; rfl
theorem RQ.z {W : World} {b p : Nat} {c : C} {x y : Int} (h : RQ W b c p x y) : W.heap[b + 1]? = some (.cells #[.int .u8 0, .int .u16 0, .int .u64 0, .bool false, .int .i64 0, .int .i64 0, .bool false, .bool false] 31 (0, 0)) := h.1.2.1
theorem RQ.sh {W : World} {b p : Nat} {c : C} {x y : Int} (h : RQ W b c p x y) : W.heap[b + 1 + 1]? = some (.cells #[.int .u8 5, .int .u16 6656, .int .u64 0, .bool false, .int .i64 0, .int .i64 0, .bool false, .bool false] 31 (0, 0)) := h.2
theorem RQ.rg {W : World} {b p : Nat} {c : C} {x y : Int} (h : RQ W b c p x y) : RG W p x y := h.1.2.2
theorem RQ.fz {W : World} {b p : Nat} {c : C} {x y : Int} (h : RQ W b c p x y) (j : Nat) : W.frozen? ⟨b + 1, j, none⟩ = false := frozen_of_row _ _ _ _ _ h.z
theorem RQ.fp {W : World} {b p : Nat} {c : C} {x y : Int} (h : RQ W b c p x y) (j : Nat) : W.frozen? ⟨p, j, none⟩ = false := frozen_of_row _ _ _ _ _ h.rg
theorem RQ.size {W : World} {b p : Nat} {c : C} {x y : Int} (h : RQ W b c p x y) : b + 1 + 1 < W.heap.size := (Array.getElem?_eq_some_iff.1 h.2).1
theorem rq_start (w : World) (c : C) (p : Nat) (x y : Int) (h : RG w p x y) : RQ (((w.alloc (.cells (cc c) 36)).alloc (.cells #[.int .u8 0, .int .u16 0, .int .u64 0, .bool false, .int .i64 0, .int .i64 0, .bool false, .bool false] 31)).alloc (.cells #[.int .u8 5, .int .u16 6656, .int .u64 0, .bool false, .int .i64 0, .int .i64 0, .bool false, .bool false] 31)) w.heap.size c p x y := by
  have m1 := (Mod.refl (fun _ => False) ((w.alloc (.cells (cc c) 36)).alloc (.cells #[.int .u8 0, .int .u16 0, .int .u64 0, .bool false, .int .i64 0, .int .i64 0, .bool false, .bool false] 31))).alloc (.cells #[.int .u8 5, .int .u16 6656, .int .u64 0, .bool false, .int .i64 0, .int .i64 0, .bool false, .bool false] 31)
  refine ⟨⟨m1.heap (heap_alloc2_old _ _ _) (by simp), m1.heap (heap_alloc2_new _ _ _) (by simp), (h.mod (((Mod.refl (fun _ => False) w).alloc _).alloc _) (by simp)).mod m1 (by simp)⟩, ?_⟩
  have := heap_alloc_new ((w.alloc (.cells (cc c) 36)).alloc (.cells #[.int .u8 0, .int .u16 0, .int .u64 0, .bool false, .int .i64 0, .int .i64 0, .bool false, .bool false] 31)) (.cells #[.int .u8 5, .int .u16 6656, .int .u64 0, .bool false, .int .i64 0, .int .i64 0, .bool false, .bool false] 31)
  simpa using this
theorem rset1 {w : World} {p : Nat} {x y : Int} (h : RG w p x y) (v : Int) : RG (w.setCell ⟨p, 0, none⟩ (.int .i64 v)) p v y ∧ Mod (fun k => k = p) w (w.setCell ⟨p, 0, none⟩ (.int .i64 v)) := by
  refine ⟨?_, Mod.setCell (F := fun k => k = p) (p := ⟨p, 0, none⟩) (Mod.refl _ _) (.inl rfl) _⟩
  have h0 := heap_setCell_same w p 0 _ 46 (.int .i64 v) h
  unfold RG
  rw [h0]
  simp
theorem rset2 {w : World} {p : Nat} {x y : Int} (h : RG w p x y) (v : Int) : RG (w.setCell ⟨p, 1, none⟩ (.int .i64 v)) p x v ∧ Mod (fun k => k = p) w (w.setCell ⟨p, 1, none⟩ (.int .i64 v)) := by
  refine ⟨?_, Mod.setCell (F := fun k => k = p) (p := ⟨p, 1, none⟩) (Mod.refl _ _) (.inl rfl) _⟩
  have h0 := heap_setCell_same w p 1 _ 46 (.int .i64 v) h
  unfold RG
  rw [h0]
  simp
/-- The world by another name. -/
theorem wp_at {P : Program} {c : Code} {Q : Exit → Act → World → Prop} {a : Act} {W W' : World} (h : W' = W) (k : Code.wp P c Q a W') : Code.wp P c Q a W := h ▸ k
theorem q_at {Q : Exit → Act → World → Prop} {x : Exit} {a : Act} {W W' : World} (h : W' = W) (k : Q x a W') : Q x a W := h ▸ k
theorem bits_ne (v u : V) : (bitsV v != bitsV u) = (v != u) := by
  show (!(bitsV v == bitsV u)) = (!(v == u))
  rw [bitsV_inj]
theorem bitsV_bound (v : V) : 0 ≤ bitsV v ∧ bitsV v ≤ 7 := by
  obtain ⟨a, b, c⟩ := v
  cases a <;> cases b <;> cases c <;> decide
end Go.Proofs.Ytieieinaijopnaa
