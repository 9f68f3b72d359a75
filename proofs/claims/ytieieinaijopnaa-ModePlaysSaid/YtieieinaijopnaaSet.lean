/-
  Three cells laid one by one. No condition.
-/
import Derived.Test.YtieieinaijopnaaSense
namespace Go.Proofs.Ytieieinaijopnaa
open Go.RowKit
/-- Three cells laid one by one. -/
theorem set3 {w : World} {g : Nat} {o0 o1 o2 : Value} (h : w.heap[g]? = some (.cells #[o0, o1, o2] 23 (0, 0))) (v0 v1 v2 : Value) :
    (((w.setCell ⟨g, 0, none⟩ v0).setCell ⟨g, 1, none⟩ v1).setCell ⟨g, 2, none⟩ v2).heap[g]? = some (.cells #[v0, v1, v2] 23 (0, 0)) ∧ Mod (fun k => k = g) w (((w.setCell ⟨g, 0, none⟩ v0).setCell ⟨g, 1, none⟩ v1).setCell ⟨g, 2, none⟩ v2) := by
  refine ⟨?_, ?_⟩
  · have h0 := heap_setCell_same w g 0 _ 23 v0 h
    have h1 := heap_setCell_same _ g 1 _ 23 v1 h0
    have h2 := heap_setCell_same _ g 2 _ 23 v2 h1
    rw [h2]
    simp
  · refine Mod.setCell (F := fun k => k = g) (p := ⟨g, 2, none⟩) ?_ (.inl rfl) v2
    refine Mod.setCell (F := fun k => k = g) (p := ⟨g, 1, none⟩) ?_ (.inl rfl) v1
    refine Mod.setCell (F := fun k => k = g) (p := ⟨g, 0, none⟩) ?_ (.inl rfl) v0
    exact Mod.refl _ _
end Go.Proofs.Ytieieinaijopnaa
