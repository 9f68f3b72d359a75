/-
  The stores into the parameter's block of mode.page. No condition.
-/
import Derived.Test.YtieieinaijopnaaPageX
namespace Go.Proofs.Ytieieinaijopnaa
open Go.RowKit
theorem PEnv.set0 {W : World} {b : Nat} {v : V} (h : PEnv W b v) (x : Bool) : PEnv (W.setCell ⟨b, 0, none⟩ (.bool x)) b ⟨x, v.b, v.c⟩ ∧ Mod (fun k => k = b) W (W.setCell ⟨b, 0, none⟩ (.bool x)) := by
  have hm : Mod (fun k => k = b) W (W.setCell ⟨b, 0, none⟩ (.bool x)) := Mod.setCell (F := fun k => k = b) (p := ⟨b, 0, none⟩) (Mod.refl _ _) (.inl rfl) _
  exact ⟨⟨by rw [heap_setCell_same W b 0 _ 23 (.bool x) h.1]; simp, hm.heap h.2.1 (by omega), hm.heap h.2.2 (by omega)⟩, hm⟩
theorem PEnv.set1 {W : World} {b : Nat} {v : V} (h : PEnv W b v) (x : Bool) : PEnv (W.setCell ⟨b, 1, none⟩ (.bool x)) b ⟨v.a, x, v.c⟩ ∧ Mod (fun k => k = b) W (W.setCell ⟨b, 1, none⟩ (.bool x)) := by
  have hm : Mod (fun k => k = b) W (W.setCell ⟨b, 1, none⟩ (.bool x)) := Mod.setCell (F := fun k => k = b) (p := ⟨b, 1, none⟩) (Mod.refl _ _) (.inl rfl) _
  exact ⟨⟨by rw [heap_setCell_same W b 1 _ 23 (.bool x) h.1]; simp, hm.heap h.2.1 (by omega), hm.heap h.2.2 (by omega)⟩, hm⟩
theorem PEnv.set2 {W : World} {b : Nat} {v : V} (h : PEnv W b v) (x : Bool) : PEnv (W.setCell ⟨b, 2, none⟩ (.bool x)) b ⟨v.a, v.b, x⟩ ∧ Mod (fun k => k = b) W (W.setCell ⟨b, 2, none⟩ (.bool x)) := by
  have hm : Mod (fun k => k = b) W (W.setCell ⟨b, 2, none⟩ (.bool x)) := Mod.setCell (F := fun k => k = b) (p := ⟨b, 2, none⟩) (Mod.refl _ _) (.inl rfl) _
  exact ⟨⟨by rw [heap_setCell_same W b 2 _ 23 (.bool x) h.1]; simp, hm.heap h.2.1 (by omega), hm.heap h.2.2 (by omega)⟩, hm⟩
end Go.Proofs.Ytieieinaijopnaa
