/-
  The document's sum, walked: its constants.
-/
import Derived.Test.YtipkdhcbajcamaaSum
namespace Go.Proofs.Ytipkdhcbajcamaa
open Go.RowKit
section
variable {P : Program} {w : World} {ops : Array Oper} {rest : List Oper} {o : Oper} {a : Act} {Q : Exit → Act → World → Prop}
/-- An operation that lays a block. -/
theorem list_lay (hg : o.guard = none) (v : Value) (ob : Obj) (h : (execOp a.eval o).run P w = .ok (.value v) (w.alloc ob)) (hn : wpList P ops Q rest (a.put o.dst v) (w.alloc ob)) : wpList P ops Q (o :: rest) a w :=
  wpList_plain hg fun _ hK => by
    unfold Oper.wp
    rw [h]
    exact hK _ _ hn
end
theorem elem38 : Elem Try.prog 38 (.int .u32 0) 1 4 := ⟨by kernel_rfl, rfl, by decide⟩
/-- The constants, back to front. -/
def bv : Array Value := kv.reverse
def z64 : Array Value := Array.replicate 64 (.int .u32 0)
theorem bv_get (i : Nat) (hi : i < 64) : bv[63 - i]? = some (.int .u32 (gi kl i)) := by
  have hs : kv.size = 64 := rfl
  unfold bv
  rw [Array.getElem?_reverse (by omega), hs, ← kv_get i hi]
  congr 1
  omega
/-- A block of numbers, as a row. -/
theorem row_of {w : World} {e : TypeId} {k : IntKind} {g n : Nat} {l : List Int} {ms : Array Value} (h : w.heap[g]? = some (.cells ms e (0, 0))) (hs : ms.size = n) (hl : l.length = n) (hn : n ≤ maxLen) (hm : ∀ i, i < n → ms[i]? = some (.int k (gi l i))) :
    Row w e 1 (ic k) (.slice (some ⟨g, 0, none⟩) n n) l := by
  subst hl
  refine ⟨by rw [flat_ic]; simp, .inr ⟨g, l.length, ms, rfl, Nat.zero_le _, h, Nat.le_refl _, hn, by omega, ?_⟩⟩
  rw [flat_ic, Nat.mul_one, List.take_of_length_le (by simp; omega)]
  apply List.ext_getElem?
  intro i
  by_cases hi : i < l.length
  · have := hm i hi
    rw [← Array.getElem?_toList] at this
    rw [this, List.getElem?_map, List.getElem?_eq_getElem hi, gi_eq l i hi]
    rfl
  · rw [List.getElem?_eq_none (by simp; omega), List.getElem?_eq_none (by simp; omega)]
/-- The two blocks. -/
def Cw (w wr : World) (k : Nat) : Prop :=
  Mod (fun _ => False) w wr ∧ wr.heap[w.heap.size]? = some (.cells bv 38 (0, 0)) ∧ ∃ ms : Array Value, wr.heap[w.heap.size + 1]? = some (.cells ms 38 (0, 0)) ∧ ms.size = 64 ∧ ∀ i, i < k → ms[i]? = some (.int .u32 (gi kl i))
theorem Cw.put {w wr : World} {k : Nat} (h : Cw w wr k) (hk : k < 64) : Cw w (wr.setCell ⟨w.heap.size + 1, k, none⟩ (.int .u32 (gi kl k))) (k + 1) := by
  obtain ⟨h1, h2, ms, h4, h5, h6⟩ := h
  refine ⟨h1.setCell (.inr (by show w.heap.size ≤ w.heap.size + 1; omega)) _, ?_, ms.setIfInBounds k (.int .u32 (gi kl k)), ?_, by simpa using h5, fun i hi => ?_⟩
  · rw [heap_setCell_other _ _ _ _ (by show w.heap.size ≠ w.heap.size + 1; omega)]; exact h2
  · simp [World.setCell, Array.getElem?_modify, h4]
  · rw [Array.getElem?_setIfInBounds]
    split
    · rename_i e
      subst e
      rw [if_pos (by omega)]
    · exact h6 i (by omega)
set_option maxHeartbeats 1000000 in
set_option maxRecDepth 100000 in
theorem const_any (w : World) : Calls Try.prog 18 #[] w fun e w' => ∃ g, e = .returned (.slice (some ⟨g, 0, none⟩) 64 64) ∧ Row w' 38 1 (ic .u32) (.slice (some ⟨g, 0, none⟩) 64 64) kl ∧ w.heap.size ≤ g ∧ Mod (fun _ => False) w w' := by
  have hmk : ∀ w : World, (Instr.makeSlice 41 (.int .i64 64) (.int .i64 64)).run Try.prog w = .ok (.slice (some ⟨w.heap.size, 0, none⟩) 64 64) (w.alloc (.cells z64 38)) := fun _ => by kernel_rfl
  go_enter Try.func18, Try.ntmps18
  go_wp2_with (refine list_lay (o := ⟨some 4, _, _, _, _, _⟩) rfl (.slice (some ⟨w.heap.size, 0, none⟩) 64 64) (.cells bv 38) (by kernel_rfl) ?_)
  go_loopw [3] (fun i wr => ∃ k : Nat, k ≤ 64 ∧ i = .int .i64 k ∧ Hid (Cw w wr k)) (fun i _ => 64 - (intOf i).toNat)
  case atStart => exact ⟨0, by omega, rfl, hide ⟨((Mod.refl _ w).alloc _).alloc _, heap_alloc2_old w _ _, _, heap_alloc2_new w _ _, rfl, fun i hi => by omega⟩⟩
  case round =>
    obtain ⟨k, hk, rfl, hC⟩ := hrel
    by_cases hlt : k < 64
    · have c1 : wr.cell? ⟨w.heap.size, 63 - k, none⟩ = some (.int .u32 (gi kl k)) := by rw [cell_of_row wr _ _ _ 38 (0, 0) hC.out.2.1]; exact bv_get k hlt
      obtain ⟨u, c2⟩ : ∃ u, wr.cell? ⟨w.heap.size + 1, k, none⟩ = some u := by
        obtain ⟨_, _, ms, h4, h5, _⟩ := hC.out
        rw [cell_of_row wr _ k _ 38 (0, 0) h4]
        exact ⟨_, Array.getElem?_eq_getElem (by omega)⟩
      have c3 : wr.frozen? ⟨w.heap.size + 1, k, none⟩ = false := by
        obtain ⟨_, _, ms, h4, h5, _⟩ := hC.out
        exact frozen_of_row wr _ k _ 38 h4
      have n1 : (63 - (k : Int)).toNat = 63 - k := by omega
      have hC2 := hide (hC.out.put hlt)
      generalize gi kl k = x at *
      go_wp2
      go_roundw
      case rel => exact ⟨k + 1, by omega, by go_num, hC2⟩
      case measure => simp [intOf]; omega
    · have hk64 : k = 64 := by omega
      rw [hk64] at hC
      replace hk64 := hide hk64
      go_wp2
      go_ret
      obtain ⟨h1, h2, ms, h4, h5, h6⟩ := hC.out
      refine ⟨w.heap.size + 1, rfl, ?_, by omega, h1⟩
      exact row_of h4 h5 rfl (by decide) h6
end Go.Proofs.Ytipkdhcbajcamaa
