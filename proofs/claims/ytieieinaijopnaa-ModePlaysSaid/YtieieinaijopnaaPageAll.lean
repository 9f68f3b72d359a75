/-
  mode.page at any place of any bytes; words for the walk of (*Pages).Select. Condition: a slice of bytes and a place within it.
-/
import Derived.Test.YtieieinaijopnaaSelw
import Derived.Test.YtieieinaijopnaaPage8
import Derived.Test.YtieieinaijopnaaPage10
import Derived.RegionTactic
import Derived.Laws.StructEq
namespace Go.Proofs.Ytieieinaijopnaa
open Go.RowKit
theorem page_any (A : Addr) (len cap at_ : Nat) (L : List Int) (v : V) (w : World) (hat : at_ < len) (hlc : len ≤ cap) (hcm : cap ≤ maxLen) (hr : Rd w 1 (ic .u8) (some A) len L) (hb : ∀ x ∈ L, 0 ≤ x ∧ x ≤ 255) :
    Calls Try.prog 21 #[.slice (some A) len cap, .int .i64 at_, vv v] w (PagePost (L.drop at_) at_ v w) := by
  obtain ⟨m, rfl⟩ : ∃ m, len = at_ + m := ⟨len - at_, by omega⟩
  obtain ⟨c, rfl⟩ : ∃ c, cap = at_ + c := ⟨cap - at_, by omega⟩
  have hp : Pre A at_ m c L w := ⟨by omega, by omega, hcm, hr, hb⟩
  by_cases h8 : gi (L.drop at_) 0 = 8
  · exact page_8 A m c at_ L v w hp h8
  · by_cases h10 : gi (L.drop at_) 0 = 10
    · exact page_10 A m c at_ L v w hp h10
    · exact page_x A m c at_ L v w hp h8 h10
theorem PageR.bounds {R : List Int} {at_ : Int} {v v' : V} {n : Int} {s : SN} {ok : Bool} (h : PageR R at_ v v' n s ok) : 0 ≤ n ∧ n ≤ R.length := by
  rcases h with ⟨-, -, -, h, -, -⟩ | ⟨h8, ⟨-, -, h, -, -⟩ | ⟨-, -, -, h, -, -⟩ | ⟨-, -, i, b, -, -, h, -, -⟩ | ⟨h1, -, -, -, h, -, -⟩⟩ <;> rw [h] <;> omega
theorem guard23 : Try.prog.eqGuardType Try.prog.depth 23 = false := by kernel_rfl
/-- != of two values, in a region that only reads. -/
theorem quiet_neqV {ops : Array Oper} {C : World → Prop} {Q : Act → Prop} {o : Oper} {rest : List Oper} {a : Act} (x y : Operand) (ty2 : TypeId) (p q : V) (ho : o.op = .binOp .neq 23 x y ty2) (hg : o.guard = none)
    (hx : a.eval x = .agg #[.bool p.a, .bool p.b, .bool p.c]) (hy : a.eval y = .agg #[.bool q.a, .bool q.b, .bool q.c])
    (h : wpQuiet Try.prog ops C Q rest (a.put o.dst (.bool (p != q)))) : wpQuiet Try.prog ops C Q (o :: rest) a := by
  have hw : Region.wanted o (yielded ops a.tmps) = true := by simp [Region.wanted, hg]
  unfold wpQuiet
  rw [if_pos hw]
  refine ⟨.bool (p != q), fun w hC => ?_, h⟩
  unfold Oper.quietAt execOp
  simp only [ho, hx, hy, Sem.run_bind, Sem.run_pure, Result.andThen_ok, run_eqGuard_agg _ _ _ _ _ _ _ guard23, neq23]
  exact ⟨rfl, rfl⟩
theorem pg3 {w : World} {p : Nat} {n s : V} (h : PG w p n s) (v : V) : PG (((w.setCell ⟨p, 0, none⟩ (.bool v.a)).setCell ⟨p, 1, none⟩ (.bool v.b)).setCell ⟨p, 2, none⟩ (.bool v.c)) p v s ∧
    Mod (fun k => k = p) w (((w.setCell ⟨p, 0, none⟩ (.bool v.a)).setCell ⟨p, 1, none⟩ (.bool v.b)).setCell ⟨p, 2, none⟩ (.bool v.c)) := by
  refine ⟨?_, ?_⟩
  · have h0 := heap_setCell_same w p 0 _ 53 (.bool v.a) h
    have h1 := heap_setCell_same _ p 1 _ 53 (.bool v.b) h0
    have h2 := heap_setCell_same _ p 2 _ 53 (.bool v.c) h1
    unfold PG
    rw [h2]
    simp
  · refine Mod.setCell (F := fun k => k = p) (p := ⟨p, 2, none⟩) ?_ (.inl rfl) _
    refine Mod.setCell (F := fun k => k = p) (p := ⟨p, 1, none⟩) ?_ (.inl rfl) _
    refine Mod.setCell (F := fun k => k = p) (p := ⟨p, 0, none⟩) ?_ (.inl rfl) _
    exact Mod.refl _ _
theorem pgs {w : World} {p : Nat} {n s : V} (h : PG w p n s) (v : V) : PG (((w.setCell ⟨p, 3, none⟩ (.bool v.a)).setCell ⟨p, 4, none⟩ (.bool v.b)).setCell ⟨p, 5, none⟩ (.bool v.c)) p n v ∧
    Mod (fun k => k = p) w (((w.setCell ⟨p, 3, none⟩ (.bool v.a)).setCell ⟨p, 4, none⟩ (.bool v.b)).setCell ⟨p, 5, none⟩ (.bool v.c)) := by
  refine ⟨?_, ?_⟩
  · have h0 := heap_setCell_same w p 3 _ 53 (.bool v.a) h
    have h1 := heap_setCell_same _ p 4 _ 53 (.bool v.b) h0
    have h2 := heap_setCell_same _ p 5 _ 53 (.bool v.c) h1
    unfold PG
    rw [h2]
    simp
  · refine Mod.setCell (F := fun k => k = p) (p := ⟨p, 5, none⟩) ?_ (.inl rfl) _
    refine Mod.setCell (F := fun k => k = p) (p := ⟨p, 4, none⟩) ?_ (.inl rfl) _
    refine Mod.setCell (F := fun k => k = p) (p := ⟨p, 3, none⟩) ?_ (.inl rfl) _
    exact Mod.refl _ _
/-- What is known of the blocks while Select runs. -/
def SEnv (W : World) (b : Nat) (c : C) (p : Nat) (n s : V) : Prop := W.heap[b]? = some (.cells (cc c) 36 (0, 0)) ∧ W.heap[b + 1]? = some (.cells #[.int .u8 0, .int .u16 0, .int .u64 0, .bool false, .int .i64 0, .int .i64 0, .bool false, .bool false] 31 (0, 0)) ∧ PG W p n s
theorem SEnv.mod {W W' : World} {b p : Nat} {c : C} {n s : V} {F : Nat → Prop} (h : SEnv W b c p n s) (hm : Mod F W W') (h1 : ¬ F b) (h2 : ¬ F (b + 1)) (h3 : ¬ F p) : SEnv W' b c p n s :=
  ⟨hm.heap h.1 h1, hm.heap h.2.1 h2, h.2.2.mod hm h3⟩
theorem SEnv.q {W W' : World} {b p : Nat} {c : C} {n s : V} (h : SEnv W b c p n s) (hm : Mod (fun _ => False) W W') : SEnv W' b c p n s := h.mod hm (by simp) (by simp) (by simp)
theorem SEnv.cells {W : World} {b p : Nat} {c : C} {n s : V} (h : SEnv W b c p n s) : W.cell? ⟨b, 1, none⟩ = some (.bool c.long) ∧ W.cell? ⟨b, 11, none⟩ = some (.bool c.save) := by
  refine ⟨?_, ?_⟩ <;> rw [cell_of_row W b _ _ 36 (0, 0) h.1] <;> rfl
theorem SEnv.z {W : World} {b p : Nat} {c : C} {n s : V} (h : SEnv W b c p n s) : W.heap[b + 1]? = some (.cells #[.int .u8 0, .int .u16 0, .int .u64 0, .bool false, .int .i64 0, .int .i64 0, .bool false, .bool false] 31 (0, 0)) := h.2.1
theorem SEnv.pg {W : World} {b p : Nat} {c : C} {n s : V} (h : SEnv W b c p n s) : PG W p n s := h.2.2
theorem SEnv.fz {W : World} {b p : Nat} {c : C} {n s : V} (h : SEnv W b c p n s) (j : Nat) : W.frozen? ⟨b + 1, j, none⟩ = false := frozen_of_row _ _ _ _ _ h.2.1
theorem SEnv.fp {W : World} {b p : Nat} {c : C} {n s : V} (h : SEnv W b c p n s) (j : Nat) : W.frozen? ⟨p, j, none⟩ = false := frozen_of_row _ _ _ _ _ h.2.2
end Go.Proofs.Ytieieinaijopnaa
