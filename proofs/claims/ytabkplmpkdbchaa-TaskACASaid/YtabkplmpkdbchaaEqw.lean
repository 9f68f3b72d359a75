/-
  The load of a task and != of two, behind a guard; how often a test holds ahead of a place. No condition.
-/
import Derived.Test.YtabkplmpkdbchaaEq
namespace Go.Proofs.Ytabkplmpkdbchaa
open Go.RowKit
section
variable {ops : Array Oper} {C : World → Prop} {Q : Act → Prop} {o : Oper} {rest : List Oper} {a : Act}
theorem quiet_neq_w (x y : Operand) (ty2 : TypeId) (p q : T) (hw : Region.wanted o (yielded ops a.tmps) = true) (ho : o.op = .binOp .neq 26 x y ty2)
    (hx : a.eval x = .agg (enc p).toArray) (hy : a.eval y = .agg (enc q).toArray)
    (h : wpQuiet Try.prog ops C Q rest (a.put o.dst (.bool (!(eqT p q))))) : wpQuiet Try.prog ops C Q (o :: rest) a := by
  unfold wpQuiet
  rw [if_pos hw]
  refine ⟨.bool (!(eqT p q)), fun w hC => ?_, h⟩
  unfold Oper.quietAt execOp
  simp only [ho, hx, hy, Sem.run_bind, Sem.run_pure, Result.andThen_ok, run_eqGuard_agg _ _ _ _ _ _ _ guard26, neq_run]
  exact ⟨rfl, rfl⟩
theorem quiet_task_w (x : Operand) (t : T) (ad : Addr) (hw : Region.wanted o (yielded ops a.tmps) = true) (ho : o.op = .load 26 x) (hx : a.eval x = .pointer (some ad))
    (hc : ∀ w, C w → ∀ j u, (enc t)[j]? = some u → w.cell? (ad.add j) = some u)
    (h : wpQuiet Try.prog ops C Q rest (a.put o.dst (.agg (enc t).toArray))) : wpQuiet Try.prog ops C Q (o :: rest) a := by
  unfold wpQuiet
  rw [if_pos hw]
  refine ⟨.agg (enc t).toArray, fun w hC => ?_, h⟩
  unfold Oper.quietAt execOp
  simp only [ho, hx, Instr.loadAt, Instr.sureAddr, Sem.run_bind, Sem.run_pure, Result.andThen_ok, run_loadVar_at w 26 ad (enc t) _ (hc w hC) Try.underlying26 rfl size26]
  exact ⟨rfl, rfl⟩
end
/-- How many of the first k tasks pass the test. -/
def cnt (p : T → Bool) (l : List T) (k : Nat) : Nat := ((l.take k).filter p).length
theorem cnt_zero (p : T → Bool) (l : List T) : cnt p l 0 = 0 := rfl
theorem cnt_all (p : T → Bool) (l : List T) : cnt p l l.length = (l.filter p).length := by simp [cnt]
theorem take_gi (l : List T) (k : Nat) (h : k < l.length) : l.take (k + 1) = l.take k ++ [gi l k] := by
  rw [gi_eq l k h, List.take_append_getElem h]
theorem cnt_yes (p : T → Bool) (l : List T) (k : Nat) (h : k < l.length) (hp : p (gi l k) = true) : cnt p l (k + 1) = cnt p l k + 1 ∧ cnt p l k < (l.filter p).length ∧ gi (l.filter p) (cnt p l k) = gi l k := by
  have e : l.filter p = (l.take k).filter p ++ gi l k :: (l.drop (k + 1)).filter p := by
    conv => lhs; rw [← List.take_append_drop (k + 1) l, take_gi l k h]
    simp [hp]
  refine ⟨by simp [cnt, take_gi l k h, hp], ?_, ?_⟩
  · rw [e]; simp [cnt]
  · rw [e, gi_append_right _ _ _ (by simp [cnt])]
    simp [cnt, gi]
theorem cnt_no (p : T → Bool) (l : List T) (k : Nat) (h : k < l.length) (hp : p (gi l k) = false) : cnt p l (k + 1) = cnt p l k := by
  simp [cnt, take_gi l k h, hp]
theorem split_length (p : T → Bool) (l : List T) : (l.filter p).length + (l.filter fun t => !p t).length = l.length := by
  induction l with
  | nil => rfl
  | cons a l ih => cases h : p a <;> simp [h] <;> omega
end Go.Proofs.Ytabkplmpkdbchaa
