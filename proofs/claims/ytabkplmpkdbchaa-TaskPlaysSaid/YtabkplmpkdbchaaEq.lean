/-
  Two tasks by == and !=. No condition.
-/
import Derived.Test.YtabkplmpkdbchaaTask
import Derived.Laws.StructEq
namespace Go.Proofs.Ytabkplmpkdbchaa
open Go.RowKit
def eqT (a b : T) : Bool := a.nx == b.nx && (a.tag == b.tag && (a.at_ == b.at_ && a.st == b.st))
theorem und26 : Try.prog.underlying 26 = some (.struct (Try.prog.fieldsOf 26)) := by kernel_rfl
theorem stood26 : Try.prog.stoodInHeld 26 = false := by kernel_rfl
theorem guard26 : Try.prog.eqGuardType Try.prog.depth 26 = false := by kernel_rfl
theorem part_run (t : TypeId) (cs : Array Value) (off : Nat) (v : Value) (w : World) (ha : (Sem.run Try.prog (isAgg t) w) = .ok false w) (hc : cs[off]? = some v) : (part t cs off).run Try.prog w = .ok v w := by
  simp [part, ha, hc]
theorem neq_run (a b : T) (w : World) : (binOp .neq 26 (.agg (enc a).toArray) (.agg (enc b).toArray)).run Try.prog w = .ok (.bool (!(eqT a b))) w := by
  have q3 : ∀ w, (Sem.run Try.prog (isAgg 3) w) = .ok false w := fun w => by simp [isAgg, go_sem]
  have q4 : ∀ w, (Sem.run Try.prog (isAgg 4) w) = .ok false w := fun w => by simp [isAgg, go_sem]
  have q23 : ∀ w, (Sem.run Try.prog (isAgg 23) w) = .ok false w := fun w => by simp [isAgg, go_sem]
  have q24 : ∀ w, (Sem.run Try.prog (isAgg 24) w) = .ok false w := fun w => by simp [isAgg, go_sem]
  have e3 : ∀ x y w, (Op.equalIn 9999 3 (.int .i64 x) (.int .i64 y)).run Try.prog w = .ok (x == y) w := fun x y w => run_equalIn_int w 9998 3 _ _ x y Try.underlying3
  have e23 : ∀ x y w, (Op.equalIn 9999 23 (.int .u32 x) (.int .u32 y)).run Try.prog w = .ok (x == y) w := fun x y w => run_equalIn_int w 9998 23 _ _ x y Try.underlying23
  have e24 : ∀ x y w, (Op.equalIn 9999 24 (.int .u8 x) (.int .u8 y)).run Try.prog w = .ok (x == y) w := fun x y w => run_equalIn_int w 9998 24 _ _ x y Try.underlying24
  have e4 : ∀ x y w, (Op.equalIn 9999 4 (.bool x) (.bool y)).run Try.prog w = .ok (x == y) w := fun x y w => run_equalIn_bool w 9998 4 x y Try.underlying4
  have p0 : ∀ (a : T) w, (part 3 (enc a).toArray 0).run Try.prog w = .ok (.int .i64 a.nx) w := fun a w => part_run _ _ _ _ w (q3 w) rfl
  have p1 : ∀ (a : T) w, (part 23 (enc a).toArray 1).run Try.prog w = .ok (.int .u32 a.tag) w := fun a w => part_run _ _ _ _ w (q23 w) rfl
  have p2 : ∀ (a : T) w, (part 24 (enc a).toArray 2).run Try.prog w = .ok (.int .u8 a.at_) w := fun a w => part_run _ _ _ _ w (q24 w) rfl
  have p3 : ∀ (a : T) w, (part 4 (enc a).toArray 3).run Try.prog w = .ok (.bool a.st) w := fun a w => part_run _ _ _ _ w (q4 w) rfl
  rw [run_neq_struct, run_equalIn_agg _ _ _ _ _ und26 stood26]
  simp only [Program.fieldsOf, Try.underlying26]
  simp only [Op.eqFields, Sem.run_bind, p0, p1, p2, p3, e3, e4, e23, e24, Result.andThen_ok, Sem.run_ite, Sem.run_pure]
  simp [eqT]
  cases h1 : a.nx == b.nx <;> cases h2 : a.tag == b.tag <;> cases h3 : a.at_ == b.at_ <;> cases h4 : a.st == b.st <;> simp_all
/-- Two tasks of a frame by !=, in a region that only reads. -/
theorem quiet_neq {ops : Array Oper} {C : World → Prop} {Q : Act → Prop} {o : Oper} {rest : List Oper} {a : Act} (x y : Operand) (ty2 : TypeId) (p q : T) (ho : o.op = .binOp .neq 26 x y ty2) (hg : o.guard = none)
    (hx : a.eval x = .agg (enc p).toArray) (hy : a.eval y = .agg (enc q).toArray)
    (h : wpQuiet Try.prog ops C Q rest (a.put o.dst (.bool (!(eqT p q))))) : wpQuiet Try.prog ops C Q (o :: rest) a := by
  have hw : Region.wanted o (yielded ops a.tmps) = true := by simp [Region.wanted, hg]
  unfold wpQuiet
  rw [if_pos hw]
  refine ⟨.bool (!(eqT p q)), fun w hC => ?_, h⟩
  unfold Oper.quietAt execOp
  simp only [ho, hx, hy, Sem.run_bind, Sem.run_pure, Result.andThen_ok, run_eqGuard_agg _ _ _ _ _ _ _ guard26, neq_run]
  exact ⟨rfl, rfl⟩
end Go.Proofs.Ytabkplmpkdbchaa
