/-
  For every script of acts, TaskPlays returns true and leaves the script as it was: the row's frame (after the kit's skeleton) over the walk in Plays. No condition.
-/
import Derived.Test.YtabkplmpkdbchaaPlays
import Derived.Test.YtabkplmpkdbchaaOpen
namespace Go.Proofs.Ytabkplmpkdbchaa.taskPlays
open Go.ChangeShapes Go.WideShapes Go.ChangeAt Go.RowKit Go.Deep
set_option linter.unusedVariables false

theorem own : ownKnob Try.prog.godebug = none := by kernel_rfl
theorem laidOut : laidOutB Try.prog = true := by kernel_rfl

theorem open_act {H : Type} {tok : TypeId × Value → H} {w : World} {base : Nat} {spare : Nat → Bool} {held : Bool} (n : Nat) (cs' : List Value) (y : DataW H × List MemPlace) (h : DataW.trod tok Try.prog w base spare held n 51 cs' = some y) :
    ∃ a, cs' = encA a ∧ WfA a := by
  obtain ⟨hl, hf⟩ := open_fields Try.underlying51 (by kernel_rfl) (by kernel_rfl) h
  obtain ⟨v0, m0, z0, e0, t0⟩ := hf 0 _ rfl
  obtain ⟨v1, m1, z1, e1, t1⟩ := hf 1 _ rfl
  obtain ⟨v2, m2, z2, e2, t2⟩ := hf 2 _ rfl
  obtain ⟨v3, m3, z3, e3, t3⟩ := hf 3 _ rfl
  obtain ⟨x0, r0, -, w0⟩ := DataW.trod_int Try.underlying5 t0
  obtain ⟨x1, r1, -, w1⟩ := DataW.trod_int Try.underlying3 t1
  obtain ⟨x2, r2, -, w2⟩ := DataW.trod_int Try.underlying23 t2
  obtain ⟨x3, r3, -, w3⟩ := DataW.trod_int Try.underlying24 t3
  simp only [List.cons.injEq, and_true] at r0 r1 r2 r3
  subst r0 r1 r2 r3
  refine ⟨⟨x0, x1, x2, x3⟩, ?_, bounds_u8 w0, bounds_u32 w2, bounds_u8 w3⟩
  match cs', hl with
  | [c0, c1, c2, c3], _ =>
    simp at e0 e1 e2 e3
    subst e0 e1 e2 e3
    rfl

set_option maxRecDepth 100000 in
theorem lifted (os : Os) (started : os.Started) (H : Type) (enc : TypeId × Value → H) :
    ReturnsInHanded {} Try.checked os 8 .any (Rows.taskPlaysSpec.pre6 enc Try.prog Try.f8 Rows.taskPlaysRow.domain false) (Rows.taskPlaysSpec.post enc Try.prog Try.f8 false true false false) := by
  refine returnsInHanded_of_change (C := Try.checked) own started (by kernel_rfl) Try.func8
    (ChangeSpec.witness6 (enc := enc) (C := Try.checked) false ⟨#[], #[.slice none 0 0], []⟩ 8 (by kernel_rfl) (by kernel_rfl) (by kernel_rfl) (by kernel_rfl)) ?_
  intro W base args ds gs before hval0 hW hcnd _
  have hval : ∀ (j : Nat) t v, Try.f8.params[j]? = some t → args[j]? = some v → Value.okWide Try.prog W .any base t v := hval0
  have hW' := hW
  obtain ⟨p, q, hA0, hV, rfl, hfz, hnd⟩ := hW
  have hA : DataW.TrodAll enc Try.prog W 0 (fun _ => true) true Try.f8.params.toList args.toList ds p := hA0
  rw [Try.params8] at hA hval
  obtain ⟨v0, vs0, d0, ds0, p0, q0, hargs, rfl, rfl, h0, r0⟩ := trodAll_cons hA
  obtain ⟨rfl, rfl, rfl⟩ := trodAll_nil r0
  obtain rfl : args = #[v0] := by cases args; simp_all
  obtain ⟨rfl, rfl⟩ := trodVars_none hV
  have k0 := h0
  have lt0 : ∀ x ∈ p0, x.block < W.heap.size := by obtain ⟨m, hm⟩ := k0; exact DataW.trod_lt m _ _ _ hm
  obtain ⟨A0, len0, cap0, rfl⟩ := okWide_slice Try.underlying46 (hval 0 46 v0 rfl rfl)
  obtain ⟨l0, hrd0, hwf0⟩ : ∃ l, Rd W 4 encA A0 len0 l ∧ ∀ a ∈ l, WfA a := by
    obtain ⟨fuel, hf⟩ := h0
    obtain ⟨A, len, cap, l, hcs, -, -, hrd, hwf, -⟩ := open_rows encA WfA Try.underlying46 (by kernel_rfl : Try.prog.cellsOf 51 = 4) (fun n cs' y h => open_act n cs' y h) (fun _ => rfl) hf
    simp [Value.cells] at hcs
    obtain ⟨rfl, rfl, rfl⟩ := hcs
    exact ⟨l, hrd, hwf⟩
  clear hA0 hval0
  refine (walk0 A0 len0 cap0 l0 W hrd0 hwf0).mono fun e W' ⟨he, bel⟩ => ?_
  subst he
  exact ⟨_, rfl, _, _, _, [], _, [], hW', trodAll_mk1 (shut_bool Try.underlying4 _), (trodAll_cons_mk (Below.trod laidOut (by kernel_rfl) (of_decide_eq_true (by kernel_rfl)) k0 bel lt0) trodAll_mk0), rfl, bel.frame _, fun h => by cases h⟩

theorem over : Rows.taskPlaysRow.holds Try.pinned (OpenSpec.ofChange Rows.taskPlaysSpec) :=
  OpenClaim.holds_of_wide 8 Try.f8 rfl rfl rfl rfl rfl rfl rfl ⟨rfl, rfl, rfl, rfl, rfl⟩ rfl rfl rfl rfl rfl (by kernel_rfl) Try.func8 (by kernel_rfl)
    (of_decide_eq_true (by kernel_rfl)) (by unfold Func.isWrapper; first | (rw [if_pos (by decide +kernel)]; kernel_rfl) | (rw [if_neg (by decide +kernel)]; exact ⟨rfl, rfl⟩))
    (fun os started H enc _ => lifted os started H enc)

theorem proved : Rows.TaskPlaysSaid := over
#print axioms proved
end Go.Proofs.Ytabkplmpkdbchaa.taskPlays
