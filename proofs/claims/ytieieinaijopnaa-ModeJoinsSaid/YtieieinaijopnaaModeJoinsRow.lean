/-
  For all arguments ModeJoins returns true and leaves its arguments as they were: the row's frame (after the kit's skeleton) over the walk in YtieieinaijopnaaJoins. No condition.
-/
import Derived.Test.YtieieinaijopnaaJoins
import Derived.Test.YtieieinaijopnaaOpen
namespace Go.Proofs.Ytieieinaijopnaa.modeJoins
open Go.ChangeShapes Go.WideShapes Go.ChangeAt Go.RowKit Go.Deep
open Go.ChangeMaps (open_string shut_string)
set_option linter.unusedVariables false

theorem own : ownKnob Try.prog.godebug = none := by kernel_rfl
theorem laidOut : laidOutB Try.prog = true := by kernel_rfl
theorem open_V {H : Type} {tok : TypeId × Value → H} {w : World} {base : Nat} {spare : Nat → Bool} {held : Bool} (n : Nat) (cs' : List Value) (y : DataW H × List MemPlace) (h : DataW.trod tok Try.prog w base spare held n 23 cs' = some y) :
    ∃ (a0 : Bool) (a1 : Bool) (a2 : Bool), cs' = [.bool a0, .bool a1, .bool a2] ∧ True := by
  obtain ⟨hl, hf⟩ := open_fields Try.underlying23 (by kernel_rfl) (by kernel_rfl) h
  obtain ⟨v0, m0, z0, e0, t0⟩ := hf 0 _ rfl
  obtain ⟨v1, m1, z1, e1, t1⟩ := hf 1 _ rfl
  obtain ⟨v2, m2, z2, e2, t2⟩ := hf 2 _ rfl
  obtain ⟨x0, r0, -⟩ := DataW.trod_bool Try.underlying4 t0
  obtain ⟨x1, r1, -⟩ := DataW.trod_bool Try.underlying4 t1
  obtain ⟨x2, r2, -⟩ := DataW.trod_bool Try.underlying4 t2
  simp only [List.cons.injEq, and_true] at r0 r1 r2
  subst r0 r1 r2
  refine ⟨x0, x1, x2, ?_, trivial⟩
  match cs', hl with
  | [c0, c1, c2], _ =>
    simp at e0 e1 e2
    subst e0 e1 e2
    rfl

theorem lifted (os : Os) (started : os.Started) (H : Type) (enc : TypeId × Value → H) :
    ReturnsInHanded {} Try.checked os 7 .any (Rows.modeJoinsSpec.pre6 enc Try.prog Try.f7 Rows.modeJoinsRow.domain false) (Rows.modeJoinsSpec.post enc Try.prog Try.f7 false true false false) := by
  refine returnsInHanded_of_change (C := Try.checked) own started (by kernel_rfl) Try.func7
    (ChangeSpec.witness6 (enc := enc) (C := Try.checked) false ⟨#[], #[.agg #[.bool false, .bool false, .bool false], .agg #[.bool false, .bool false, .bool false], .bool false], []⟩ 8 (by kernel_rfl) (by kernel_rfl) (by kernel_rfl) (by kernel_rfl)) ?_
  intro W base args ds gs before hval0 hW hcnd _
  have hval : ∀ (j : Nat) t v, Try.f7.params[j]? = some t → args[j]? = some v → Value.okWide Try.prog W .any base t v := hval0
  have hW' := hW
  obtain ⟨p, q, hA0, hV, rfl, hfz, hnd⟩ := hW
  have hA : DataW.TrodAll enc Try.prog W 0 (fun _ => true) true Try.f7.params.toList args.toList ds p := hA0
  rw [Try.params7] at hA hval
  obtain ⟨v0, vs0, d0, ds0, p0, q0, hargs, rfl, rfl, h0, r0⟩ := trodAll_cons hA
  obtain ⟨v1, vs1, d1, ds1, p1, q1, rfl, rfl, rfl, h1, r1⟩ := trodAll_cons r0
  obtain ⟨v2, vs2, d2, ds2, p2, q2, rfl, rfl, rfl, h2, r2⟩ := trodAll_cons r1
  obtain ⟨rfl, rfl, rfl⟩ := trodAll_nil r2
  obtain rfl : args = #[v0, v1, v2] := by cases args; simp_all
  obtain ⟨rfl, rfl⟩ := trodVars_none hV
  have k0 := h0
  have lt0 : ∀ x ∈ p0, x.block < W.heap.size := by obtain ⟨m, hm⟩ := k0; exact DataW.trod_lt m _ _ _ hm
  obtain ⟨cs0, rfl, -⟩ := okWide_struct Try.underlying23 (hval 0 23 v0 rfl rfl)
  obtain ⟨s0_0, s0_1, s0_2, ht0, -⟩ := (by
    obtain ⟨fuel, hf⟩ := h0
    exact open_V _ _ _ hf : ∃ (a0 : Bool) (a1 : Bool) (a2 : Bool), (Value.agg cs0).cells.toList = [.bool a0, .bool a1, .bool a2] ∧ True)
  replace ht0 : cs0 = #[.bool s0_0, .bool s0_1, .bool s0_2] := by
    simp [Value.cells] at ht0
    rw [← Array.toList_inj, ht0]
  subst ht0
  have k1 := h1
  have lt1 : ∀ x ∈ p1, x.block < W.heap.size := by obtain ⟨m, hm⟩ := k1; exact DataW.trod_lt m _ _ _ hm
  obtain ⟨cs1, rfl, -⟩ := okWide_struct Try.underlying23 (hval 1 23 v1 rfl rfl)
  obtain ⟨s1_0, s1_1, s1_2, ht1, -⟩ := (by
    obtain ⟨fuel, hf⟩ := h1
    exact open_V _ _ _ hf : ∃ (a0 : Bool) (a1 : Bool) (a2 : Bool), (Value.agg cs1).cells.toList = [.bool a0, .bool a1, .bool a2] ∧ True)
  replace ht1 : cs1 = #[.bool s1_0, .bool s1_1, .bool s1_2] := by
    simp [Value.cells] at ht1
    rw [← Array.toList_inj, ht1]
  subst ht1
  obtain ⟨a2, rfl, rfl, rfl⟩ := open_bool Try.underlying4 (hval 2 4 v2 rfl rfl) h2
  clear hA0 hval0
  refine (walk0 ⟨s0_0, s0_1, s0_2⟩ ⟨s1_0, s1_1, s1_2⟩ a2 W ).mono fun e W' ⟨he, bel⟩ => ?_
  subst he
  exact ⟨_, rfl, _, _, _, [], _, [], hW', trodAll_mk1 (shut_bool Try.underlying4 _), (trodAll_cons_mk (Below.trod laidOut (by kernel_rfl) (of_decide_eq_true (by kernel_rfl)) k0 bel lt0) (trodAll_cons_mk (Below.trod laidOut (by kernel_rfl) (of_decide_eq_true (by kernel_rfl)) k1 bel lt1) (trodAll_cons_mk (shut_bool Try.underlying4 _) trodAll_mk0))), rfl, bel.frame _, fun h => by cases h⟩

theorem over : Rows.modeJoinsRow.holds Try.pinned (OpenSpec.ofChange Rows.modeJoinsSpec) :=
  OpenClaim.holds_of_wide 7 Try.f7 rfl rfl rfl rfl rfl rfl rfl ⟨rfl, rfl, rfl, rfl, rfl⟩ rfl rfl rfl rfl rfl (by kernel_rfl) Try.func7 (by kernel_rfl)
    (of_decide_eq_true (by kernel_rfl)) (by unfold Func.isWrapper; first | (rw [if_pos (by decide +kernel)]; kernel_rfl) | (rw [if_neg (by decide +kernel)]; exact ⟨rfl, rfl⟩))
    (fun os started H enc _ => lifted os started H enc)

theorem proved : Rows.ModeJoinsSaid := over
#print axioms proved
end Go.Proofs.Ytieieinaijopnaa.modeJoins
