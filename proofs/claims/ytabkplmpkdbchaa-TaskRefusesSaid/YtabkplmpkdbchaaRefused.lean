/-
  For every row of attributes and every task, TaskRefuses returns true and leaves its arguments as they were. No condition.
-/
import Derived.Test.YtabkplmpkdbchaaRefuses
import Derived.Test.YtabkplmpkdbchaaRows
namespace Go.Proofs.Ytabkplmpkdbchaa.taskRefuses
open Go.ChangeShapes Go.WideShapes Go.ChangeAt Go.RowKit Go.Deep
set_option linter.unusedVariables false

theorem open_task {H : Type} {tok : TypeId × Value → H} {w : World} {base : Nat} {spare : Nat → Bool} {held : Bool} (n : Nat) (cs' : List Value) (y : DataW H × List MemPlace) (h : DataW.trod tok Try.prog w base spare held n 26 cs' = some y) :
    ∃ a : T, cs' = Ytabkplmpkdbchaa.enc a := by
  obtain ⟨hl, hf⟩ := open_fields Try.underlying26 (by kernel_rfl) (by kernel_rfl) h
  obtain ⟨v0, m0, z0, e0, t0⟩ := hf 0 _ rfl
  obtain ⟨v1, m1, z1, e1, t1⟩ := hf 1 _ rfl
  obtain ⟨v2, m2, z2, e2, t2⟩ := hf 2 _ rfl
  obtain ⟨v3, m3, z3, e3, t3⟩ := hf 3 _ rfl
  obtain ⟨x0, r0, -, w0⟩ := DataW.trod_int Try.underlying3 t0
  obtain ⟨x1, r1, -, w1⟩ := DataW.trod_int Try.underlying23 t1
  obtain ⟨x2, r2, -, w2⟩ := DataW.trod_int Try.underlying24 t2
  obtain ⟨x3, r3, -⟩ := DataW.trod_bool Try.underlying4 t3
  simp only [List.cons.injEq, and_true] at r0 r1 r2 r3
  subst r0 r1 r2 r3
  refine ⟨⟨x0, x1, x2, x3⟩, ?_⟩
  match cs', hl with
  | [c0, c1, c2, c3], _ =>
    simp at e0 e1 e2 e3
    subst e0 e1 e2 e3
    rfl

theorem open_bytes {H : Type} {tok : TypeId × Value → H} {w : World} {base : Nat} {spare : Nat → Bool} {held : Bool} (n : Nat) (cs' : List Value) (y : DataW H × List MemPlace) (h : DataW.trod tok Try.prog w base spare held n 5 cs' = some y) :
    ∃ a : Int, cs' = ic .u8 a ∧ 0 ≤ a ∧ a ≤ 255 := by
  obtain ⟨x, r, -, wf⟩ := DataW.trod_int Try.underlying5 h
  exact ⟨x, r, bounds_u8 wf⟩

theorem lifted (os : Os) (started : os.Started) (H : Type) (enc : TypeId × Value → H) :
    ReturnsInHanded {} Try.checked os 3 .any (Rows.taskRefusesSpec.pre6 enc Try.prog Try.f3 Rows.taskRefusesRow.domain false) (Rows.taskRefusesSpec.post enc Try.prog Try.f3 false true false false) := by
  refine returnsInHanded_of_change (C := Try.checked) own started (by kernel_rfl) Try.func3
    (ChangeSpec.witness6 (enc := enc) (C := Try.checked) false ⟨#[], #[.slice none 0 0, .agg #[.int .i64 0, .int .u32 0, .int .u8 0, .bool false]], []⟩ 8 (by kernel_rfl) (by kernel_rfl) (by kernel_rfl) (by kernel_rfl)) ?_
  intro W base args ds gs before hval0 hW hcnd _
  have hval : ∀ (j : Nat) t v, Try.f3.params[j]? = some t → args[j]? = some v → Value.okWide Try.prog W .any base t v := hval0
  have hW' := hW
  obtain ⟨p, q, hA0, hV, rfl, hfz, hnd⟩ := hW
  have hA : DataW.TrodAll enc Try.prog W 0 (fun _ => true) true Try.f3.params.toList args.toList ds p := hA0
  rw [Try.params3] at hA hval
  obtain ⟨v0, vs0, d0, ds0, p0, q0, hargs, rfl, rfl, h0, r0⟩ := trodAll_cons hA
  obtain ⟨v1, vs1, d1, ds1, p1, q1, rfl, rfl, rfl, h1, r1⟩ := trodAll_cons r0
  obtain ⟨rfl, rfl, rfl⟩ := trodAll_nil r1
  obtain rfl : args = #[v0, v1] := by cases args; simp_all
  obtain ⟨rfl, rfl⟩ := trodVars_none hV
  have k0 := h0
  have lt0 : ∀ x ∈ p0, x.block < W.heap.size := by obtain ⟨m, hm⟩ := k0; exact DataW.trod_lt m _ _ _ hm
  have k1 := h1
  have lt1 : ∀ x ∈ p1, x.block < W.heap.size := by obtain ⟨m, hm⟩ := k1; exact DataW.trod_lt m _ _ _ hm
  obtain ⟨A0, len0, cap0, rfl⟩ := okWide_slice Try.underlying22 (hval 0 22 v0 rfl rfl)
  obtain ⟨l0, hrd0, hwf0⟩ : ∃ l, Rd W 1 (ic .u8) A0 len0 l ∧ ∀ a ∈ l, 0 ≤ a ∧ a ≤ 255 := by
    obtain ⟨fuel, hf⟩ := h0
    obtain ⟨A, len, cap, l, hcs, -, -, hrd, hwf, -⟩ := open_rows (ic .u8) (fun a => 0 ≤ a ∧ a ≤ 255) Try.underlying22 (by kernel_rfl : Try.prog.cellsOf 5 = 1) (fun n cs' y h => open_bytes n cs' y h) (fun _ => rfl) hf
    simp [Value.cells] at hcs
    obtain ⟨rfl, rfl, rfl⟩ := hcs
    exact ⟨l, hrd, hwf⟩
  obtain ⟨cs, rfl, -⟩ := okWide_struct Try.underlying26 (hval 1 26 v1 rfl rfl)
  obtain ⟨t, ht⟩ : ∃ t : T, cs = (Ytabkplmpkdbchaa.enc t).toArray := by
    obtain ⟨fuel, hf⟩ := h1
    obtain ⟨a, ha⟩ := open_task _ _ _ hf
    refine ⟨a, ?_⟩
    rw [← ha]
    simp [Value.cells]
  subst ht
  clear hA0 hval0
  refine (walk A0 len0 cap0 l0 t W hrd0 hwf0).mono fun e W' ⟨he, bel⟩ => ?_
  subst he
  exact ⟨_, rfl, _, _, _, [], _, [], hW', trodAll_mk1 (shut_bool Try.underlying4 _), (trodAll_cons_mk (Below.trod laidOut (by kernel_rfl) (of_decide_eq_true (by kernel_rfl)) k0 bel lt0) (trodAll_cons_mk (Below.trod laidOut (by kernel_rfl) (of_decide_eq_true (by kernel_rfl)) k1 bel lt1) trodAll_mk0)), rfl, bel.frame _, fun h => by cases h⟩

theorem over : Rows.taskRefusesRow.holds Try.pinned (OpenSpec.ofChange Rows.taskRefusesSpec) :=
  OpenClaim.holds_of_wide 3 Try.f3 rfl rfl rfl rfl rfl rfl rfl ⟨rfl, rfl, rfl, rfl, rfl⟩ rfl rfl rfl rfl rfl (by kernel_rfl) Try.func3 (by kernel_rfl)
    (of_decide_eq_true (by kernel_rfl)) (by unfold Func.isWrapper; first | (rw [if_pos (by decide +kernel)]; kernel_rfl) | (rw [if_neg (by decide +kernel)]; exact ⟨rfl, rfl⟩))
    (fun os started H enc _ => lifted os started H enc)

theorem proved : Rows.TaskRefusesSaid := over
#print axioms proved
end Go.Proofs.Ytabkplmpkdbchaa.taskRefuses
