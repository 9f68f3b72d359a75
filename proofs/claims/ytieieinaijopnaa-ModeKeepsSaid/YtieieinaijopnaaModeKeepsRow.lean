/-
  For all arguments ModeKeeps returns true and leaves its arguments as they were: the row's frame (after the kit's skeleton) over the walk in YtieieinaijopnaaKeeps. No condition.
-/
import Derived.Test.YtieieinaijopnaaKeeps
import Derived.Test.YtieieinaijopnaaOpen
namespace Go.Proofs.Ytieieinaijopnaa.modeKeeps
open Go.ChangeShapes Go.WideShapes Go.ChangeAt Go.RowKit Go.Deep
open Go.ChangeMaps (open_string shut_string)
set_option linter.unusedVariables false

theorem own : ownKnob Try.prog.godebug = none := by kernel_rfl
theorem laidOut : laidOutB Try.prog = true := by kernel_rfl
theorem open_V {H : Type} {tok : TypeId × Value → H} {w : World} {base : Nat} {spare : Nat → Bool} {held : Bool} (n : Nat) (cs' : List Value) (y : DataW H × List MemPlace) (h : DataW.trod tok Try.prog w base spare held n 23 cs' = some y) :
    ∃ (a0 : Bool) (a1 : Bool) (a2 : Bool), cs' = [.bool a0, .bool a1, .bool a2] ∧ True := by
  obtain ⟨hl, hf⟩ := open_fields Try.underlying23 (by kernel_rfl) (by kernel_rfl) h
  obtain ⟨v0, m0, z0, e0, t0⟩ := hf 0 _ rfl
  obtain ⟨v1, m1, z1, e1, t1⟩ := hf 1 _ rfl
  obtain ⟨v2, m2, z2, e2, t2⟩ := hf 2 _ rfl
  obtain ⟨x0, r0, -⟩ := DataW.trod_bool Try.underlying4 t0
  obtain ⟨x1, r1, -⟩ := DataW.trod_bool Try.underlying4 t1
  obtain ⟨x2, r2, -⟩ := DataW.trod_bool Try.underlying4 t2
  simp only [List.cons.injEq, and_true] at r0 r1 r2
  subst r0 r1 r2
  refine ⟨x0, x1, x2, ?_, trivial⟩
  match cs', hl with
  | [c0, c1, c2], _ =>
    simp at e0 e1 e2
    subst e0 e1 e2
    rfl
theorem open_C {H : Type} {tok : TypeId × Value → H} {w : World} {base : Nat} {spare : Nat → Bool} {held : Bool} (n : Nat) (cs' : List Value) (y : DataW H × List MemPlace) (h : DataW.trod tok Try.prog w base spare held n 36 cs' = some y) :
    ∃ (a0 : Int) (a1 : Bool) (a2 : Int) (a3 : Int) (a4 : Int) (a5 : Bool) (a6 : Int) (a7 : Bool) (a8 : Bool) (a9 : Int) (a10 : Int) (a11 : Bool) (a12 : Int) (a13 : Int) (a14 : Bool), cs' = [.int .u8 a0, .bool a1, .int .u64 a2, .int .u64 a3, .int .i64 a4, .bool a5, .int .u8 a6, .bool a7, .bool a8, .int .u8 a9, .int .u8 a10, .bool a11, .int .u8 a12, .int .u8 a13, .bool a14] ∧ (Lit.int .u8 a0).wf = true ∧ (Lit.int .u64 a2).wf = true ∧ (Lit.int .u64 a3).wf = true ∧ (Lit.int .i64 a4).wf = true ∧ (Lit.int .u8 a6).wf = true ∧ (Lit.int .u8 a9).wf = true ∧ (Lit.int .u8 a10).wf = true ∧ (Lit.int .u8 a12).wf = true ∧ (Lit.int .u8 a13).wf = true := by
  obtain ⟨hl, hf⟩ := open_fields Try.underlying36 (by kernel_rfl) (by kernel_rfl) h
  obtain ⟨v0, m0, z0, e0, t0⟩ := hf 0 _ rfl
  obtain ⟨v1, m1, z1, e1, t1⟩ := hf 1 _ rfl
  obtain ⟨v2, m2, z2, e2, t2⟩ := hf 2 _ rfl
  obtain ⟨v3, m3, z3, e3, t3⟩ := hf 3 _ rfl
  obtain ⟨v4, m4, z4, e4, t4⟩ := hf 4 _ rfl
  obtain ⟨v5, m5, z5, e5, t5⟩ := hf 5 _ rfl
  obtain ⟨v6, m6, z6, e6, t6⟩ := hf 6 _ rfl
  obtain ⟨v7, m7, z7, e7, t7⟩ := hf 7 _ rfl
  obtain ⟨v8, m8, z8, e8, t8⟩ := hf 8 _ rfl
  obtain ⟨v9, m9, z9, e9, t9⟩ := hf 9 _ rfl
  obtain ⟨v10, m10, z10, e10, t10⟩ := hf 10 _ rfl
  obtain ⟨v11, m11, z11, e11, t11⟩ := hf 11 _ rfl
  obtain ⟨v12, m12, z12, e12, t12⟩ := hf 12 _ rfl
  obtain ⟨v13, m13, z13, e13, t13⟩ := hf 13 _ rfl
  obtain ⟨v14, m14, z14, e14, t14⟩ := hf 14 _ rfl
  obtain ⟨x0, r0, -, w0⟩ := DataW.trod_int Try.underlying34 t0
  obtain ⟨x1, r1, -⟩ := DataW.trod_bool Try.underlying4 t1
  obtain ⟨x2, r2, -, w2⟩ := DataW.trod_int Try.underlying29 t2
  obtain ⟨x3, r3, -, w3⟩ := DataW.trod_int Try.underlying29 t3
  obtain ⟨x4, r4, -, w4⟩ := DataW.trod_int Try.underlying3 t4
  obtain ⟨x5, r5, -⟩ := DataW.trod_bool Try.underlying4 t5
  obtain ⟨x6, r6, -, w6⟩ := DataW.trod_int Try.underlying5 t6
  obtain ⟨x7, r7, -⟩ := DataW.trod_bool Try.underlying4 t7
  obtain ⟨x8, r8, -⟩ := DataW.trod_bool Try.underlying4 t8
  obtain ⟨x9, r9, -, w9⟩ := DataW.trod_int Try.underlying5 t9
  obtain ⟨x10, r10, -, w10⟩ := DataW.trod_int Try.underlying5 t10
  obtain ⟨x11, r11, -⟩ := DataW.trod_bool Try.underlying4 t11
  obtain ⟨x12, r12, -, w12⟩ := DataW.trod_int Try.underlying5 t12
  obtain ⟨x13, r13, -, w13⟩ := DataW.trod_int Try.underlying5 t13
  obtain ⟨x14, r14, -⟩ := DataW.trod_bool Try.underlying4 t14
  simp only [List.cons.injEq, and_true] at r0 r1 r2 r3 r4 r5 r6 r7 r8 r9 r10 r11 r12 r13 r14
  subst r0 r1 r2 r3 r4 r5 r6 r7 r8 r9 r10 r11 r12 r13 r14
  refine ⟨x0, x1, x2, x3, x4, x5, x6, x7, x8, x9, x10, x11, x12, x13, x14, ?_, w0, w2, w3, w4, w6, w9, w10, w12, w13⟩
  match cs', hl with
  | [c0, c1, c2, c3, c4, c5, c6, c7, c8, c9, c10, c11, c12, c13, c14], _ =>
    simp at e0 e1 e2 e3 e4 e5 e6 e7 e8 e9 e10 e11 e12 e13 e14
    subst e0 e1 e2 e3 e4 e5 e6 e7 e8 e9 e10 e11 e12 e13 e14
    rfl
theorem open_el5 {H : Type} {tok : TypeId × Value → H} {w : World} {base : Nat} {spare : Nat → Bool} {held : Bool} (n : Nat) (cs' : List Value) (y : DataW H × List MemPlace) (h : DataW.trod tok Try.prog w base spare held n 5 cs' = some y) :
    ∃ a : Int, cs' = ic .u8 a ∧ (Lit.int .u8 a).wf = true := by
  obtain ⟨x, r, -, wf⟩ := DataW.trod_int Try.underlying5 h
  exact ⟨x, r, wf⟩

theorem lifted (os : Os) (started : os.Started) (H : Type) (enc : TypeId × Value → H) :
    ReturnsInHanded {} Try.checked os 4 .any (Rows.modeKeepsSpec.pre6 enc Try.prog Try.f4 Rows.modeKeepsRow.domain false) (Rows.modeKeepsSpec.post enc Try.prog Try.f4 false true false false) := by
  refine returnsInHanded_of_change (C := Try.checked) own started (by kernel_rfl) Try.func4
    (ChangeSpec.witness6 (enc := enc) (C := Try.checked) false ⟨#[], #[.agg #[.bool false, .bool false, .bool false], .agg #[.int .u8 0, .bool false, .int .u64 0, .int .u64 0, .int .i64 0, .bool false, .int .u8 0, .bool false, .bool false, .int .u8 0, .int .u8 0, .bool false, .int .u8 0, .int .u8 0, .bool false], .slice none 0 0], []⟩ 8 (by kernel_rfl) (by kernel_rfl) (by kernel_rfl) (by kernel_rfl)) ?_
  intro W base args ds gs before hval0 hW hcnd _
  have hval : ∀ (j : Nat) t v, Try.f4.params[j]? = some t → args[j]? = some v → Value.okWide Try.prog W .any base t v := hval0
  have hW' := hW
  obtain ⟨p, q, hA0, hV, rfl, hfz, hnd⟩ := hW
  have hA : DataW.TrodAll enc Try.prog W 0 (fun _ => true) true Try.f4.params.toList args.toList ds p := hA0
  rw [Try.params4] at hA hval
  obtain ⟨v0, vs0, d0, ds0, p0, q0, hargs, rfl, rfl, h0, r0⟩ := trodAll_cons hA
  obtain ⟨v1, vs1, d1, ds1, p1, q1, rfl, rfl, rfl, h1, r1⟩ := trodAll_cons r0
  obtain ⟨v2, vs2, d2, ds2, p2, q2, rfl, rfl, rfl, h2, r2⟩ := trodAll_cons r1
  obtain ⟨rfl, rfl, rfl⟩ := trodAll_nil r2
  obtain rfl : args = #[v0, v1, v2] := by cases args; simp_all
  obtain ⟨rfl, rfl⟩ := trodVars_none hV
  have k0 := h0
  have lt0 : ∀ x ∈ p0, x.block < W.heap.size := by obtain ⟨m, hm⟩ := k0; exact DataW.trod_lt m _ _ _ hm
  obtain ⟨cs0, rfl, -⟩ := okWide_struct Try.underlying23 (hval 0 23 v0 rfl rfl)
  obtain ⟨s0_0, s0_1, s0_2, ht0, -⟩ := (by
    obtain ⟨fuel, hf⟩ := h0
    exact open_V _ _ _ hf : ∃ (a0 : Bool) (a1 : Bool) (a2 : Bool), (Value.agg cs0).cells.toList = [.bool a0, .bool a1, .bool a2] ∧ True)
  replace ht0 : cs0 = #[.bool s0_0, .bool s0_1, .bool s0_2] := by
    simp [Value.cells] at ht0
    rw [← Array.toList_inj, ht0]
  subst ht0
  have k1 := h1
  have lt1 : ∀ x ∈ p1, x.block < W.heap.size := by obtain ⟨m, hm⟩ := k1; exact DataW.trod_lt m _ _ _ hm
  obtain ⟨cs1, rfl, -⟩ := okWide_struct Try.underlying36 (hval 1 36 v1 rfl rfl)
  obtain ⟨s1_0, s1_1, s1_2, s1_3, s1_4, s1_5, s1_6, s1_7, s1_8, s1_9, s1_10, s1_11, s1_12, s1_13, s1_14, ht1, s1w0, s1w2, s1w3, s1w4, s1w6, s1w9, s1w10, s1w12, s1w13⟩ := (by
    obtain ⟨fuel, hf⟩ := h1
    exact open_C _ _ _ hf : ∃ (a0 : Int) (a1 : Bool) (a2 : Int) (a3 : Int) (a4 : Int) (a5 : Bool) (a6 : Int) (a7 : Bool) (a8 : Bool) (a9 : Int) (a10 : Int) (a11 : Bool) (a12 : Int) (a13 : Int) (a14 : Bool), (Value.agg cs1).cells.toList = [.int .u8 a0, .bool a1, .int .u64 a2, .int .u64 a3, .int .i64 a4, .bool a5, .int .u8 a6, .bool a7, .bool a8, .int .u8 a9, .int .u8 a10, .bool a11, .int .u8 a12, .int .u8 a13, .bool a14] ∧ (Lit.int .u8 a0).wf = true ∧ (Lit.int .u64 a2).wf = true ∧ (Lit.int .u64 a3).wf = true ∧ (Lit.int .i64 a4).wf = true ∧ (Lit.int .u8 a6).wf = true ∧ (Lit.int .u8 a9).wf = true ∧ (Lit.int .u8 a10).wf = true ∧ (Lit.int .u8 a12).wf = true ∧ (Lit.int .u8 a13).wf = true)
  replace ht1 : cs1 = #[.int .u8 s1_0, .bool s1_1, .int .u64 s1_2, .int .u64 s1_3, .int .i64 s1_4, .bool s1_5, .int .u8 s1_6, .bool s1_7, .bool s1_8, .int .u8 s1_9, .int .u8 s1_10, .bool s1_11, .int .u8 s1_12, .int .u8 s1_13, .bool s1_14] := by
    simp [Value.cells] at ht1
    rw [← Array.toList_inj, ht1]
  subst ht1
  have k2 := h2
  have lt2 : ∀ x ∈ p2, x.block < W.heap.size := by obtain ⟨m, hm⟩ := k2; exact DataW.trod_lt m _ _ _ hm
  obtain ⟨A2, len2, cap2, rfl⟩ := okWide_slice Try.underlying25 (hval 2 25 v2 rfl rfl)
  obtain ⟨l2, hlc2, hcm2, hrd2, hwf2, hbk2⟩ : ∃ l, len2 ≤ cap2 ∧ cap2 ≤ maxLen ∧ Rd W 1 (ic .u8) A2 len2 l ∧ (∀ x ∈ l, (Lit.int .u8 x).wf = true) ∧ ∀ ad, A2 = some ad → 0 < len2 → ad.block < W.heap.size := by
    obtain ⟨fuel, hf⟩ := h2
    obtain ⟨A, len, cap, l, hcs, hlc, hcm, hrd, hwf, hbk⟩ := open_rows (ic .u8) (fun a => (Lit.int .u8 a).wf = true) Try.underlying25 (by kernel_rfl : Try.prog.cellsOf 5 = 1) (fun n cs' y h => open_el5 n cs' y h) (fun _ => rfl) hf
    simp [Value.cells] at hcs
    obtain ⟨rfl, rfl, rfl⟩ := hcs
    exact ⟨l, hlc, hcm, hrd, hwf, fun ad h1 h2 => (hbk ad h1 h2).resolve_right (by decide)⟩
  clear hA0 hval0
  refine (walk0 ⟨s0_0, s0_1, s0_2⟩ ⟨s1_0, s1_1, s1_2, s1_3, s1_4, s1_5, s1_6, s1_7, s1_8, s1_9, s1_10, s1_11, s1_12, s1_13, s1_14⟩ A2 len2 cap2 l2 W hlc2 hcm2 hrd2 (fun x hx => bounds_u8 (hwf2 x hx))).mono fun e W' ⟨he, bel⟩ => ?_
  subst he
  exact ⟨_, rfl, _, _, _, [], _, [], hW', trodAll_mk1 (shut_bool Try.underlying4 _), (trodAll_cons_mk (Below.trod laidOut (by kernel_rfl) (of_decide_eq_true (by kernel_rfl)) k0 bel lt0) (trodAll_cons_mk (Below.trod laidOut (by kernel_rfl) (of_decide_eq_true (by kernel_rfl)) k1 bel lt1) (trodAll_cons_mk (Below.trod laidOut (by kernel_rfl) (of_decide_eq_true (by kernel_rfl)) k2 bel lt2) trodAll_mk0))), rfl, bel.frame _, fun h => by cases h⟩

theorem over : Rows.modeKeepsRow.holds Try.pinned (OpenSpec.ofChange Rows.modeKeepsSpec) :=
  OpenClaim.holds_of_wide 4 Try.f4 rfl rfl rfl rfl rfl rfl rfl ⟨rfl, rfl, rfl, rfl, rfl⟩ rfl rfl rfl rfl rfl (by kernel_rfl) Try.func4 (by kernel_rfl)
    (of_decide_eq_true (by kernel_rfl)) (by unfold Func.isWrapper; first | (rw [if_pos (by decide +kernel)]; kernel_rfl) | (rw [if_neg (by decide +kernel)]; exact ⟨rfl, rfl⟩))
    (fun os started H enc _ => lifted os started H enc)

theorem proved : Rows.ModeKeepsSaid := over
#print axioms proved
end Go.Proofs.Ytieieinaijopnaa.modeKeeps
