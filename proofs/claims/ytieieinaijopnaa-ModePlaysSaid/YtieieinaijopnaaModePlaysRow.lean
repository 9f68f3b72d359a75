/-
  For all values and every script of calls, ModePlays returns true and leaves its arguments as they were: the row's frame (after the kit's skeleton) over the walk in Plays. No condition.
-/
import Derived.Test.YtieieinaijopnaaPlays
import Derived.Test.YtieieinaijopnaaOpen
import Derived.Deep.Strs
namespace Go.Proofs.Ytieieinaijopnaa.modePlays
open Go.ChangeShapes Go.WideShapes Go.ChangeAt Go.RowKit Go.Deep
open Go.ChangeMaps (open_string shut_string)
set_option linter.unusedVariables false

theorem own : ownKnob Try.prog.godebug = none := by kernel_rfl
theorem laidOut : laidOutB Try.prog = true := by kernel_rfl
theorem open_V {H : Type} {tok : TypeId × Value → H} {w : World} {base : Nat} {spare : Nat → Bool} {held : Bool} (n : Nat) (cs' : List Value) (y : DataW H × List MemPlace) (h : DataW.trod tok Try.prog w base spare held n 23 cs' = some y) :
    ∃ (a0 : Bool) (a1 : Bool) (a2 : Bool), cs' = [.bool a0, .bool a1, .bool a2] ∧ True := by
  obtain ⟨hl, hf⟩ := open_fields Try.underlying23 (by kernel_rfl) (by kernel_rfl) h
  obtain ⟨v0, m0, z0, e0, t0⟩ := hf 0 _ rfl
  obtain ⟨v1, m1, z1, e1, t1⟩ := hf 1 _ rfl
  obtain ⟨v2, m2, z2, e2, t2⟩ := hf 2 _ rfl
  obtain ⟨x0, r0, -⟩ := DataW.trod_bool Try.underlying4 t0
  obtain ⟨x1, r1, -⟩ := DataW.trod_bool Try.underlying4 t1
  obtain ⟨x2, r2, -⟩ := DataW.trod_bool Try.underlying4 t2
  simp only [List.cons.injEq, and_true] at r0 r1 r2
  subst r0 r1 r2
  refine ⟨x0, x1, x2, ?_, trivial⟩
  match cs', hl with
  | [c0, c1, c2], _ =>
    simp at e0 e1 e2
    subst e0 e1 e2
    rfl
theorem open_C {H : Type} {tok : TypeId × Value → H} {w : World} {base : Nat} {spare : Nat → Bool} {held : Bool} (n : Nat) (cs' : List Value) (y : DataW H × List MemPlace) (h : DataW.trod tok Try.prog w base spare held n 36 cs' = some y) :
    ∃ (a0 : Int) (a1 : Bool) (a2 : Int) (a3 : Int) (a4 : Int) (a5 : Bool) (a6 : Int) (a7 : Bool) (a8 : Bool) (a9 : Int) (a10 : Int) (a11 : Bool) (a12 : Int) (a13 : Int) (a14 : Bool), cs' = [.int .u8 a0, .bool a1, .int .u64 a2, .int .u64 a3, .int .i64 a4, .bool a5, .int .u8 a6, .bool a7, .bool a8, .int .u8 a9, .int .u8 a10, .bool a11, .int .u8 a12, .int .u8 a13, .bool a14] ∧ (Lit.int .u8 a0).wf = true ∧ (Lit.int .u64 a2).wf = true ∧ (Lit.int .u64 a3).wf = true ∧ (Lit.int .i64 a4).wf = true ∧ (Lit.int .u8 a6).wf = true ∧ (Lit.int .u8 a9).wf = true ∧ (Lit.int .u8 a10).wf = true ∧ (Lit.int .u8 a12).wf = true ∧ (Lit.int .u8 a13).wf = true := by
  obtain ⟨hl, hf⟩ := open_fields Try.underlying36 (by kernel_rfl) (by kernel_rfl) h
  obtain ⟨v0, m0, z0, e0, t0⟩ := hf 0 _ rfl
  obtain ⟨v1, m1, z1, e1, t1⟩ := hf 1 _ rfl
  obtain ⟨v2, m2, z2, e2, t2⟩ := hf 2 _ rfl
  obtain ⟨v3, m3, z3, e3, t3⟩ := hf 3 _ rfl
  obtain ⟨v4, m4, z4, e4, t4⟩ := hf 4 _ rfl
  obtain ⟨v5, m5, z5, e5, t5⟩ := hf 5 _ rfl
  obtain ⟨v6, m6, z6, e6, t6⟩ := hf 6 _ rfl
  obtain ⟨v7, m7, z7, e7, t7⟩ := hf 7 _ rfl
  obtain ⟨v8, m8, z8, e8, t8⟩ := hf 8 _ rfl
  obtain ⟨v9, m9, z9, e9, t9⟩ := hf 9 _ rfl
  obtain ⟨v10, m10, z10, e10, t10⟩ := hf 10 _ rfl
  obtain ⟨v11, m11, z11, e11, t11⟩ := hf 11 _ rfl
  obtain ⟨v12, m12, z12, e12, t12⟩ := hf 12 _ rfl
  obtain ⟨v13, m13, z13, e13, t13⟩ := hf 13 _ rfl
  obtain ⟨v14, m14, z14, e14, t14⟩ := hf 14 _ rfl
  obtain ⟨x0, r0, -, w0⟩ := DataW.trod_int Try.underlying34 t0
  obtain ⟨x1, r1, -⟩ := DataW.trod_bool Try.underlying4 t1
  obtain ⟨x2, r2, -, w2⟩ := DataW.trod_int Try.underlying29 t2
  obtain ⟨x3, r3, -, w3⟩ := DataW.trod_int Try.underlying29 t3
  obtain ⟨x4, r4, -, w4⟩ := DataW.trod_int Try.underlying3 t4
  obtain ⟨x5, r5, -⟩ := DataW.trod_bool Try.underlying4 t5
  obtain ⟨x6, r6, -, w6⟩ := DataW.trod_int Try.underlying5 t6
  obtain ⟨x7, r7, -⟩ := DataW.trod_bool Try.underlying4 t7
  obtain ⟨x8, r8, -⟩ := DataW.trod_bool Try.underlying4 t8
  obtain ⟨x9, r9, -, w9⟩ := DataW.trod_int Try.underlying5 t9
  obtain ⟨x10, r10, -, w10⟩ := DataW.trod_int Try.underlying5 t10
  obtain ⟨x11, r11, -⟩ := DataW.trod_bool Try.underlying4 t11
  obtain ⟨x12, r12, -, w12⟩ := DataW.trod_int Try.underlying5 t12
  obtain ⟨x13, r13, -, w13⟩ := DataW.trod_int Try.underlying5 t13
  obtain ⟨x14, r14, -⟩ := DataW.trod_bool Try.underlying4 t14
  simp only [List.cons.injEq, and_true] at r0 r1 r2 r3 r4 r5 r6 r7 r8 r9 r10 r11 r12 r13 r14
  subst r0 r1 r2 r3 r4 r5 r6 r7 r8 r9 r10 r11 r12 r13 r14
  refine ⟨x0, x1, x2, x3, x4, x5, x6, x7, x8, x9, x10, x11, x12, x13, x14, ?_, w0, w2, w3, w4, w6, w9, w10, w12, w13⟩
  match cs', hl with
  | [c0, c1, c2, c3, c4, c5, c6, c7, c8, c9, c10, c11, c12, c13, c14], _ =>
    simp at e0 e1 e2 e3 e4 e5 e6 e7 e8 e9 e10 e11 e12 e13 e14
    subst e0 e1 e2 e3 e4 e5 e6 e7 e8 e9 e10 e11 e12 e13 e14
    rfl
theorem open_el5 {H : Type} {tok : TypeId × Value → H} {w : World} {base : Nat} {spare : Nat → Bool} {held : Bool} (n : Nat) (cs' : List Value) (y : DataW H × List MemPlace) (h : DataW.trod tok Try.prog w base spare held n 5 cs' = some y) :
    ∃ a : Int, cs' = ic .u8 a ∧ (Lit.int .u8 a).wf = true := by
  obtain ⟨x, r, -, wf⟩ := DataW.trod_int Try.underlying5 h
  exact ⟨x, r, wf⟩

theorem open_act {H : Type} {tok : TypeId × Value → H} {w : World} {base : Nat} {spare : Nat → Bool} {held : Bool} (n : Nat) (cs' : List Value) (y : DataW H × List MemPlace) (h : DataW.trod tok Try.prog w base spare held n 48 cs' = some y) :
    ∃ a : Ac, cs' = encAc a ∧ (Rd w 1 (ic .u8) a.A a.n a.L ∧ a.n ≤ a.cap ∧ a.cap ≤ maxLen ∧ ∀ x ∈ a.L, 0 ≤ x ∧ x ≤ 255) := by
  obtain ⟨y0, y1, y2, m, -, hl, h0, h1, h2⟩ := trod_struct3 Try.underlying48 h
  have hc : Try.prog.cellsOf 48 = 17 := by kernel_rfl
  have k0 : Try.prog.cellsOf 4 = 1 := by kernel_rfl
  have k1 : Try.prog.cellsOf 36 = 15 := by kernel_rfl
  have k2 : Try.prog.cellsOf 25 = 1 := by kernel_rfl
  rw [hc] at hl
  dsimp only at h0 h1 h2
  rw [k0] at h0; rw [k1] at h1; rw [k2] at h2
  obtain ⟨b, r0, -⟩ := DataW.trod_bool Try.underlying4 h0
  obtain ⟨a0, a1, a2, a3, a4, a5, a6, a7, a8, a9, a10, a11, a12, a13, a14, r1, -⟩ := open_C _ _ _ h1
  obtain ⟨A, len, cap, l, r2, hlc, hcm, hrd, hwf, -⟩ := open_rows (ic .u8) (fun a => (Lit.int .u8 a).wf = true) Try.underlying25 (by kernel_rfl : Try.prog.cellsOf 5 = 1) (fun n cs' y h => open_el5 n cs' y h) (fun _ => rfl) h2
  refine ⟨⟨b, ⟨a0, a1, a2, a3, a4, a5, a6, a7, a8, a9, a10, a11, a12, a13, a14⟩, A, len, cap, l⟩, ?_, hrd, hlc, hcm, fun x hx => bounds_u8 (hwf x hx)⟩
  match cs', hl with
  | [c0, c1, c2, c3, c4, c5, c6, c7, c8, c9, c10, c11, c12, c13, c14, c15, c16], _ =>
    simp only [List.drop_zero, List.drop_succ_cons, List.take_succ_cons, List.take_zero, List.cons.injEq, and_true] at r0 r1 r2
    obtain ⟨e1, e2, e3, e4, e5, e6, e7, e8, e9, e10, e11, e12, e13, e14, e15⟩ := r1
    subst r0 r2 e1 e2 e3 e4 e5 e6 e7 e8 e9 e10 e11 e12 e13 e14 e15
    rfl

set_option maxRecDepth 100000 in
theorem lifted (os : Os) (started : os.Started) (H : Type) (enc : TypeId × Value → H) :
    ReturnsInHanded {} Try.checked os 5 .any (Rows.modePlaysSpec.pre6 enc Try.prog Try.f5 Rows.modePlaysRow.domain false) (Rows.modePlaysSpec.post enc Try.prog Try.f5 false true false false) := by
  refine returnsInHanded_of_change (C := Try.checked) own started (by kernel_rfl) Try.func5
    (ChangeSpec.witness6 (enc := enc) (C := Try.checked) false ⟨#[], #[.agg #[.bool false, .bool false, .bool false], .slice none 0 0], []⟩ 8 (by kernel_rfl) (by kernel_rfl) (by kernel_rfl) (by kernel_rfl)) ?_
  intro W base args ds gs before hval0 hW hcnd _
  have hval : ∀ (j : Nat) t v, Try.f5.params[j]? = some t → args[j]? = some v → Value.okWide Try.prog W .any base t v := hval0
  have hW' := hW
  obtain ⟨p, q, hA0, hV, rfl, hfz, hnd⟩ := hW
  have hA : DataW.TrodAll enc Try.prog W 0 (fun _ => true) true Try.f5.params.toList args.toList ds p := hA0
  rw [Try.params5] at hA hval
  obtain ⟨v0, vs0, d0, ds0, p0, q0, hargs, rfl, rfl, h0, r0⟩ := trodAll_cons hA
  obtain ⟨v1, vs1, d1, ds1, p1, q1, rfl, rfl, rfl, h1, r1⟩ := trodAll_cons r0
  obtain ⟨rfl, rfl, rfl⟩ := trodAll_nil r1
  obtain rfl : args = #[v0, v1] := by cases args; simp_all
  obtain ⟨rfl, rfl⟩ := trodVars_none hV
  have k0 := h0
  have lt0 : ∀ x ∈ p0, x.block < W.heap.size := by obtain ⟨m, hm⟩ := k0; exact DataW.trod_lt m _ _ _ hm
  obtain ⟨cs0, rfl, -⟩ := okWide_struct Try.underlying23 (hval 0 23 v0 rfl rfl)
  obtain ⟨s0_0, s0_1, s0_2, ht0, -⟩ := (by
    obtain ⟨fuel, hf⟩ := h0
    exact open_V _ _ _ hf : ∃ (a0 : Bool) (a1 : Bool) (a2 : Bool), (Value.agg cs0).cells.toList = [.bool a0, .bool a1, .bool a2] ∧ True)
  replace ht0 : cs0 = #[.bool s0_0, .bool s0_1, .bool s0_2] := by
    simp [Value.cells] at ht0
    rw [← Array.toList_inj, ht0]
  subst ht0
  have k1 := h1
  have lt1 : ∀ x ∈ p1, x.block < W.heap.size := by obtain ⟨m, hm⟩ := k1; exact DataW.trod_lt m _ _ _ hm
  obtain ⟨A1, len1, cap1, rfl⟩ := okWide_slice Try.underlying42 (hval 1 42 v1 rfl rfl)
  obtain ⟨l1, hrd1, hwf1⟩ : ∃ l, Rd W 17 encAc A1 len1 l ∧ ∀ a ∈ l, Rd W 1 (ic .u8) a.A a.n a.L ∧ a.n ≤ a.cap ∧ a.cap ≤ maxLen ∧ ∀ x ∈ a.L, 0 ≤ x ∧ x ≤ 255 := by
    obtain ⟨fuel, hf⟩ := h1
    obtain ⟨A, len, cap, l, hcs, -, -, hrd, hwf, -⟩ := open_rows encAc (fun a => Rd W 1 (ic .u8) a.A a.n a.L ∧ a.n ≤ a.cap ∧ a.cap ≤ maxLen ∧ ∀ x ∈ a.L, 0 ≤ x ∧ x ≤ 255) Try.underlying42 (by kernel_rfl : Try.prog.cellsOf 48 = 17) (fun n cs' y h => open_act n cs' y h) (fun _ => rfl) hf
    simp [Value.cells] at hcs
    obtain ⟨rfl, rfl, rfl⟩ := hcs
    exact ⟨l, hrd, hwf⟩
  clear hA0 hval0
  refine (walk0 ⟨s0_0, s0_1, s0_2⟩ A1 len1 cap1 l1 W hrd1 hwf1).mono fun e W' ⟨he, bel⟩ => ?_
  subst he
  exact ⟨_, rfl, _, _, _, [], _, [], hW', trodAll_mk1 (shut_bool Try.underlying4 _), (trodAll_cons_mk (Below.trod laidOut (by kernel_rfl) (of_decide_eq_true (by kernel_rfl)) k0 bel lt0) (trodAll_cons_mk (Below.trod laidOut (by kernel_rfl) (of_decide_eq_true (by kernel_rfl)) k1 bel lt1) trodAll_mk0)), rfl, bel.frame _, fun h => by cases h⟩

theorem over : Rows.modePlaysRow.holds Try.pinned (OpenSpec.ofChange Rows.modePlaysSpec) :=
  OpenClaim.holds_of_wide 5 Try.f5 rfl rfl rfl rfl rfl rfl rfl ⟨rfl, rfl, rfl, rfl, rfl⟩ rfl rfl rfl rfl rfl (by kernel_rfl) Try.func5 (by kernel_rfl)
    (of_decide_eq_true (by kernel_rfl)) (by unfold Func.isWrapper; first | (rw [if_pos (by decide +kernel)]; kernel_rfl) | (rw [if_neg (by decide +kernel)]; exact ⟨rfl, rfl⟩))
    (fun os started H enc _ => lifted os started H enc)

theorem proved : Rows.ModePlaysSaid := over
#print axioms proved
end Go.Proofs.Ytieieinaijopnaa.modePlays
