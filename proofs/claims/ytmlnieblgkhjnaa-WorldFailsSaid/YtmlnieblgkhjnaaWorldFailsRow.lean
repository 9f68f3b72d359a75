/-
  For all arguments WorldFails returns true and leaves its arguments as they were: the row's frame (after the kit's skeleton) over the walk in YtmlnieblgkhjnaaFails. No condition.
-/
import Derived.Test.YtmlnieblgkhjnaaFails
import Derived.Test.YtmlnieblgkhjnaaOpen
namespace Go.Proofs.Ytmlnieblgkhjnaa.worldFails
open Go.ChangeShapes Go.WideShapes Go.ChangeAt Go.RowKit Go.Deep
open Go.ChangeMaps (open_string shut_string)
set_option linter.unusedVariables false

theorem own : ownKnob Try.prog.godebug = none := by kernel_rfl
theorem laidOut : laidOutB Try.prog = true := by kernel_rfl
theorem open_el5 {H : Type} {tok : TypeId × Value → H} {w : World} {base : Nat} {spare : Nat → Bool} {held : Bool} (n : Nat) (cs' : List Value) (y : DataW H × List MemPlace) (h : DataW.trod tok Try.prog w base spare held n 5 cs' = some y) :
    ∃ a : Int, cs' = ic .u8 a ∧ (Lit.int .u8 a).wf = true := by
  obtain ⟨x, r, -, wf⟩ := DataW.trod_int Try.underlying5 h
  exact ⟨x, r, wf⟩
theorem open_el23 {H : Type} {tok : TypeId × Value → H} {w : World} {base : Nat} {spare : Nat → Bool} {held : Bool} (n : Nat) (cs' : List Value) (y : DataW H × List MemPlace) (h : DataW.trod tok Try.prog w base spare held n 23 cs' = some y) :
    ∃ p : Pc, cs' = encP p ∧ Rd w 1 (ic .u8) p.A p.n p.l := by
  obtain ⟨A, len, cap, l, hcs, hlc, hcm, hrd, hwf, hbk⟩ := open_rows (ic .u8) (fun a => (Lit.int .u8 a).wf = true) Try.underlying23 (by kernel_rfl : Try.prog.cellsOf 5 = 1) (fun n cs' y h => open_el5 n cs' y h) (fun _ => rfl) h
  exact ⟨⟨A, len, cap, l⟩, hcs, hrd⟩

theorem lifted (os : Os) (started : os.Started) (H : Type) (enc : TypeId × Value → H) :
    ReturnsInHanded {} Try.checked os 3 .any (Rows.worldFailsSpec.pre6 enc Try.prog Try.f3 Rows.worldFailsRow.domain false) (Rows.worldFailsSpec.post enc Try.prog Try.f3 false true false false) := by
  refine returnsInHanded_of_change (C := Try.checked) own started (by kernel_rfl) Try.func3
    (ChangeSpec.witness6 (enc := enc) (C := Try.checked) false ⟨#[], #[.slice none 0 0, .slice none 0 0], []⟩ 8 (by kernel_rfl) (by kernel_rfl) (by kernel_rfl) (by kernel_rfl)) ?_
  intro W base args ds gs before hval0 hW hcnd _
  have hval : ∀ (j : Nat) t v, Try.f3.params[j]? = some t → args[j]? = some v → Value.okWide Try.prog W .any base t v := hval0
  have hW' := hW
  obtain ⟨p, q, hA0, hV, rfl, hfz, hnd⟩ := hW
  have hA : DataW.TrodAll enc Try.prog W 0 (fun _ => true) true Try.f3.params.toList args.toList ds p := hA0
  rw [Try.params3] at hA hval
  obtain ⟨v0, vs0, d0, ds0, p0, q0, hargs, rfl, rfl, h0, r0⟩ := trodAll_cons hA
  obtain ⟨v1, vs1, d1, ds1, p1, q1, rfl, rfl, rfl, h1, r1⟩ := trodAll_cons r0
  obtain ⟨rfl, rfl, rfl⟩ := trodAll_nil r1
  obtain rfl : args = #[v0, v1] := by cases args; simp_all
  obtain ⟨rfl, rfl⟩ := trodVars_none hV
  have k0 := h0
  have lt0 : ∀ x ∈ p0, x.block < W.heap.size := by obtain ⟨m, hm⟩ := k0; exact DataW.trod_lt m _ _ _ hm
  obtain ⟨A0, len0, cap0, rfl⟩ := okWide_slice Try.underlying22 (hval 0 22 v0 rfl rfl)
  obtain ⟨l0, hrd0, hwf0⟩ : ∃ l : List Pc, Rd W 1 encP A0 len0 l ∧ ∀ p ∈ l, Rd W 1 (ic .u8) p.A p.n p.l := by
    obtain ⟨fuel, hf⟩ := h0
    obtain ⟨A, len, cap, l, hcs, hlc, hcm, hrd, hwf, hbk⟩ := open_rows encP (fun p => Rd W 1 (ic .u8) p.A p.n p.l) Try.underlying22 (by kernel_rfl : Try.prog.cellsOf 23 = 1) (fun n cs' y h => open_el23 n cs' y h) (fun _ => rfl) hf
    simp [Value.cells] at hcs
    obtain ⟨rfl, rfl, rfl⟩ := hcs
    exact ⟨l, hrd, hwf⟩
  have k1 := h1
  have lt1 : ∀ x ∈ p1, x.block < W.heap.size := by obtain ⟨m, hm⟩ := k1; exact DataW.trod_lt m _ _ _ hm
  obtain ⟨A1, len1, cap1, rfl⟩ := okWide_slice Try.underlying23 (hval 1 23 v1 rfl rfl)
  obtain ⟨l1, hlc1, hcm1, hrd1, hwf1, hbk1⟩ : ∃ l, len1 ≤ cap1 ∧ cap1 ≤ maxLen ∧ Rd W 1 (ic .u8) A1 len1 l ∧ (∀ x ∈ l, (Lit.int .u8 x).wf = true) ∧ ∀ ad, A1 = some ad → 0 < len1 → ad.block < W.heap.size := by
    obtain ⟨fuel, hf⟩ := h1
    obtain ⟨A, len, cap, l, hcs, hlc, hcm, hrd, hwf, hbk⟩ := open_rows (ic .u8) (fun a => (Lit.int .u8 a).wf = true) Try.underlying23 (by kernel_rfl : Try.prog.cellsOf 5 = 1) (fun n cs' y h => open_el5 n cs' y h) (fun _ => rfl) hf
    simp [Value.cells] at hcs
    obtain ⟨rfl, rfl, rfl⟩ := hcs
    exact ⟨l, hlc, hcm, hrd, hwf, fun ad h1 h2 => (hbk ad h1 h2).resolve_right (by decide)⟩
  clear hA0 hval0
  refine (walk0 A0 len0 cap0 l0 A1 len1 cap1 l1 W hrd0 hwf0 hrd1 (fun x hx => bounds_u8 (hwf1 x hx))).mono fun e W' ⟨he, bel⟩ => ?_
  subst he
  exact ⟨_, rfl, _, _, _, [], _, [], hW', trodAll_mk1 (shut_bool Try.underlying4 _), (trodAll_cons_mk (Below.trod laidOut (by kernel_rfl) (of_decide_eq_true (by kernel_rfl)) k0 bel lt0) (trodAll_cons_mk (Below.trod laidOut (by kernel_rfl) (of_decide_eq_true (by kernel_rfl)) k1 bel lt1) trodAll_mk0)), rfl, bel.frame _, fun h => by cases h⟩

theorem over : Rows.worldFailsRow.holds Try.pinned (OpenSpec.ofChange Rows.worldFailsSpec) :=
  OpenClaim.holds_of_wide 3 Try.f3 rfl rfl rfl rfl rfl rfl rfl ⟨rfl, rfl, rfl, rfl, rfl⟩ rfl rfl rfl rfl rfl (by kernel_rfl) Try.func3 (by kernel_rfl)
    (of_decide_eq_true (by kernel_rfl)) (by unfold Func.isWrapper; first | (rw [if_pos (by decide +kernel)]; kernel_rfl) | (rw [if_neg (by decide +kernel)]; exact ⟨rfl, rfl⟩))
    (fun os started H enc _ => lifted os started H enc)

theorem proved : Rows.WorldFailsSaid := over
#print axioms proved
end Go.Proofs.Ytmlnieblgkhjnaa.worldFails
