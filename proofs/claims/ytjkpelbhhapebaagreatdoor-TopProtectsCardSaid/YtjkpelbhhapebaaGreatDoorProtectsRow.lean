/-
  A slice of whatever elements that came in, read as a list: plain lemmas on the form's own reading. No condition beyond what each states. For every script TopProtects returns true and leaves it as it was: the row and its tied card. No condition but the row's own (laid).
-/
import Derived.Test.YtjkpelbhhapebaaGreatDoorMem
import Derived.ProofKit
import Derived.OpenShut
import Derived.ShutString
import Derived.ChangeOld
import Derived.Below
import Derived.Deep.Slices
import Derived.Deep.Fields
import Derived.Test.YtjkpelbhhapebaaGreatDoorProtects
import Derived.Test.YtjkpelbhhapebaaGreatDoorCards
import Derived.Test.YtjkpelbhhapebaaGreatDoorTie
import Derived.WalkKit
import Derived.Deep.DeepHandedRow
import Derived.Lib.LaidTab
import Derived.Lib.SmallJoins
namespace Go.Proofs.YtjkpelbhhapebaaGreatDoor
open Go.RowKit Go.ChangeShapes Go.WideShapes Go.Deep

/-- A field's cell, as the walk spells it. -/
theorem fld {w : World} {ad : Addr} {m j : Nat} {u : Value} (h : w.cell? (ad.add (m + j)) = some u) (hj : j ≠ 0) : w.cell? ⟨(ad.add m).block, (ad.add m).off + j, none⟩ = some u := by
  rw [← addr_add] at h
  have e : (ad.add m).add j = ⟨(ad.add m).block, (ad.add m).off + j, none⟩ := by
    generalize ad.add m = q
    simp [Addr.add, hj]
  rwa [e] at h

section
variable {H : Type} {tok : TypeId × Value → H} {P : Program} {w : World} {base : Nat} {spare : Nat → Bool} {held : Bool}
/-- Each element's cells are those of some a. -/
theorem open_rows {α : Type} [Inhabited α] {t e : TypeId} {sz fuel : Nat} {cs : List Value} {x : DataW H × List MemPlace} (enc : α → List Value) (Wf : α → Prop) (ht : P.underlying t = some (.slice e)) (hC : P.cellsOf e = sz)
    (hT : ∀ n cs' y, DataW.trod tok P w base spare held n e cs' = some y → ∃ a, cs' = enc a ∧ Wf a) (he : ∀ a, (enc a).length = sz)
    (h : DataW.trod tok P w base spare held fuel t cs = some x) :
    ∃ (A : Option Addr) (len cap : Nat) (l : List α), cs = [.slice A len cap] ∧ len ≤ cap ∧ cap ≤ maxLen ∧ Rd w sz enc A len l ∧ (∀ a ∈ l, Wf a) ∧ ∀ ad, A = some ad → 0 < len → ad.block < w.heap.size ∨ sz = 0 := by
  rcases open_slice ht h with ⟨rfl, _⟩ | ⟨a, len, cap, m, n, D, Pl, rfl, _, hl, hm, hmm, _, hi⟩
  · exact ⟨none, 0, 0, [], rfl, Nat.le_refl _, by simp [maxLen], Rd.none_ _ _ _ _, fun a ha => (by cases ha), fun ad e => by cases e⟩
  · have hlm : len ≤ m := by rw [hmm]; split <;> omega
    rw [hC] at hi
    obtain ⟨V, hV⟩ := choose_lt (α := α) (p := fun i v => (∀ j, j < sz → w.cell? ((a.add (i * sz)).add j) = (enc v)[j]?) ∧ Wf v) (n := len) (fun i hil => by
      obtain ⟨cs', h1, h2⟩ := hi i (by omega)
      obtain ⟨v, rfl, hw⟩ := hT _ _ _ h2
      exact ⟨v, (World.cells?_some h1).2.2, hw⟩)
    have hcell : ∀ i, i < len → ∀ j u, (enc (V i))[j]? = some u → w.cell? (a.add (i * sz + j)) = some u := fun i hil j u hu => by
      have hj : j < sz := by
        have := (List.getElem?_eq_some_iff.1 hu).1
        rwa [he] at this
      have := (hV i hil).1 j hj
      rw [addr_add, hu] at this
      exact this
    refine ⟨some a, len, cap, (List.range len).map V, rfl, hl, hm, ⟨by simp, fun i hil => ⟨a, rfl, fun j u hu => ?_⟩⟩, fun x hx => ?_, fun ad e hp => ?_⟩
    · refine hcell i hil j u ?_
      rw [← hu, gi_eq _ _ (by simpa using hil)]
      simp
    · simp only [List.mem_map, List.mem_range] at hx
      obtain ⟨i, hil, rfl⟩ := hx
      exact (hV i hil).2
    · obtain rfl := Option.some.inj e
      by_cases hs : sz = 0
      · exact .inr hs
      · left
        have hne : 0 < (enc (V 0)).length := by rw [he]; omega
        have := World.block_lt_of_cell? w _ (hcell 0 hp 0 _ (List.getElem?_eq_getElem hne))
        have hb : (a.add (0 * sz + 0)).block = a.block := by simp [Addr.add]
        rwa [hb] at this
/-- A struct whose fields are one cell each: its cells, field by field. -/
theorem open_fields {e : TypeId} {fs : Array Field} {n : Nat} {cs' : List Value} {y : DataW H × List MemPlace} (he : P.underlying e = some (.struct fs)) (hone : oneCellFields P fs = true) (hC : P.cellsOf e = fs.size)
    (h : DataW.trod tok P w base spare held n e cs' = some y) : cs'.length = fs.size ∧ ∀ (j : Nat) (f : Field), fs[j]? = some f → ∃ v m z, cs'[j]? = some v ∧ DataW.trod tok P w base spare held m f.type [v] = some z := by
  obtain ⟨xs, m, _, _, hlen, hxl, hf⟩ := DataW.trod_struct he h
  rw [hC] at hlen
  refine ⟨hlen, fun j f hj => ?_⟩
  obtain ⟨ho, hk⟩ := hone_of hone j f hj
  have hjl : j < fs.size := (Array.getElem?_eq_some_iff.1 hj).1
  have h1 := hf j f hj
  rw [ho, hk] at h1
  have hone' : (cs'.drop j).take 1 = [cs'[j]'(by omega)] := by
    rw [List.drop_eq_getElem_cons (by omega)]
    rfl
  rw [hone'] at h1
  exact ⟨_, m, _, List.getElem?_eq_getElem (by omega), h1.trans (List.getElem?_eq_getElem (by omega))⟩
end
end Go.Proofs.YtjkpelbhhapebaaGreatDoor
namespace Go.Proofs.YtjkpelbhhapebaaGreatDoor.topProtects
open Go.ChangeShapes Go.WideShapes Go.ChangeAt Go.RowKit
open Go.ChangeMaps (open_string shut_string)
set_option linter.unusedVariables false

theorem own : ownKnob Tryz.prog.godebug = none := by kernel_rfl
theorem laidOut : laidOutB Tryz.prog = true := by kernel_rfl
theorem open_act {H : Type} {tok : TypeId × Value → H} {w : World} {base : Nat} {spare : Nat → Bool} {held : Bool} (n : Nat) (cs' : List Value) (y : DataW H × List MemPlace) (h : DataW.trod tok Tryz.prog w base spare held n 54 cs' = some y) :
    ∃ x : Wr, cs' = encW x ∧ OkWr w x := by
  obtain ⟨hl, hf⟩ := open_fields Tryz.underlying54 (by kernel_rfl) (by kernel_rfl) h
  obtain ⟨v0, m0, z0, e0, t0⟩ := hf 0 _ rfl
  obtain ⟨v1, m1, z1, e1, t1⟩ := hf 1 _ rfl
  obtain ⟨v2, m2, z2, e2, t2⟩ := hf 2 _ rfl
  obtain ⟨v3, m3, z3, e3, t3⟩ := hf 3 _ rfl
  obtain ⟨v4, m4, z4, e4, t4⟩ := hf 4 _ rfl
  obtain ⟨x0, r0, -, w0⟩ := DataW.trod_int Tryz.underlying5 t0
  obtain ⟨x1, r1, -, w1⟩ := DataW.trod_int Tryz.underlying5 t1
  obtain ⟨x2, r2, -, w2⟩ := DataW.trod_int Tryz.underlying5 t2
  obtain ⟨x3, r3, -, w3⟩ := DataW.trod_int Tryz.underlying5 t3
  obtain ⟨A, len, cap, l, r4, -, -, hrd, hwf, -⟩ := open_rows (ic .u8) (fun x : Int => 0 ≤ x ∧ x ≤ 255) Tryz.underlying22 (by kernel_rfl : Tryz.prog.cellsOf 5 = 1) (fun n cs' y h => by
    obtain ⟨x, r, -, wx⟩ := DataW.trod_int Tryz.underlying5 h
    exact ⟨x, r, bounds_u8 wx⟩) (ic_len _) t4
  simp only [List.cons.injEq, and_true] at r0 r1 r2 r3 r4
  subst r0 r1 r2 r3 r4
  refine ⟨⟨x0, x1, x2, x3, A, len, cap, l⟩, ?_, bounds_u8 w0, bounds_u8 w1, bounds_u8 w2, bounds_u8 w3, hwf, hrd⟩
  match cs', hl with
  | [c0, c1, c2, c3, c4], _ =>
    simp at e0 e1 e2 e3 e4
    subst e0 e1 e2 e3 e4
    rfl
set_option maxRecDepth 100000 in
theorem contract (H : Type) (enc : TypeId × Value → H) (W : World) (base : Nat) (args : Array Value) (ds gs : List (DataW H)) (before : List MemPlace)
    (hval : ∀ (j : Nat) t v, Tryz.f5.params[j]? = some t → args[j]? = some v → Value.okWide Tryz.prog W .any base t v)
    (hW : DataW.Whole enc Tryz.prog Tryz.f5.params.toList Rows.topProtectsSpec.vars false W args.toList ds gs before) :
    Calls Tryz.prog 5 args W fun e W' => ∃ v, e = .returned v ∧ Rows.topProtectsSpec.post enc Tryz.prog Tryz.f5 false true false false W args v W' := by
  have hW' := hW
  obtain ⟨p, q, hA0, hV, rfl, hfz, hnd⟩ := hW
  have hA : DataW.TrodAll enc Tryz.prog W 0 (fun _ => true) true Tryz.f5.params.toList args.toList ds p := hA0
  rw [Tryz.params5] at hA hval
  obtain ⟨v0, vs0, d0, ds0, p0, q0, hargs, rfl, rfl, h0, r0⟩ := trodAll_cons hA
  obtain ⟨v1, vs1, d1, ds1, p1, q1, rfl, rfl, rfl, h1, r1⟩ := trodAll_cons r0
  obtain ⟨v2, vs2, d2, ds2, p2, q2, rfl, rfl, rfl, h2, r2⟩ := trodAll_cons r1
  obtain ⟨rfl, rfl, rfl⟩ := trodAll_nil r2
  obtain rfl : args = #[v0, v1, v2] := by cases args; simp_all
  obtain ⟨rfl, rfl⟩ := trodVars_none hV
  obtain ⟨a0, rfl, rfl, rfl, w0⟩ := open_int Tryz.underlying5 (hval 0 5 v0 rfl rfl) h0
  obtain ⟨a1, len1, cap1, rfl⟩ := okWide_slice Tryz.underlying52 (hval 1 52 v1 rfl rfl)
  have k1 := h1
  have lt1 : ∀ x ∈ p1, x.block < W.heap.size := by obtain ⟨m, hm⟩ := k1; exact DataW.trod_lt m _ _ _ hm
  obtain ⟨l1, hrd1, hwf1⟩ : ∃ l, Rd W 5 encW a1 len1 l ∧ ∀ x ∈ l, OkWr W x := by
    obtain ⟨fuel, hf⟩ := h1
    obtain ⟨A, len, cap, l, hcs, -, -, hrd, hwf, -⟩ := open_rows encW (OkWr W) Tryz.underlying52 (by kernel_rfl : Tryz.prog.cellsOf 54 = 5) (fun n cs' y h => open_act n cs' y h) (fun _ => rfl) hf
    simp [Value.cells] at hcs
    obtain ⟨rfl, rfl, rfl⟩ := hcs
    exact ⟨l, hrd, hwf⟩
  obtain ⟨a2, rfl, rfl, rfl, w2⟩ := open_int Tryz.underlying30 (hval 2 30 v2 rfl rfl) h2
  clear hA0
  refine (walk0 a0 a2 a1 len1 cap1 l1 W (bounds_u8 w0) (bounds_u16 w2) hrd1 hwf1).mono fun e W' ⟨he, bel⟩ => ?_
  subst he
  exact ⟨_, rfl, _, _, _, [], _, [], hW', trodAll_mk1 (shut_bool Tryz.underlying4 _), (trodAll_cons_mk (shut_int Tryz.underlying5 w0) (trodAll_cons_mk (Below.trod laidOut (by kernel_rfl) (of_decide_eq_true (by kernel_rfl)) k1 bel lt1) (trodAll_cons_mk (shut_int Tryz.underlying30 w2) trodAll_mk0))), rfl, bel.frame _, fun h => by cases h⟩
def laid0 (o : Obj) : Obj := match o with
  | .cells _ t frozen => .cells (Go.Pinned.utf8FirstZ.map fun (n : Nat) => Value.int .u8 (n : Int)).toArray t frozen
  | o => o
def laid1 (o : Obj) : Obj := match o with
  | .cells _ t frozen => .cells #[.int .u8 128, .int .u8 191, .int .u8 160, .int .u8 191, .int .u8 128, .int .u8 159, .int .u8 144, .int .u8 191, .int .u8 128, .int .u8 143, .int .u8 0, .int .u8 0, .int .u8 0, .int .u8 0, .int .u8 0, .int .u8 0, .int .u8 0, .int .u8 0, .int .u8 0, .int .u8 0, .int .u8 0, .int .u8 0, .int .u8 0, .int .u8 0, .int .u8 0, .int .u8 0, .int .u8 0, .int .u8 0, .int .u8 0, .int .u8 0, .int .u8 0, .int .u8 0] t frozen
  | o => o
noncomputable def laidWorld (os : Os) : World :=
  { World.holding Tryz.prog os ⟨#[], #[], []⟩ with heap := ((World.holding Tryz.prog os ⟨#[], #[], []⟩).heap.modify 0 laid0).modify 1 laid1 }
theorem laid_met (os : Os) : laidMet Tryz.prog Rows.topProtectsRow.laid ((laidWorld os).forCall (fun _ _ => 0) ⟨#[], #[.int .u8 0, .slice none 0 0, .int .u16 0], []⟩).memory :=
  laidMet_of_run' 8 (by kernel_rfl) (by kernel_rfl)
theorem reads (os : Os) {H : Type} (enc : TypeId × Value → H) : ∃ places, DataW.whole enc Tryz.prog ((laidWorld os).forCall (fun _ _ => 0) ⟨#[], #[.int .u8 0, .slice none 0 0, .int .u16 0], []⟩).memory Tryz.f5.params.toList Rows.topProtectsSpec.vars false #[Value.int .u8 0, Value.slice none 0 0, Value.int .u16 0].toList 8 = some ([.lit (.int .u8 0), .nil, .lit (.int .u16 0)], [], places) :=
  ⟨[], by kernel_rfl⟩
set_option maxRecDepth 100000 in
theorem lifted (os : Os) (started : os.Started) (H : Type) (enc : TypeId × Value → H) (F : Stop.Interp) :
    ReturnsInHanded {} Tryz.checked os 5 .any ((OpenSpec.ofChange Rows.topProtectsSpec).preRow enc Tryz.prog Tryz.f5 Rows.topProtectsRow.domain false Rows.topProtectsRow.laid) (((OpenSpec.ofChange Rows.topProtectsSpec).at F).post enc Tryz.prog Tryz.f5 false true false false) := by
  obtain ⟨places, hx⟩ := reads os enc
  refine returnsInHanded_of_row (C := Tryz.checked) (s := OpenSpec.ofChange Rows.topProtectsSpec) own started (by kernel_rfl) Tryz.func5
    (witness_row_at (enc := enc) (C := Tryz.checked) false (laidWorld os) #[.int .u8 0, .slice none 0 0, .int .u16 0] rfl (by kernel_rfl) (by kernel_rfl) (by kernel_rfl)
      (OpenSpec.preRow_of_cond 8 hx (by kernel_rfl) (fun k hk => by cases hk) (by kernel_rfl) (laid_met os))) ?_
  intro W base args ds gs before hval hW _ _ _ _ _ _
  exact contract H enc W base args ds gs before hval hW
theorem said : Rows.TopProtectsSaid :=
  OpenClaim.holds_of_cond 5 Tryz.f5 rfl rfl rfl rfl rfl rfl rfl ⟨rfl, rfl, rfl, rfl, rfl⟩ rfl rfl rfl rfl rfl (by kernel_rfl) Tryz.func5 (by kernel_rfl)
    (of_decide_eq_true (by kernel_rfl)) (by unfold Func.isWrapper; first | (rw [if_pos (by decide +kernel)]; kernel_rfl) | (rw [if_neg (by decide +kernel)]; exact ⟨rfl, rfl⟩))
    (fun os started H enc _ F => by rw [OpenClaim.pre_eq_preRow]; exact lifted os started H enc F)
theorem plain (f : FuncId) (fn : Func) (hf : Tryz.pinned.checked.prog.funcNamed "pallet/pallettop.TopProtects" = some f) (hfn : Tryz.pinned.checked.prog.funcs[f]? = some fn) :
    true = Tryz.pinned.checked.prog.looks [] ∧ ∀ (j : Nat) t, fn.params[j]? = some t → Tryz.pinned.checked.prog.wantsStandIn t = false := by
  obtain rfl : f = 5 := Option.some.inj ((show Tryz.prog.funcNamed "pallet/pallettop.TopProtects" = some 5 by kernel_rfl).symm.trans hf) |>.symm
  obtain rfl : fn = Tryz.f5 := (Option.some.inj (Tryz.func5.symm.trans hfn)).symm
  refine ⟨by kernel_rfl, fun j t ht => ?_⟩
  rw [Tryz.params5] at ht
  have ht' : t = 5 ∨ t = 52 ∨ t = 30 := by simpa using Array.mem_of_getElem? ht
  rcases ht' with rfl | rfl | rfl
  · exact (show Tryz.prog.wantsStandIn 5 = false by kernel_rfl)
  · exact (show Tryz.prog.wantsStandIn 52 = false by kernel_rfl)
  · exact (show Tryz.prog.wantsStandIn 30 = false by kernel_rfl)
/-- THE CARD. -/
theorem proved : Rows.TopProtectsCardSaid :=
  Claim7.holds_tied_plain_at .later [] _ _ _ _ said (fun _ h => by cases h) (by kernel_rfl) (fun _ h => by cases h) topProtects_row_tie rfl ⟨rfl, rfl⟩ (by kernel_rfl) rfl plain (by kernel_rfl)
#print axioms proved
end Go.Proofs.YtjkpelbhhapebaaGreatDoor.topProtects
