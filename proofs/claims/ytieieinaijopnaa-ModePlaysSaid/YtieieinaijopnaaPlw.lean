/-
  Words for the walk of ModePlays: the reference's Select of any bytes; senses by ==; an act in its box. No condition beyond what each states.
-/
import Derived.Test.YtieieinaijopnaaRSelF
import Derived.Test.YtieieinaijopnaaRSelT
import Derived.Test.YtieieinaijopnaaSAll
import Derived.Test.YtieieinaijopnaaKeeps
import Derived.Laws.StructEq
namespace Go.Proofs.Ytieieinaijopnaa
open Go.RowKit
theorem rselect_any (p : Nat) (c : C) (A : Option Addr) (len cap : Nat) (L : List Int) (n s : V) (w : World) (hpg : RG w p (bitsV n) (bitsV s)) (hlc : len ≤ cap) (hcm : cap ≤ maxLen) (hr : Rd w 1 (ic .u8) A len L) (hb : ∀ x ∈ L, 0 ≤ x ∧ x ≤ 255) :
    Calls Try.prog 16 #[.pointer (some ⟨p, 0, none⟩), cv c, .slice A len cap] w (RSelPost p L c.long c.save n s w) := by
  rcases Nat.eq_zero_or_pos len with h0 | h0
  · subst h0
    exact rselect_empty p c A cap L n s w hpg hr.1
  · obtain ⟨ad, rfl, -⟩ := hr.2 0 h0
    cases hl : c.long
    · exact rselect_F p c ad len cap L n s w hpg hl h0 hlc hcm hr hb
    · exact rselect_T p c ad len cap L n s w hpg hl h0 hlc hcm hr hb
/-- Both Selects of the same bytes answer alike. -/
theorem rselect_like (p : Nat) (c : C) (A : Option Addr) (len cap : Nat) (L : List Int) (n s : V) (w : World) (hpg : RG w p (bitsV n) (bitsV s)) (hlc : len ≤ cap) (hcm : cap ≤ maxLen) (hr : Rd w 1 (ic .u8) A len L) (hb : ∀ x ∈ L, 0 ≤ x ∧ x ≤ 255)
    {ch ok : Bool} {sn : SN} {n' s' : V} (hs : SelR L c.long c.save n s ch sn ok n' s') :
    Calls Try.prog 16 #[.pointer (some ⟨p, 0, none⟩), cv c, .slice A len cap] w fun e w' =>
      e = .returned (.tuple #[.bool ch, .agg #[.int .u8 sn.key, .int .u16 sn.code, .int .u64 0, .bool false, .int .i64 sn.field, .int .i64 sn.bit, .bool sn.has, .bool sn.cmd], .bool ok]) ∧ RG w' p (bitsV n') (bitsV s') ∧ Mod (fun k => k = p) w w' :=
  (rselect_any p c A len cap L n s w hpg hlc hcm hr hb).mono fun e w' ⟨ch2, sn2, ok2, n2, s2, hR, he, h1, h2⟩ => by
    obtain ⟨rfl, rfl, rfl, rfl, rfl⟩ := hR.uniq hs
    exact ⟨he, h1, h2⟩
theorem und31 : Try.prog.underlying 31 = some (.struct (Try.prog.fieldsOf 31)) := by kernel_rfl
theorem stood31 : Try.prog.stoodInHeld 31 = false := by kernel_rfl
theorem part_run (t : TypeId) (cs : Array Value) (off : Nat) (v : Value) (w : World) (ha : (Sem.run Try.prog (isAgg t) w) = .ok false w) (hc : cs[off]? = some v) : (part t cs off).run Try.prog w = .ok v w := by
  simp [part, ha, hc]
/-- A sense is alike to itself. -/
theorem eqIn31s (k c f b : Int) (h m : Bool) (w : World) : (Op.equalIn 10000 31 (.agg #[.int .u8 k, .int .u16 c, .int .u64 0, .bool false, .int .i64 f, .int .i64 b, .bool h, .bool m]) (.agg #[.int .u8 k, .int .u16 c, .int .u64 0, .bool false, .int .i64 f, .int .i64 b, .bool h, .bool m])).run Try.prog w = .ok true w := by
  have q3 : ∀ w, (Sem.run Try.prog (isAgg 3) w) = .ok false w := fun w => by simp [isAgg, go_sem]
  have q4 : ∀ w, (Sem.run Try.prog (isAgg 4) w) = .ok false w := fun w => by simp [isAgg, go_sem]
  have q5 : ∀ w, (Sem.run Try.prog (isAgg 5) w) = .ok false w := fun w => by simp [isAgg, go_sem]
  have q28 : ∀ w, (Sem.run Try.prog (isAgg 28) w) = .ok false w := fun w => by simp [isAgg, go_sem]
  have q29 : ∀ w, (Sem.run Try.prog (isAgg 29) w) = .ok false w := fun w => by simp [isAgg, go_sem]
  have e3 : ∀ x w, (Op.equalIn 9999 3 (.int .i64 x) (.int .i64 x)).run Try.prog w = .ok true w := fun x w => by rw [run_equalIn_int w 9998 3 _ _ x x Try.underlying3, beq_self_eq_true]
  have e5 : ∀ x w, (Op.equalIn 9999 5 (.int .u8 x) (.int .u8 x)).run Try.prog w = .ok true w := fun x w => by rw [run_equalIn_int w 9998 5 _ _ x x Try.underlying5, beq_self_eq_true]
  have e28 : ∀ x w, (Op.equalIn 9999 28 (.int .u16 x) (.int .u16 x)).run Try.prog w = .ok true w := fun x w => by rw [run_equalIn_int w 9998 28 _ _ x x Try.underlying28, beq_self_eq_true]
  have e29 : ∀ x w, (Op.equalIn 9999 29 (.int .u64 x) (.int .u64 x)).run Try.prog w = .ok true w := fun x w => by rw [run_equalIn_int w 9998 29 _ _ x x Try.underlying29, beq_self_eq_true]
  have e4 : ∀ x w, (Op.equalIn 9999 4 (.bool x) (.bool x)).run Try.prog w = .ok true w := fun x w => by rw [run_equalIn_bool w 9998 4 x x Try.underlying4, beq_self_eq_true]
  obtain ⟨X, hX⟩ : ∃ X : Array Value, X = #[.int .u8 k, .int .u16 c, .int .u64 0, .bool false, .int .i64 f, .int .i64 b, .bool h, .bool m] := ⟨_, rfl⟩
  have p0 : ∀ w, (part 5 X 0).run Try.prog w = .ok (.int .u8 k) w := fun w => part_run _ _ _ _ w (q5 w) (by rw [hX]; rfl)
  have p1 : ∀ w, (part 28 X 1).run Try.prog w = .ok (.int .u16 c) w := fun w => part_run _ _ _ _ w (q28 w) (by rw [hX]; rfl)
  have p2 : ∀ w, (part 29 X 2).run Try.prog w = .ok (.int .u64 0) w := fun w => part_run _ _ _ _ w (q29 w) (by rw [hX]; rfl)
  have p3 : ∀ w, (part 4 X 3).run Try.prog w = .ok (.bool false) w := fun w => part_run _ _ _ _ w (q4 w) (by rw [hX]; rfl)
  have p4 : ∀ w, (part 3 X 4).run Try.prog w = .ok (.int .i64 f) w := fun w => part_run _ _ _ _ w (q3 w) (by rw [hX]; rfl)
  have p5 : ∀ w, (part 3 X 5).run Try.prog w = .ok (.int .i64 b) w := fun w => part_run _ _ _ _ w (q3 w) (by rw [hX]; rfl)
  have p6 : ∀ w, (part 4 X 6).run Try.prog w = .ok (.bool h) w := fun w => part_run _ _ _ _ w (q4 w) (by rw [hX]; rfl)
  have p7 : ∀ w, (part 4 X 7).run Try.prog w = .ok (.bool m) w := fun w => part_run _ _ _ _ w (q4 w) (by rw [hX]; rfl)
  rw [← hX, run_equalIn_agg _ _ _ _ _ und31 stood31]
  simp only [Program.fieldsOf, Try.underlying31]
  simp only [Op.eqFields, Sem.run_bind, p0, p1, p2, p3, p4, p5, p6, p7, e3, e4, e5, e28, e29, Result.andThen_ok, Sem.run_ite, Sem.run_pure]
  rfl
/-- What Sense tells: its bytes, its sense, did it go well. -/
def saysL (c : C) (n s : V) : List Int := if c.page = 8 ∨ c.page = 10 ∨ c.page = 63 then senseL c n s else []
def saysS (c : C) : SN := if c.page = 8 ∨ c.page = 10 ∨ c.page = 63 then noSense else ⟨5, 9216, 2, 5, true, true⟩
def saysB (c : C) : Bool := decide (c.page = 8 ∨ c.page = 10 ∨ c.page = 63)
theorem Says.told {c : C} {n s : V} {w w' : World} {e : Ending} (h : Says c n s w e w') : ∃ A cap, e = .returned (.tuple #[.slice A (saysL c n s).length cap, .agg #[.int .u8 (saysS c).key, .int .u16 (saysS c).code, .int .u64 0, .bool false, .int .i64 (saysS c).field, .int .i64 (saysS c).bit, .bool (saysS c).has, .bool (saysS c).cmd], .bool (saysB c)]) ∧
    Rd w' 1 (ic .u8) A (saysL c n s).length (saysL c n s) ∧ Mod (fun _ => False) w w' := by
  unfold Says at h
  unfold saysL saysS saysB
  by_cases hp : c.page = 8 ∨ c.page = 10 ∨ c.page = 63
  · simp only [if_pos hp] at h ⊢
    obtain ⟨g, cap, he, hr, hm, -⟩ := h
    exact ⟨some ⟨g, 0, none⟩, cap, by rw [he, decide_eq_true hp]; rfl, hr.rd (ic_len _) rfl, hm⟩
  · simp only [if_neg hp] at h ⊢
    obtain ⟨he, hm⟩ := h
    exact ⟨none, 0, by rw [he, decide_eq_false hp]; rfl, Rd.none_ _ _ _ _, hm⟩
theorem sense_told (p : Nat) (c : C) (n s : V) (w : World) (hpg : PG w p n s) : Calls Try.prog 10 #[.pointer (some ⟨p, 0, none⟩), cv c] w fun e w' => ∃ A cap, e = .returned (.tuple #[.slice A (saysL c n s).length cap, .agg #[.int .u8 (saysS c).key, .int .u16 (saysS c).code, .int .u64 0, .bool false, .int .i64 (saysS c).field, .int .i64 (saysS c).bit, .bool (saysS c).has, .bool (saysS c).cmd], .bool (saysB c)]) ∧
    Rd w' 1 (ic .u8) A (saysL c n s).length (saysL c n s) ∧ Mod (fun _ => False) w w' := (sense_any p c n s w hpg).mono fun _ _ h => h.told
theorem rsense_told (p : Nat) (c : C) (n s : V) (w : World) (hpg : RG w p (bitsV n) (bitsV s)) : Calls Try.prog 17 #[.pointer (some ⟨p, 0, none⟩), cv c] w fun e w' => ∃ A cap, e = .returned (.tuple #[.slice A (saysL c n s).length cap, .agg #[.int .u8 (saysS c).key, .int .u16 (saysS c).code, .int .u64 0, .bool false, .int .i64 (saysS c).field, .int .i64 (saysS c).bit, .bool (saysS c).has, .bool (saysS c).cmd], .bool (saysB c)]) ∧
    Rd w' 1 (ic .u8) A (saysL c n s).length (saysL c n s) ∧ Mod (fun _ => False) w w' := (rsense_any p c n s w hpg).mono fun _ _ h => h.told
/-- An act of the script: is it a Select, the command, the bytes. -/
structure Ac where
  sel : Bool
  c : C
  A : Option Addr
  n : Nat
  cap : Nat
  L : List Int
instance : Inhabited Ac := ⟨⟨false, ⟨0, false, 0, 0, 0, false, 0, false, false, 0, 0, false, 0, 0, false⟩, none, 0, 0, []⟩⟩
def ca (a : Ac) : Array Value := #[.bool a.sel, .int .u8 a.c.kind, .bool a.c.long, .int .u64 a.c.lba, .int .u64 a.c.blocks, .int .i64 a.c.alloc, .bool a.c.fua, .int .u8 a.c.prot, .bool a.c.unmap, .bool a.c.evpd, .int .u8 a.c.page, .int .u8 a.c.control, .bool a.c.save, .int .u8 a.c.service, .int .u8 a.c.type, .bool a.c.bytes, .slice a.A a.n a.cap]
def encAc (a : Ac) : List Value := (ca a).toList
theorem size48 : (Try.prog.info? 48).map (·.size) = some 17 := by kernel_rfl
/-- The act's box. -/
def BA (W : World) (b : Nat) (a : Ac) : Prop := W.heap[b]? = some (.cells (ca a) 48 (0, 0))
theorem BA.mod {W W' : World} {b : Nat} {a : Ac} {F : Nat → Prop} (h : BA W b a) (hm : Mod F W W') (hF : ¬ F b) : BA W' b a := hm.heap h hF
theorem BA.cells {W : World} {b : Nat} {a : Ac} (h : BA W b a) : W.cell? ⟨b, 0, none⟩ = some (.bool a.sel) ∧ W.cell? ⟨b, 16, none⟩ = some (.slice a.A a.n a.cap) := by
  constructor <;> (rw [cell_of_row W b _ _ 48 (0, 0) h]; rfl)
theorem BA.lt {W : World} {b : Nat} {a : Ac} (h : BA W b a) : b < W.heap.size := (Array.getElem?_eq_some_iff.1 h).1
section
variable {ops : Array Oper} {rest : List Oper} {o : Oper} {a : Act} {w : World} {Q : Exit → Act → World → Prop}
/-- The command in the act's box, read whole. -/
theorem load_cmd2 (x : Ac) (y : Operand) (g : Nat) (ho : o.op = .load 36 y) (hg : o.guard = none) (hx : a.eval y = .pointer (some ⟨g, 1, none⟩)) (hh : BA w g x)
    (h : wpList Try.prog ops Q rest (a.put o.dst (.agg (cc x.c))) w) : wpList Try.prog ops Q (o :: rest) a w :=
  list_load 36 y ho hg _ Try.underlying36 rfl ⟨g, 1, none⟩ (cc x.c).toList (by kernel_rfl) hx (fun j u hu => by
    have e : Addr.add ⟨g, 1, none⟩ j = ⟨g, 1 + j, none⟩ := by unfold Addr.add; split <;> simp_all
    have hj : j < 15 := (List.getElem?_eq_some_iff.1 hu).1
    rw [e, cell_of_row w g (1 + j) _ 48 (0, 0) hh]
    match j, hj with
    | 0, _ | 1, _ | 2, _ | 3, _ | 4, _ | 5, _ | 6, _ | 7, _ | 8, _ | 9, _ | 10, _ | 11, _ | 12, _ | 13, _ | 14, _ => exact hu) (by simpa using h)
end
end Go.Proofs.Ytieieinaijopnaa
