/-
  sense.Form, sense.Fixed, inq.Cut, walked: of a sense with a key and a code alone. Conditions: as stated. The table's own steps: Types, free, set, clear, walked. Conditions: the table stands in memory; its list is not long. The table's set: a nexus has a key, or none. Conditions: the table stands in memory; its list is not long. The table's services reserve, release, clear, walked. Conditions: the table stands in memory as the unit lets it be. The table's clear and register, walked. Conditions: the table stands in memory as the unit lets it be. The table's register, walked. Conditions: the table stands in memory as the unit lets it be. The table's preempt, walked. Conditions: the table stands in memory as the unit lets it be.
-/
import Derived.Test.YtjkpelbhhapebaaGreatDoorUnit1
import Derived.BigRegion
import Derived.Test.YtjkpelbhhapebaaGreatDoorTLast
namespace Go.Proofs.YtjkpelbhhapebaaGreatDoor
open Go.RowKit
set_option maxRecDepth 100000
set_option maxHeartbeats 1000000 in
theorem sform_any (key code : Int) (hk : key = 0 ∨ key = 6) (w : World) : Calls Tryz.prog 78 #[.agg (seA key code 0 false)] w fun e w' => e = .returned (.bool true) ∧ Mod (fun _ => False) w w' := by
  have hM : Hid (Mod (fun _ => False) w (w.alloc (.cells (seA key code 0 false) 33))) := hide ((Mod.refl _ w).alloc _)
  rcases hk with rfl | rfl
  all_goals
    go_enter Tryz.func78, Tryz.ntmps78
    go_wp2
    go_ret
    exact ⟨rfl, hM.out⟩
set_option maxHeartbeats 4000000 in
theorem cut_any (A : Addr) (n c : Nat) (al : Int) (l : List Int) (w : World) (hr : Rd w 1 (ic .u8) (some A) n l) (hnc : n ≤ c) (hl : n ≤ 100000) (h0 : 0 ≤ al) :
    Calls Tryz.prog 54 #[.slice (some A) n c, .int .i64 al] w fun e w' => ∃ A' m c', e = .returned (.slice A' m c') ∧ Row w' 5 1 (ic .u8) (.slice A' m c') (l.take al.toNat) ∧ (∀ k, (Value.slice A' m c').ownBlock = some k → w.heap.size ≤ k) ∧ Mod (fun _ => False) w w' := by
  have hll : l.length = n := hr.1
  have d0 : decide (al < 0) = false := by simp; omega
  obtain ⟨m, hm⟩ : ∃ m : Nat, (m : Int) = al := ⟨al.toNat, by omega⟩
  subst hm
  rw [Int.toNat_natCast]
  by_cases hlt : n < m
  · have d1 : decide ((n : Int) < m) = true := by simpa using hlt
    have ht : l.take m = l := List.take_of_length_le (by omega)
    rw [ht]
    replace hr := hide hr
    clear ht
    go_enter Tryz.func54, Tryz.ntmps54
    go_wp2_with (first
      | (at_builtin; refine list_app (.const (.slice none 0 0)) (.tmp 11) 22 5 _ 1 1 (ic .u8) rfl rfl (ic_len _) (ic_one _) Tryz.underlying22 elemU8 (.slice none 0 0) [] (some A) n c l rfl rfl (Row.nil _ _ _ _) hr.out ?_ ?_ ?_
         (simp [maxLen]; omega)
         (simp; omega)
         intro v2 w2 r2 g2 a2
         have hM2 : Mod (fun _ => False) w w2 := (Mod.refl _ w).grown g2 (fun j hj => by simp [Value.ownBlock] at hj)
         have hn2 : ∀ k, v2.ownBlock = some k → w.heap.size ≤ k := fun k hk => by
           rcases a2 with e | e
           · rw [e] at hk; simp [Value.ownBlock] at hk
           · rw [e] at hk; injection hk with hk; omega
         obtain ⟨A2, n2, c2, rfl⟩ := r2.form
         replace r2 := hide r2; replace hM2 := hide hM2; replace hn2 := hide hn2))
    go_ret
    exact ⟨_, _, _, rfl, by simpa using r2.out, hn2.out, hM2.out⟩
  · have d1 : decide ((n : Int) < m) = false := by simpa using hlt
    have hmn : m ≤ n := by omega
    have hmc : m ≤ c := by omega
    have hr2 : Rd w 1 (ic .u8) (some A) m (l.take m) := hr.take m hmn
    have htl : (l.take m).length = m := by simp; omega
    replace hr := hide hr; replace hr2 := hide hr2; replace htl := hide htl
    go_enter Tryz.func54, Tryz.ntmps54
    go_wp2_with (first
      | (at_builtin; refine list_app (.const (.slice none 0 0)) (.tmp 11) 22 5 _ 1 1 (ic .u8) rfl rfl (ic_len _) (ic_one _) Tryz.underlying22 elemU8 (.slice none 0 0) [] (some A) m c (l.take m) rfl rfl (Row.nil _ _ _ _) hr2.out ?_ ?_ ?_
         (simp [maxLen]; omega)
         (simp; omega)
         intro v2 w2 r2 g2 a2
         have hM2 : Mod (fun _ => False) w w2 := (Mod.refl _ w).grown g2 (fun j hj => by simp [Value.ownBlock] at hj)
         have hn2 : ∀ k, v2.ownBlock = some k → w.heap.size ≤ k := fun k hk => by
           rcases a2 with e | e
           · rw [e] at hk; simp [Value.ownBlock] at hk
           · rw [e] at hk; injection hk with hk; omega
         obtain ⟨A2, n2, c2, rfl⟩ := r2.form
         replace r2 := hide r2; replace hM2 := hide hM2; replace hn2 := hide hn2))
    go_ret
    exact ⟨_, _, _, rfl, by simpa using r2.out, hn2.out, hM2.out⟩
abbrev z18 : Array Value := #[(.int .u8 0 : Value), .int .u8 0, .int .u8 0, .int .u8 0, .int .u8 0, .int .u8 0, .int .u8 0, .int .u8 0, .int .u8 0, .int .u8 0, .int .u8 0, .int .u8 0, .int .u8 0, .int .u8 0, .int .u8 0, .int .u8 0, .int .u8 0, .int .u8 0]
theorem make18 (w : World) : (Instr.makeSlice 22 (.int .i64 18) (.int .i64 18)).run Tryz.prog w = .ok (.slice (some ⟨w.heap.size, 0, none⟩) 18 18) (w.alloc (.cells #[(.int .u8 0 : Value), .int .u8 0, .int .u8 0, .int .u8 0, .int .u8 0, .int .u8 0, .int .u8 0, .int .u8 0, .int .u8 0, .int .u8 0, .int .u8 0, .int .u8 0, .int .u8 0, .int .u8 0, .int .u8 0, .int .u8 0, .int .u8 0, .int .u8 0] 5)) := by kernel_rfl
set_option maxHeartbeats 8000000 in
theorem fixed_any (key code : Int) (hk : key = 0 ∨ key = 6) (w : World) : Calls Tryz.prog 52 #[.agg (seA key code 0 false)] w fun e w' => ∃ g D, e = .returned (.tuple #[.slice (some ⟨g, 0, none⟩) 18 18, .int .i64 0]) ∧ Row w' 5 1 (ic .u8) (.slice (some ⟨g, 0, none⟩) 18 18) D ∧ w.heap.size ≤ g ∧ Mod (fun _ => False) w w' := by
  have hfm := fun W => sform_any key code hk W
  have hmk := make18
  replace hfm := hide hfm
  clear hk
  go_enter Tryz.func52, Tryz.ntmps52
  go_wp2_with (first
    | (refine list_box 33 (.tmp 0) rfl rfl (seA key code 0 false) rfl ?_
       intro w1 g hg h1 m1 hz
       replace hg := hide hg; replace h1 := hide h1; replace m1 := hide m1; replace hz := hide hz)
    | (refine list_whole 33 (.tmp 1) rfl rfl ⟨g, 0, none⟩ (seA key code 0 false) rfl (load_whole h1.out Tryz.underlying33 rfl size33) ?_)
    | (go_at_call 78; (with_reducible refine (hfm.out _).mono ?_); rintro e w2 ⟨rfl, m2⟩
       have h2 := m2.heap h1.out (fun e => e)
       have k0 : w2.cell? ⟨g, 0, none⟩ = some (.int .u8 key) := by rw [cell_of_row w2 g _ _ 33 (0, 0) h2]; rfl
       have k1 : w2.cell? ⟨g, 1, none⟩ = some (.int .u16 code) := by rw [cell_of_row w2 g _ _ 33 (0, 0) h2]; rfl
       have k3 : w2.cell? ⟨g, 3, none⟩ = some (.bool false) := by rw [cell_of_row w2 g _ _ 33 (0, 0) h2]; rfl
       have k6 : w2.cell? ⟨g, 6, none⟩ = some (.bool false) := by rw [cell_of_row w2 g _ _ 33 (0, 0) h2]; rfl
       replace h2 := hide h2; replace m2 := hide m2))
  obtain ⟨g3, hg3⟩ : ∃ g3, g3 = w2.heap.size := ⟨_, rfl⟩
  have hgl : g < g3 := by rw [hg3]; exact World.block_lt_of_cell? w2 _ k0
  have hR3 : Row (w2.alloc (.cells z18 5)) 5 1 (ic .u8) (.slice (some ⟨g3, 0, none⟩) 18 18) (List.replicate 18 0) := by rw [hg3]; exact row_lit (k := .u8) (l := List.replicate 18 0) (heap_alloc_new w2 _) (by decide)
  have m3 : Mod (fun _ => False) w2 (w2.alloc (.cells z18 5)) := (Mod.refl _ w2).alloc _
  obtain ⟨W3, hW3⟩ : ∃ W3, W3 = w2.alloc (.cells z18 5) := ⟨_, rfl⟩
  rw [← hW3] at hR3 m3
  rw [← hW3, ← hg3]
  clear hW3
  obtain ⟨n0, f0⟩ := hR3.num 0 (by decide)
  obtain ⟨n2, f2⟩ := hR3.num 2 (by decide)
  obtain ⟨n7, f7⟩ := hR3.num 7 (by decide)
  obtain ⟨n12, f12⟩ := hR3.num 12 (by decide)
  obtain ⟨n13, f13⟩ := hR3.num 13 (by decide)
  replace k0 := m3.cell k0 (fun e => e)
  replace k1 := m3.cell k1 (fun e => e)
  replace k3 := m3.cell k3 (fun e => e)
  replace k6 := m3.cell k6 (fun e => e)
  have hgn : ¬ g = g3 := by omega
  have M3 : Hid (Mod (fun _ => False) w W3) := hide ((m1.out.trans m2.out (fun _ _ e => e)).trans m3 (fun _ _ e => e))
  replace hg3 := hide hg3; replace hR3 := hide hR3; replace m3 := hide m3
  go_region
  go_wp2_with fail
  go_ret2
  have q := (((((hR3.out.store 0 112).1.store 2 key).1.store 7 10).1.store 12 (code / 256 % 256)).1.store 13 (code % 256)).1
  have mm : Mod (fun k => k = g3) W3 (((((W3.setCell ⟨g3, 0, none⟩ (.int .u8 112)).setCell ⟨g3, 2, none⟩ (.int .u8 key)).setCell ⟨g3, 7, none⟩ (.int .u8 10)).setCell ⟨g3, 12, none⟩ (.int .u8 (code / 256 % 256))).setCell ⟨g3, 13, none⟩ (.int .u8 (code % 256))) := mod_s (mod_s (mod_s (mod_s (mod_s (Mod.refl _ _)))))
  have hs := m1.out.size
  have hs2 := m2.out.size
  exact ⟨g3, _, rfl, q, by rw [hg3.out]; omega, (M3.out.trans mm (fun i hi e => by rw [e, hg3.out] at hi; omega)).drew⟩
end Go.Proofs.YtjkpelbhhapebaaGreatDoor
namespace Go.Proofs.YtjkpelbhhapebaaGreatDoor
open Go.RowKit
set_option maxRecDepth 100000
/-- An event: a nexus, a code. -/
abbrev Ev := Int × Int
def encE (r : Ev) : List Value := [.int .i64 r.1, .int .u16 r.2]
theorem encE_len : ∀ r, (encE r).length = 2 := fun _ => rfl
theorem encE_one : ∀ r, ∀ u ∈ encE r, u.oneCell' = true := by
  intro r u hu
  simp only [encE, List.mem_cons, List.not_mem_nil, or_false] at hu
  rcases hu with rfl | rfl <;> rfl
theorem elem201 : Elem Tryz.prog 201 (.agg #[.int .i64 0, .int .u16 0]) 2 16 := ⟨by kernel_rfl, rfl, by decide⟩
theorem filt_yes (p : Rg → Bool) (l : List Rg) (k : Nat) (h : k < l.length) (hp : p (gi l k) = true) : (l.take (k + 1)).filter p = (l.take k).filter p ++ [gi l k] := by
  rw [List.take_succ_eq_append_getElem h, List.filter_append, ← gi_eq l k h]
  simp [hp]
theorem filt_no (p : Rg → Bool) (l : List Rg) (k : Nat) (h : k < l.length) (hp : p (gi l k) = false) : (l.take (k + 1)).filter p = (l.take k).filter p := by
  rw [List.take_succ_eq_append_getElem h, List.filter_append, ← gi_eq l k h]
  simp [hp]
theorem filt_len (p : Rg → Bool) (l : List Rg) (k : Nat) : ((l.take k).filter p).length ≤ k := Nat.le_trans (List.length_filter_le _ _) (by simp; omega)
/-- All nexuses are such. -/
def NexL (l : List Rg) : Prop := ∀ r ∈ l, 0 ≤ r.1 ∧ r.1 < 8
def EvL (l : List Ev) : Prop := ∀ r ∈ l, 0 ≤ r.1 ∧ r.1 < 8 ∧ A.U16 r.2
theorem NexL.filter {l : List Rg} (h : NexL l) (p : Rg → Bool) : NexL (l.filter p) := fun r hr => h r ((List.mem_filter.1 hr).1)
theorem NexL.append {l m : List Rg} (h : NexL l) (h2 : NexL m) : NexL (l ++ m) := fun r hr => by
  rcases List.mem_append.1 hr with hr | hr
  · exact h r hr
  · exact h2 r hr
theorem EvL.append {l m : List Ev} (h : EvL l) (h2 : EvL m) : EvL (l ++ m) := fun r hr => by
  rcases List.mem_append.1 hr with hr | hr
  · exact h r hr
  · exact h2 r hr
theorem NexL.at_ {l : List Rg} (h : NexL l) (k : Nat) (hk : k < l.length) : 0 ≤ (gi l k).1 ∧ (gi l k).1 < 8 := by
  rw [gi_eq l k hk]; exact h _ (List.getElem_mem hk)
theorem u16_55 : A.U16 10755 := ⟨by decide, by decide⟩
theorem u16_56 : A.U16 10756 := ⟨by decide, by decide⟩
theorem u16_57 : A.U16 10757 := ⟨by decide, by decide⟩
/-- A list that grows in memory of its own. -/
def GR {α : Type} [Inhabited α] (e : TypeId) (enc : α → List Value) (w wr : World) (v : Value) (L : List α) : Prop := Row wr e 2 enc v L ∧ (∀ b, v.ownBlock = some b → w.heap.size ≤ b) ∧ Mod (fun _ => False) w wr
section
variable {α : Type} [Inhabited α] {e : TypeId} {enc : α → List Value} {w wr w2 : World} {v v2 : Value} {L L2 : List α} {o : Obj}
theorem GR.keep (h : GR e enc w wr v L) (m : Mod (fun _ => False) wr w2) : GR e enc w w2 v L := ⟨h.1.mod m (fun _ _ e => e), h.2.1, h.2.2.trans m (fun _ _ e => e)⟩
theorem GR.nil (e : TypeId) (enc : α → List Value) (m : Mod (fun _ => False) w wr) : GR e enc w wr (.slice none 0 0) ([] : List α) := ⟨Row.nil _ _ _ _, by simp [Value.ownBlock], m⟩
theorem GR.add (h : GR e enc w wr v L) (r : Row w2 e 2 enc v2 L2) (g : (wr.alloc o).grownBy w2 v.ownBlock) (a : v2.ownBlock = v.ownBlock ∨ v2.ownBlock = some (wr.alloc o).heap.size) : GR e enc w w2 v2 L2 := by
  refine ⟨r, fun b hb => ?_, (h.2.2.alloc o).grown g (fun j hj => .inr (h.2.1 j hj))⟩
  rcases a with a | a
  · exact h.2.1 b (by rw [← a]; exact hb)
  · rw [a] at hb
    injection hb with hb
    have := h.2.2.size
    rw [← hb]
    simp
    omega
end
/-- What Types answers of a kind: where it says yes, it is a type. -/
def TyB (k : Int) (e : Ending) : Prop := ∃ b, e = .returned (.bool b) ∧ (b = true → k = 1 ∨ k = 3 ∨ k = 5 ∨ k = 6 ∨ k = 7 ∨ k = 8)
theorem types_any (k : Int) (w : World) : Calls Tryz.prog 118 #[.int .u8 k] w fun e w' => TyB k e ∧ w = w' := by
  by_cases h1 : k = 1
  · subst h1
    go_enter Tryz.func118, Tryz.ntmps118
    go_wp2
    go_ret
    exact ⟨⟨true, rfl, fun _ => .inl rfl⟩, rfl⟩
  have e1 : (k == 1) = false := by simpa using h1
  by_cases h3 : k = 3
  · subst h3
    go_enter Tryz.func118, Tryz.ntmps118
    go_wp2
    go_ret
    exact ⟨⟨true, rfl, fun _ => .inr (.inl rfl)⟩, rfl⟩
  have e3 : (k == 3) = false := by simpa using h3
  by_cases h5 : 5 ≤ k
  · have e5 : decide (5 ≤ k) = true := by simpa using h5
    by_cases h8 : k ≤ 8
    · have e8 : decide (k ≤ 8) = true := by simpa using h8
      go_enter Tryz.func118, Tryz.ntmps118
      go_wp2
      go_ret
      exact ⟨⟨true, rfl, fun _ => by omega⟩, rfl⟩
    · have e8 : decide (k ≤ 8) = false := by simpa using h8
      go_enter Tryz.func118, Tryz.ntmps118
      go_wp2
      go_ret
      exact ⟨⟨false, rfl, fun h => by cases h⟩, rfl⟩
  · have e5 : decide (5 ≤ k) = false := by simpa using h5
    go_enter Tryz.func118, Tryz.ntmps118
    go_wp2
    go_ret
    exact ⟨⟨false, rfl, fun h => by cases h⟩, rfl⟩
section
variable {w : World} {t : Nat} {v : Value} {T : Tb}
theorem TB.fr (h : TB w t v T) (i : Nat) : w.frozen? ⟨t, i, none⟩ = false := frozen_of_row w t i _ 151 h
theorem TB.lt (h : TB w t v T) : t < w.heap.size := (Array.getElem?_eq_some_iff.1 h).1
theorem TB.s0 (h : TB w t v T) (v' : Value) : TB (w.setCell ⟨t, 0, none⟩ v') t v' T := by unfold TB; rw [heap_setCell_same w t 0 _ 151 _ h]; rfl
theorem TB.s1 (h : TB w t v T) (x : Int) : TB (w.setCell ⟨t, 1, none⟩ (.int .u32 x)) t v { T with gen := x } := by unfold TB; rw [heap_setCell_same w t 1 _ 151 _ h]; rfl
theorem TB.s2 (h : TB w t v T) (x : Int) : TB (w.setCell ⟨t, 2, none⟩ (.int .u8 x)) t v { T with kind := x } := by unfold TB; rw [heap_setCell_same w t 2 _ 151 _ h]; rfl
theorem TB.s3 (h : TB w t v T) (x : Int) : TB (w.setCell ⟨t, 3, none⟩ (.int .i64 x)) t v { T with holder := x } := by unfold TB; rw [heap_setCell_same w t 3 _ 151 _ h]; rfl
theorem TB.s4 (h : TB w t v T) (x : Bool) : TB (w.setCell ⟨t, 4, none⟩ (.bool x)) t v { T with aptpl := x } := by unfold TB; rw [heap_setCell_same w t 4 _ 151 _ h]; rfl
theorem TB.row (h : TB w t v T) (l : List Rg) : TB w t v { T with regs := l } := h
end
/-- What free leaves. -/
def FrP (t : Nat) (w : World) (v : Value) (T : Tb) (e : Ending) (w' : World) : Prop := ∃ A n c evs, e = .returned (.slice A n c) ∧ Row w' 201 2 encE (.slice A n c) evs ∧ EvL evs ∧ evs.length ≤ T.regs.length ∧ (∀ b, (Value.slice A n c).ownBlock = some b → w.heap.size ≤ b) ∧ TB w' t v { T with kind := 0, holder := -1 } ∧ Mod (fun k => k = t) w w'
set_option maxHeartbeats 4000000 in
theorem free_any (t : Nat) (but : Int) (v : Value) (T : Tb) (w : World) (h : TB w t v T) (hr : Row w 50 2 encR v T.regs) (hv : v.ownBlock ≠ some t) (hl : T.regs.length ≤ 1000) (hN : NexL T.regs) :
    Calls Tryz.prog 155 #[.pointer (some ⟨t, 0, none⟩), .int .i64 but] w (FrP t w v T) := by
  obtain ⟨k0, k1, k2, k3, k4⟩ := h.cells
  have f2 := h.fr 2
  have f3 := h.fr 3
  have ht := h.lt
  obtain ⟨A, m, c, rfl⟩ := hr.form
  have hrd := hr.rd encR_len rfl
  have hlen : T.regs.length = m := hrd.1
  have hP : Hid (GR 201 encE w w (.slice none 0 0) ([] : List Ev)) := hide (GR.nil _ _ (Mod.refl _ _))
  have hC : ∀ W, Mod (fun _ => False) w W → W.cell? ⟨t, 2, none⟩ = some (.int .u8 T.kind) ∧ W.cell? ⟨t, 3, none⟩ = some (.int .i64 T.holder) ∧ W.frozen? ⟨t, 2, none⟩ = false ∧ W.frozen? ⟨t, 3, none⟩ = false := fun W mm => ⟨mm.cell k2 (fun e => e), mm.cell k3 (fun e => e), by rw [mm.frozen (p := ⟨t, 2, none⟩) ht (fun e => e)]; exact f2, by rw [mm.frozen (p := ⟨t, 3, none⟩) ht (fun e => e)]; exact f3⟩
  have hfin : ∀ W V, Mod (fun _ => False) w W → TB ((W.setCell ⟨t, 2, none⟩ (.int .u8 0)).setCell ⟨t, 3, none⟩ (.int .i64 (-1))) t (.slice A m c) { T with kind := 0, holder := -1 } ∧ Mod (fun k => k = t) w ((W.setCell ⟨t, 2, none⟩ (.int .u8 0)).setCell ⟨t, 3, none⟩ (.int .i64 (-1))) ∧
      ∀ L : List Ev, GR 201 encE w W V L → Row ((W.setCell ⟨t, 2, none⟩ (.int .u8 0)).setCell ⟨t, 3, none⟩ (.int .i64 (-1))) 201 2 encE V L := fun W V mm => by
    have hT : TB W t (.slice A m c) T := mm.heap h (fun e => e)
    have ms : Mod (fun k => k = t) W ((W.setCell ⟨t, 2, none⟩ (.int .u8 0)).setCell ⟨t, 3, none⟩ (.int .i64 (-1))) := mod_s (mod_s (Mod.refl _ _))
    exact ⟨(hT.s2 0).s3 (-1), (mm.mono (fun _ _ e => e.elim)).trans ms (fun _ _ e => e), fun L hg => hg.1.mod ms (fun k hk e => by have := hg.2.1 k hk; omega)⟩
  obtain ⟨l, hl0⟩ : ∃ l, l = T.regs := ⟨_, rfl⟩
  rw [← hl0] at hrd hlen hl hN
  replace hl0 := hide hl0
  obtain ⟨kd, hkd⟩ : ∃ kd, kd = T.kind := ⟨_, rfl⟩
  rw [← hkd] at k2 hC
  have hlm : m ≤ 1000 := by omega
  replace hr := hide hr; replace hrd := hide hrd; replace h := hide h; replace hlen := hide hlen; replace hC := hide hC; replace hN := hide hN; replace hfin := hide hfin; replace hkd := hide hkd; replace hv := hide hv
  by_cases h5 : 5 ≤ kd
  · have e5 : decide (5 ≤ kd) = true := by simpa using h5
    replace h5 := hide h5
    go_enter Tryz.func155, Tryz.ntmps155
    go_wp2_with fail
    go_loopw [5, 18] (fun u x wr => ∃ k : Nat, k ≤ m ∧ x = .int .i64 k ∧ (∃ A n c, u = .slice A n c) ∧ Hid (GR 201 encE w wr u (((l.take k).filter (fun r => r.1 != but)).map fun r => (r.1, (10756 : Int))))) (fun _ x _ => m - (intOf x).toNat)
    case atStart => exact ⟨0, Nat.zero_le _, rfl, ⟨_, _, _, rfl⟩, hP⟩
    case round =>
      obtain ⟨k, hk, rfl, ⟨A1, n1, c1, rfl⟩, hR⟩ := hrel
      by_cases hkm : k < m
      · obtain ⟨ad, rfl, hc⟩ := (hrd.out.mod hR.out.2.2 (fun _ _ e => e)).2 k hkm
        obtain ⟨r, hrk⟩ : ∃ r, r = gi l k := ⟨_, rfl⟩
        rw [← hrk] at hc
        have hcc : ∀ j u, ([.int .i64 r.1, .int .u64 r.2] : List Value)[j]? = some u → wr.cell? ((ad.add (k * 2)).add j) = some u := fun j u hu => by rw [addr_add]; exact hc j u hu
        have q1 : (k : Int) < m := by omega
        have hkl : k < l.length := by rw [hlen.out]; exact hkm
        have fl := filt_len (fun r => r.1 != but) l k
        clear hc
        replace hcc := hide hcc; replace hrk := hide hrk; replace hkl := hide hkl; replace fl := hide fl
        cases hb : (r.1 != but)
        all_goals
          replace hb := hide hb
          have hbb := hb.out
          go_wp2_with (first
          | ((with_reducible refine list_load 50 (.tmp 20) ?_ ?_ _ Tryz.underlying50 ?_ (ad.add (k * 2)) ([.int .i64 r.1, .int .u64 r.2] : List Value) ?_ ?_ hcc.out ?_)
             exact rfl
             exact rfl
             exact rfl
             exact size50
             exact rfl
             skip)
          | ((with_reducible refine list_al 50 _ new50 ?_ ?_ ?_)
             exact rfl
             exact rfl
             intro w2 g2 hg2 h2 m2 s2
             replace hg2 := hide hg2; replace h2 := hide h2; replace m2 := hide m2; replace s2 := hide s2)
          | ((with_reducible refine list_put 50 (.tmp 7) (.tmp 21) ?_ ?_ g2 #[.int .i64 r.1, .int .u64 r.2] ?_ ?_ z50 h2.out ?_ ?_ ?_ ?_)
             exact rfl
             exact rfl
             exact rfl
             exact rfl
             exact rfl
             exact size50
             exact rg_one r
             intro w3 h3 m3
             have c0 : w3.cell? ⟨g2, 0, none⟩ = some (.int .i64 r.1) := by rw [cell_of_row w3 _ _ _ 50 (0, 0) h3]; rfl
             have M3 : Mod (fun _ => False) wr w3 := m2.out.trans m3 (fun k hk e => by have := hg2.out; omega)
             have R3 := hR.out.keep M3
             replace M3 := hide M3; replace h3 := hide h3; replace m3 := hide m3; replace R3 := hide R3)
          | (at_builtin; refine list_app (.tmp 26) (.tmp 30) 197 201 _ 2 16 encE rfl rfl encE_len encE_one Tryz.underlying197 elem201 (.slice A1 n1 c1) _ (some ⟨w3.heap.size, 0, none⟩) 1 1 [(r.1, (10756 : Int))] rfl rfl (R3.out.1.alloc _) (Rd.box _ _ _ _) (by have := fl.out; simp only [maxLen, List.length_map]; omega) (by have := fl.out; simp only [List.length_map]; omega) ?_
             intro v4 w4 r4 g4 a4
             have R4 := R3.out.add r4 g4 a4
             obtain ⟨A4, n4, c4, rfl⟩ := r4.form
             replace R4 := hide R4; clear r4 g4 a4))
        · exact ⟨⟨k + 1, by omega, rfl, ⟨_, _, _, rfl⟩, hide (by rw [filt_no _ l k hkl.out (by rw [← hrk.out]; exact hb.out)]; exact R3.out)⟩, by simp [intOf]; omega⟩
        · exact ⟨⟨k + 1, by omega, rfl, ⟨_, _, _, rfl⟩, hide (by rw [filt_yes _ l k hkl.out (by rw [← hrk.out]; exact hb.out), List.map_append, ← hrk.out]; exact R4.out)⟩, by simp [intOf]; omega⟩
      · obtain rfl : k = m := by omega
        have q1 : decide ((k : Int) < k) = false := by simp
        obtain ⟨c2, c3, fz2, fz3⟩ := hC.out wr hR.out.2.2
        go_wp2_with fail
        go_ret
        obtain ⟨p1, p2, p3⟩ := hfin.out wr (.slice A1 n1 c1) hR.out.2.2
        refine ⟨_, _, _, _, rfl, p3 _ hR.out, ?_, ?_, hR.out.2.1, p1, p2⟩
        · intro r hr
          obtain ⟨q, hq, rfl⟩ := List.mem_map.1 hr
          have := hN.out q (List.mem_of_mem_take (List.mem_filter.1 hq).1)
          exact ⟨this.1, this.2, u16_56⟩
        · have := filt_len (fun r => r.1 != but) l k
          rw [List.length_map, ← hl0.out, hlen.out]
          exact this
  · have e5 : decide (5 ≤ kd) = false := by simpa using h5
    replace h5 := hide h5
    go_enter Tryz.func155, Tryz.ntmps155
    go_wp2_with fail
    go_ret
    obtain ⟨p1, p2, p3⟩ := hfin.out w (.slice none 0 0) (Mod.refl _ _)
    exact ⟨none, 0, 0, [], rfl, p3 [] hP.out, fun r hr => (List.not_mem_nil hr).elim, Nat.zero_le _, hP.out.2.1, p1, p2⟩
end Go.Proofs.YtjkpelbhhapebaaGreatDoor
namespace Go.Proofs.YtjkpelbhhapebaaGreatDoor
open Go.RowKit
set_option maxRecDepth 100000
/-- The list with that key for that nexus. -/
def setL (l : List Rg) (n key : Int) : List Rg := (l.filter fun r => decide (r.1 < n)) ++ (if key = 0 then [] else [(n, key)]) ++ l.filter fun r => decide (n < r.1)
theorem setL_len (l : List Rg) (n key : Int) : (setL l n key).length ≤ l.length + 1 := by
  have : (l.filter fun r => decide (r.1 < n)).length + (l.filter fun r => decide (n < r.1)).length ≤ l.length := by
    induction l with
    | nil => simp
    | cons a l ih =>
      simp only [List.filter_cons, List.length_cons]
      by_cases h1 : a.1 < n
      · have h2 : ¬ n < a.1 := by omega
        simp [h1, h2]; omega
      · by_cases h2 : n < a.1
        · simp [h1, h2]; omega
        · simp [h1, h2]; omega
  unfold setL
  split <;> simp <;> omega
theorem setL_nex {l : List Rg} (h : NexL l) (n key : Int) (hn : 0 ≤ n ∧ n < 8) : NexL (setL l n key) := by
  refine ((h.filter _).append ?_).append (h.filter _)
  split
  · intro r hr; simp at hr
  · intro r hr; simp at hr; subst hr; exact hn
set_option maxHeartbeats 4000000 in
theorem set_any (t : Nat) (n key : Int) (v : Value) (T : Tb) (w : World) (h : TB w t v T) (hr : Row w 50 2 encR v T.regs) (hl : T.regs.length ≤ 1000) :
    Calls Tryz.prog 154 #[.pointer (some ⟨t, 0, none⟩), .int .i64 n, .int .u64 key] w fun e w' => e = .returned (.tuple #[]) ∧ ∃ v', TB w' t v' T ∧ Row w' 50 2 encR v' (setL T.regs n key) ∧ (∀ b, v'.ownBlock = some b → w.heap.size ≤ b) ∧ Mod (fun k => k = t) w w' := by
  obtain ⟨k0, k1, k2, k3, k4⟩ := h.cells
  have f0 := h.fr 0
  have ht := h.lt
  obtain ⟨A, m, c, rfl⟩ := hr.form
  have hrd := hr.rd encR_len rfl
  have hlen : T.regs.length = m := hrd.1
  have hP : Hid (GR 50 encR w w (.slice none 0 0) ([] : List Rg)) := hide (GR.nil _ _ (Mod.refl _ _))
  have hC : ∀ W, Mod (fun _ => False) w W → W.cell? ⟨t, 0, none⟩ = some (.slice A m c) ∧ W.frozen? ⟨t, 0, none⟩ = false := fun W mm => ⟨mm.cell k0 (fun e => e), by rw [mm.frozen (p := ⟨t, 0, none⟩) ht (fun e => e)]; exact f0⟩
  have hfin : ∀ W V (L : List Rg), GR 50 encR w W V L → TB (W.setCell ⟨t, 0, none⟩ V) t V T ∧ Row (W.setCell ⟨t, 0, none⟩ V) 50 2 encR V L ∧ Mod (fun k => k = t) w (W.setCell ⟨t, 0, none⟩ V) := fun W V L mm => by
    have hT : TB W t (.slice A m c) T := mm.2.2.heap h (fun e => e)
    have ms : Mod (fun k => k = t) W (W.setCell ⟨t, 0, none⟩ V) := mod_s (Mod.refl _ _)
    exact ⟨hT.s0 V, mm.1.mod ms (fun k hk e => by have := mm.2.1 k hk; omega), (mm.2.2.mono (fun _ _ e => e.elim)).trans ms (fun _ _ e => e)⟩
  unfold setL
  obtain ⟨l, hl0⟩ : ∃ l, l = T.regs := ⟨_, rfl⟩
  rw [← hl0] at hrd hlen hl ⊢
  clear hl0
  have hlm : m ≤ 1000 := by omega
  have htk : l.take m = l := List.take_of_length_le (by omega)
  obtain ⟨pre, hpre⟩ : ∃ pre : List Rg, pre = (if key = 0 then [] else [(n, key)]) := ⟨_, rfl⟩
  rw [← hpre]
  have hll : pre.length ≤ 1 := by rw [hpre]; split <;> simp
  replace hr := hide hr; replace hrd := hide hrd; replace h := hide h; replace hlen := hide hlen; replace hC := hide hC; replace hfin := hide hfin; replace htk := hide htk; replace hll := hide hll
  have hsp : (key != 0) = true ∧ pre = [(n, key)] ∨ (key != 0) = false ∧ pre = [] := by
    by_cases hk : key = 0
    · exact .inr ⟨by simp [hk], by simp [hpre, hk]⟩
    · exact .inl ⟨by simp [hk], by simp [hpre, hk]⟩
  clear hpre
  go_enter Tryz.func154, Tryz.ntmps154
  go_wp2_with fail
  go_loopw [6, 16] (fun u x wr => ∃ k : Nat, k ≤ m ∧ x = .int .i64 k ∧ (∃ A n c, u = .slice A n c) ∧ Hid (GR 50 encR w wr u ((l.take k).filter fun r => decide (r.1 < n)))) (fun _ x _ => m - (intOf x).toNat)
  case atStart => exact ⟨0, Nat.zero_le _, rfl, ⟨_, _, _, rfl⟩, hP⟩
  case round =>
    obtain ⟨k, hk, rfl, ⟨A1, n1, c1, rfl⟩, hR⟩ := hrel
    by_cases hkm : k < m
    · obtain ⟨ad, rfl, hc⟩ := (hrd.out.mod hR.out.2.2 (fun _ _ e => e)).2 k hkm
      obtain ⟨r, hrk⟩ : ∃ r, r = gi l k := ⟨_, rfl⟩
      rw [← hrk] at hc
      have hcc : ∀ j u, ([.int .i64 r.1, .int .u64 r.2] : List Value)[j]? = some u → wr.cell? ((ad.add (k * 2)).add j) = some u := fun j u hu => by rw [addr_add]; exact hc j u hu
      have q1 : (k : Int) < m := by omega
      have hkl : k < l.length := by rw [hlen.out]; exact hkm
      have fl := filt_len (fun r => decide (r.1 < n)) l k
      clear hc
      replace hcc := hide hcc; replace hrk := hide hrk; replace hkl := hide hkl; replace fl := hide fl; replace hsp := hide hsp
      cases hb : decide (r.1 < n)
      all_goals
        replace hb := hide hb
        have hbb := hb.out
        go_wp2_with (first
        | ((with_reducible refine list_load 50 (.tmp 18) ?_ ?_ _ Tryz.underlying50 ?_ (ad.add (k * 2)) ([.int .i64 r.1, .int .u64 r.2] : List Value) ?_ ?_ hcc.out ?_)
           exact rfl
           exact rfl
           exact rfl
           exact size50
           exact rfl
           skip)
        | ((with_reducible refine list_al 50 _ new50 ?_ ?_ ?_)
           exact rfl
           exact rfl
           intro w2 g2 hg2 h2 m2 s2
           replace hg2 := hide hg2; replace h2 := hide h2; replace m2 := hide m2; replace s2 := hide s2)
        | ((with_reducible refine list_put 50 (.tmp 8) (.tmp 19) ?_ ?_ g2 #[.int .i64 r.1, .int .u64 r.2] ?_ ?_ z50 h2.out ?_ ?_ ?_ ?_)
           exact rfl
           exact rfl
           exact rfl
           exact rfl
           exact rfl
           exact size50
           exact rg_one r
           intro w3 h3 m3
           have x0 : w3.cell? ⟨g2, 0, none⟩ = some (.int .i64 r.1) := by rw [cell_of_row w3 _ _ _ 50 (0, 0) h3]; rfl
           have x1 : w3.cell? ⟨g2, 1, none⟩ = some (.int .u64 r.2) := by rw [cell_of_row w3 _ _ _ 50 (0, 0) h3]; rfl
           have M3 : Mod (fun _ => False) wr w3 := m2.out.trans m3 (fun k hk e => by have := hg2.out; omega)
           have hb0 : ∀ j u, ([.int .i64 r.1, .int .u64 r.2] : List Value)[j]? = some u → w3.cell? ((⟨g2, 0, none⟩ : Addr).add j) = some u := fun j u hu => box_cells h3 j u hu
           have R3 := hR.out.keep M3
           replace M3 := hide M3; replace h3 := hide h3; replace m3 := hide m3; replace R3 := hide R3; replace hb0 := hide hb0)
        | ((with_reducible refine list_load 50 (.tmp 8) ?_ ?_ _ Tryz.underlying50 ?_ ⟨g2, 0, none⟩ ([.int .i64 r.1, .int .u64 r.2] : List Value) ?_ ?_ hb0.out ?_)
           exact rfl
           exact rfl
           exact rfl
           exact size50
           exact rfl
           skip)
        | (at_builtin; refine list_app (.tmp 24) (.tmp 26) 46 50 _ 2 16 encR rfl rfl encR_len encR_one Tryz.underlying46 elem50 (.slice A1 n1 c1) _ (some ⟨w3.heap.size, 0, none⟩) 1 1 [r] rfl rfl (R3.out.1.alloc _) (Rd.box _ _ _ _) (by have := fl.out; simp only [maxLen]; omega) (by have := fl.out; omega) ?_
           intro v4 w4 r4 g4 a4
           have R4 := R3.out.add r4 g4 a4
           obtain ⟨A4, n4, c4, rfl⟩ := r4.form
           replace R4 := hide R4; clear r4 g4 a4))
      · exact ⟨⟨k + 1, by omega, rfl, ⟨_, _, _, rfl⟩, hide (by rw [filt_no _ l k hkl.out (by rw [← hrk.out]; exact hb.out)]; exact R3.out)⟩, by simp [intOf]; omega⟩
      · exact ⟨⟨k + 1, by omega, rfl, ⟨_, _, _, rfl⟩, hide (by rw [filt_yes _ l k hkl.out (by rw [← hrk.out]; exact hb.out), ← hrk.out]; exact R4.out)⟩, by simp [intOf]; omega⟩
    · obtain rfl : m = k := by omega
      have q1 : decide ((m : Int) < m) = false := by simp
      obtain ⟨c0, -⟩ := hC.out wr hR.out.2.2
      have fl := filt_len (fun r => decide (r.1 < n)) l m
      have hR0 := hR.out
      rw [htk.out] at hR0 fl
      replace fl := hide fl; replace hR0 := hide hR0
      clear hR hP
      obtain ⟨p1, hp1⟩ : ∃ p1, p1 = l.filter (fun r => decide (r.1 < n)) := ⟨_, rfl⟩
      rw [← hp1] at hR0 fl
      have hp1l : p1.length ≤ 1000 := Nat.le_trans fl.out hlm
      replace hp1 := hide hp1; replace hp1l := hide hp1l
      rcases hsp with ⟨hs1, hs2⟩ | ⟨hs1, hs2⟩
      all_goals
        subst hs2
      · go_wp2_with (first
        | (at_builtin; refine list_app (.tmp 31) (.tmp 35) 46 50 _ 2 16 encR rfl rfl encR_len encR_one Tryz.underlying46 elem50 (.slice A1 n1 c1) _ (some ⟨wr.heap.size, 0, none⟩) 1 1 [(n, key)] rfl rfl (hR0.out.1.alloc _) (Rd.box _ _ _ _) (by have := fl.out; simp only [maxLen]; omega) (by have := fl.out; omega) ?_
           intro v5 w5 r5 g5 a5
           have R5 := hR0.out.add r5 g5 a5
           obtain ⟨A5, n5, c5, rfl⟩ := r5.form
           obtain ⟨c05, -⟩ := hC.out w5 R5.2.2
           replace R5 := hide R5; clear r5 g5 a5))
        go_loopw [6, 42] (fun u x wr => ∃ k : Nat, k ≤ m ∧ x = .int .i64 k ∧ (∃ A n c, u = .slice A n c) ∧ Hid (GR 50 encR w wr u (p1 ++ [(n, key)] ++ (l.take k).filter fun r => decide (n < r.1)))) (fun _ x _ => m - (intOf x).toNat)
        case atStart => exact ⟨0, Nat.zero_le _, rfl, ⟨_, _, _, rfl⟩, hide (by rw [List.take_zero, List.filter_nil, List.append_nil]; exact R5.out)⟩
        case round =>
          obtain ⟨k, hk, rfl, ⟨A1, n1, c1, rfl⟩, hR⟩ := hrel
          by_cases hkm : k < m
          · obtain ⟨ad, rfl, hc⟩ := (hrd.out.mod hR.out.2.2 (fun _ _ e => e)).2 k hkm
            obtain ⟨r, hrk⟩ : ∃ r, r = gi l k := ⟨_, rfl⟩
            rw [← hrk] at hc
            have hcc : ∀ j u, ([.int .i64 r.1, .int .u64 r.2] : List Value)[j]? = some u → wr.cell? ((ad.add (k * 2)).add j) = some u := fun j u hu => by rw [addr_add]; exact hc j u hu
            have q1 : (k : Int) < m := by omega
            have hkl : k < l.length := by rw [hlen.out]; exact hkm
            have fl : (p1 ++ [(n, key)] ++ (l.take k).filter fun (r : Rg) => decide (n < r.1)).length ≤ 2002 := by
              have h1 := filt_len (fun r => decide (n < r.1)) l k
              have h2 := hp1l.out
              simp only [List.length_append, List.length_cons, List.length_nil]
              omega
            clear hc
            replace hcc := hide hcc; replace hrk := hide hrk; replace hkl := hide hkl
            replace fl := hide fl
            cases hb : decide (n < r.1)
            all_goals
              replace hb := hide hb
              have hbb := hb.out
              go_wp2_with (first
              | ((with_reducible refine list_load 50 (.tmp 44) ?_ ?_ _ Tryz.underlying50 ?_ (ad.add (k * 2)) ([.int .i64 r.1, .int .u64 r.2] : List Value) ?_ ?_ hcc.out ?_)
                 exact rfl
                 exact rfl
                 exact rfl
                 exact size50
                 exact rfl
                 skip)
              | ((with_reducible refine list_al 50 _ new50 ?_ ?_ ?_)
                 exact rfl
                 exact rfl
                 intro w2 g2 hg2 h2 m2 s2
                 replace hg2 := hide hg2; replace h2 := hide h2; replace m2 := hide m2; replace s2 := hide s2)
              | ((with_reducible refine list_put 50 (.tmp 10) (.tmp 45) ?_ ?_ g2 #[.int .i64 r.1, .int .u64 r.2] ?_ ?_ z50 h2.out ?_ ?_ ?_ ?_)
                 exact rfl
                 exact rfl
                 exact rfl
                 exact rfl
                 exact rfl
                 exact size50
                 exact rg_one r
                 intro w3 h3 m3
                 have x0 : w3.cell? ⟨g2, 0, none⟩ = some (.int .i64 r.1) := by rw [cell_of_row w3 _ _ _ 50 (0, 0) h3]; rfl
                 have x1 : w3.cell? ⟨g2, 1, none⟩ = some (.int .u64 r.2) := by rw [cell_of_row w3 _ _ _ 50 (0, 0) h3]; rfl
                 have M3 : Mod (fun _ => False) wr w3 := m2.out.trans m3 (fun k hk e => by have := hg2.out; omega)
                 have hb0 : ∀ j u, ([.int .i64 r.1, .int .u64 r.2] : List Value)[j]? = some u → w3.cell? ((⟨g2, 0, none⟩ : Addr).add j) = some u := fun j u hu => box_cells h3 j u hu
                 have R3 := hR.out.keep M3
                 replace M3 := hide M3; replace h3 := hide h3; replace m3 := hide m3; replace R3 := hide R3; replace hb0 := hide hb0)
              | ((with_reducible refine list_load 50 (.tmp 10) ?_ ?_ _ Tryz.underlying50 ?_ ⟨g2, 0, none⟩ ([.int .i64 r.1, .int .u64 r.2] : List Value) ?_ ?_ hb0.out ?_)
                 exact rfl
                 exact rfl
                 exact rfl
                 exact size50
                 exact rfl
                 skip)
              | (at_builtin; refine list_app (.tmp 50) (.tmp 52) 46 50 _ 2 16 encR rfl rfl encR_len encR_one Tryz.underlying46 elem50 (.slice A1 n1 c1) _ (some ⟨w3.heap.size, 0, none⟩) 1 1 [r] rfl rfl (R3.out.1.alloc _) (Rd.box _ _ _ _) (by have := fl.out; simp only [maxLen]; omega) (by have := fl.out; omega) ?_
                 intro v4 w4 r4 g4 a4
                 have R4 := R3.out.add r4 g4 a4
                 obtain ⟨A4, n4, c4, rfl⟩ := r4.form
                 replace R4 := hide R4; clear r4 g4 a4))
            · exact ⟨⟨k + 1, by omega, rfl, ⟨_, _, _, rfl⟩, hide (by rw [filt_no _ l k hkl.out (by rw [← hrk.out]; exact hb.out)]; exact R3.out)⟩, by simp [intOf]; omega⟩
            · exact ⟨⟨k + 1, by omega, rfl, ⟨_, _, _, rfl⟩, hide (by rw [filt_yes _ l k hkl.out (by rw [← hrk.out]; exact hb.out), ← hrk.out, ← List.append_assoc]; exact R4.out)⟩, by simp [intOf]; omega⟩
          · obtain rfl : m = k := by omega
            have q1 : decide ((m : Int) < m) = false := by simp
            obtain ⟨c0, fz0⟩ := hC.out wr hR.out.2.2
            go_wp2_with fail
            go_end0
            have q := hfin.out wr _ _ hR.out
            rw [htk.out, hp1.out] at q
            exact ⟨rfl, _, q.1, q.2.1, hR.out.2.1, q.2.2⟩
      · go_wp2_with fail
        go_loopw [6, 42] (fun u x wr => ∃ k : Nat, k ≤ m ∧ x = .int .i64 k ∧ (∃ A n c, u = .slice A n c) ∧ Hid (GR 50 encR w wr u (p1 ++ [] ++ (l.take k).filter fun r => decide (n < r.1)))) (fun _ x _ => m - (intOf x).toNat)
        case atStart => exact ⟨0, Nat.zero_le _, rfl, ⟨_, _, _, rfl⟩, hide (by rw [List.take_zero, List.filter_nil, List.append_nil, List.append_nil]; exact hR0.out)⟩
        case round =>
          obtain ⟨k, hk, rfl, ⟨A1, n1, c1, rfl⟩, hR⟩ := hrel
          by_cases hkm : k < m
          · obtain ⟨ad, rfl, hc⟩ := (hrd.out.mod hR.out.2.2 (fun _ _ e => e)).2 k hkm
            obtain ⟨r, hrk⟩ : ∃ r, r = gi l k := ⟨_, rfl⟩
            rw [← hrk] at hc
            have hcc : ∀ j u, ([.int .i64 r.1, .int .u64 r.2] : List Value)[j]? = some u → wr.cell? ((ad.add (k * 2)).add j) = some u := fun j u hu => by rw [addr_add]; exact hc j u hu
            have q1 : (k : Int) < m := by omega
            have hkl : k < l.length := by rw [hlen.out]; exact hkm
            have fl : (p1 ++ [] ++ (l.take k).filter fun (r : Rg) => decide (n < r.1)).length ≤ 2002 := by
              have h1 := filt_len (fun r => decide (n < r.1)) l k
              have h2 := hp1l.out
              simp only [List.length_append, List.length_nil]
              omega
            clear hc
            replace hcc := hide hcc; replace hrk := hide hrk; replace hkl := hide hkl
            replace fl := hide fl
            cases hb : decide (n < r.1)
            all_goals
              replace hb := hide hb
              have hbb := hb.out
              go_wp2_with (first
              | ((with_reducible refine list_load 50 (.tmp 44) ?_ ?_ _ Tryz.underlying50 ?_ (ad.add (k * 2)) ([.int .i64 r.1, .int .u64 r.2] : List Value) ?_ ?_ hcc.out ?_)
                 exact rfl
                 exact rfl
                 exact rfl
                 exact size50
                 exact rfl
                 skip)
              | ((with_reducible refine list_al 50 _ new50 ?_ ?_ ?_)
                 exact rfl
                 exact rfl
                 intro w2 g2 hg2 h2 m2 s2
                 replace hg2 := hide hg2; replace h2 := hide h2; replace m2 := hide m2; replace s2 := hide s2)
              | ((with_reducible refine list_put 50 (.tmp 10) (.tmp 45) ?_ ?_ g2 #[.int .i64 r.1, .int .u64 r.2] ?_ ?_ z50 h2.out ?_ ?_ ?_ ?_)
                 exact rfl
                 exact rfl
                 exact rfl
                 exact rfl
                 exact rfl
                 exact size50
                 exact rg_one r
                 intro w3 h3 m3
                 have x0 : w3.cell? ⟨g2, 0, none⟩ = some (.int .i64 r.1) := by rw [cell_of_row w3 _ _ _ 50 (0, 0) h3]; rfl
                 have x1 : w3.cell? ⟨g2, 1, none⟩ = some (.int .u64 r.2) := by rw [cell_of_row w3 _ _ _ 50 (0, 0) h3]; rfl
                 have M3 : Mod (fun _ => False) wr w3 := m2.out.trans m3 (fun k hk e => by have := hg2.out; omega)
                 have hb0 : ∀ j u, ([.int .i64 r.1, .int .u64 r.2] : List Value)[j]? = some u → w3.cell? ((⟨g2, 0, none⟩ : Addr).add j) = some u := fun j u hu => box_cells h3 j u hu
                 have R3 := hR.out.keep M3
                 replace M3 := hide M3; replace h3 := hide h3; replace m3 := hide m3; replace R3 := hide R3; replace hb0 := hide hb0)
              | ((with_reducible refine list_load 50 (.tmp 10) ?_ ?_ _ Tryz.underlying50 ?_ ⟨g2, 0, none⟩ ([.int .i64 r.1, .int .u64 r.2] : List Value) ?_ ?_ hb0.out ?_)
                 exact rfl
                 exact rfl
                 exact rfl
                 exact size50
                 exact rfl
                 skip)
              | (at_builtin; refine list_app (.tmp 50) (.tmp 52) 46 50 _ 2 16 encR rfl rfl encR_len encR_one Tryz.underlying46 elem50 (.slice A1 n1 c1) _ (some ⟨w3.heap.size, 0, none⟩) 1 1 [r] rfl rfl (R3.out.1.alloc _) (Rd.box _ _ _ _) (by have := fl.out; simp only [maxLen]; omega) (by have := fl.out; omega) ?_
                 intro v4 w4 r4 g4 a4
                 have R4 := R3.out.add r4 g4 a4
                 obtain ⟨A4, n4, c4, rfl⟩ := r4.form
                 replace R4 := hide R4; clear r4 g4 a4))
            · exact ⟨⟨k + 1, by omega, rfl, ⟨_, _, _, rfl⟩, hide (by rw [filt_no _ l k hkl.out (by rw [← hrk.out]; exact hb.out)]; exact R3.out)⟩, by simp [intOf]; omega⟩
            · exact ⟨⟨k + 1, by omega, rfl, ⟨_, _, _, rfl⟩, hide (by rw [filt_yes _ l k hkl.out (by rw [← hrk.out]; exact hb.out), ← hrk.out, ← List.append_assoc]; exact R4.out)⟩, by simp [intOf]; omega⟩
          · obtain rfl : m = k := by omega
            have q1 : decide ((m : Int) < m) = false := by simp
            obtain ⟨c0, fz0⟩ := hC.out wr hR.out.2.2
            go_wp2_with fail
            go_end0
            have q := hfin.out wr _ _ hR.out
            rw [htk.out, hp1.out] at q
            exact ⟨rfl, _, q.1, q.2.1, hR.out.2.1, q.2.2⟩
end Go.Proofs.YtjkpelbhhapebaaGreatDoor
namespace Go.Proofs.YtjkpelbhhapebaaGreatDoor
open Go.RowKit
set_option maxRecDepth 100000
/-- What a service wants. -/
abbrev outA (sv ty key act : Int) : Array Value := #[.int .u8 sv, .int .u8 ty, .int .u64 key, .int .u64 act, .bool false]
/-- The table as the unit lets it be. -/
structure TOk (N : Nat) (T : Tb) : Prop where
  kind : KindOk T.kind
  len : T.regs.length ≤ N
  nex : NexL T.regs
  low : T.aptpl = false
theorem TOk.mono {N M : Nat} {T : Tb} (h : TOk N T) (hm : N ≤ M) : TOk M T := ⟨h.kind, Nat.le_trans h.len hm, h.nex, h.low⟩
/-- The table with its row. -/
def TR (w : World) (t : Nat) (v : Value) (T : Tb) : Prop := TB w t v T ∧ Row w 50 2 encR v T.regs ∧ v.ownBlock ≠ some t
theorem TR.mod {w w' : World} {t : Nat} {v : Value} {T : Tb} (h : TR w t v T) (m : Mod (fun _ => False) w w') : TR w' t v T := ⟨m.heap h.1 (fun e => e), h.2.1.mod m (fun _ _ e => e), h.2.2⟩
theorem TR.facts {w w' : World} {t : Nat} {v : Value} {T : Tb} (h : TR w t v T) (m : Mod (fun _ => False) w w') :
    (w'.cell? ⟨t, 0, none⟩ = some v ∧ w'.cell? ⟨t, 1, none⟩ = some (.int .u32 T.gen) ∧ w'.cell? ⟨t, 2, none⟩ = some (.int .u8 T.kind) ∧ w'.cell? ⟨t, 3, none⟩ = some (.int .i64 T.holder) ∧ w'.cell? ⟨t, 4, none⟩ = some (.bool T.aptpl)) ∧
      w'.frozen? ⟨t, 0, none⟩ = false ∧ w'.frozen? ⟨t, 1, none⟩ = false ∧ w'.frozen? ⟨t, 2, none⟩ = false ∧ w'.frozen? ⟨t, 3, none⟩ = false ∧ w'.frozen? ⟨t, 4, none⟩ = false := by
  have k := (h.mod m).1
  exact ⟨k.cells, k.fr 0, k.fr 1, k.fr 2, k.fr 3, k.fr 4⟩
/-- What a service leaves: the table, and who is to be told. -/
def SvP (t : Nat) (w : World) (v : Value) (N : Nat) (V : Value) (w' : World) : Prop :=
  ∃ evs v' T', Row w' 201 2 encE V evs ∧ EvL evs ∧ evs.length ≤ 2 * N + 2 ∧ (∀ b, V.ownBlock = some b → w.heap.size ≤ b) ∧ TR w' t v' T' ∧ (∀ b, v'.ownBlock = some b → v.ownBlock = some b ∨ w.heap.size ≤ b) ∧ TOk (N + 1) T' ∧ Mod (fun k => k = t) w w'
theorem SvP.same {t : Nat} {w w' : World} {v : Value} {N : Nat} {T : Tb} (h : TR w t v T) (hk : TOk N T) (m : Mod (fun _ => False) w w') : SvP t w v N (.slice none 0 0) w' :=
  ⟨[], v, T, Row.nil _ _ _ _, fun r hr => by simp at hr, Nat.zero_le _, by simp [Value.ownBlock], h.mod m, fun _ hb => .inl hb, hk.mono (by omega), m.mono (fun _ _ e => e.elim)⟩
theorem outA_cells {w : World} {g : Nat} {sv ty key act : Int} (h : w.heap[g]? = some (.cells (outA sv ty key act) 43 (0, 0))) :
    w.cell? ⟨g, 0, none⟩ = some (.int .u8 sv) ∧ w.cell? ⟨g, 1, none⟩ = some (.int .u8 ty) ∧ w.cell? ⟨g, 2, none⟩ = some (.int .u64 key) ∧ w.cell? ⟨g, 3, none⟩ = some (.int .u64 act) ∧ w.cell? ⟨g, 4, none⟩ = some (.bool false) := by
  refine ⟨?_, ?_, ?_, ?_, ?_⟩ <;> rw [cell_of_row w g _ _ 43 (0, 0) h] <;> rfl
theorem KindOk.of {k : Int} (h : k = 1 ∨ k = 3 ∨ k = 5 ∨ k = 6 ∨ k = 7 ∨ k = 8) : KindOk k := .inr h
/-- What a service answers. -/
def SvR (t : Nat) (w : World) (v : Value) (N : Nat) (e : Ending) (w' : World) : Prop := ∃ st code A m c, e = .returned (.tuple #[.int .u8 st, .int .u16 code, .slice A m c]) ∧ (st = 0 ∨ st = 2 ∨ st = 24) ∧ SvP t w v N (.slice A m c) w'
theorem SvP.put {t : Nat} {w : World} {v : Value} {N : Nat} {T : Tb} (h : TR w t v T) (hk : TOk N T) (ty n : Int) (hq : ty = 1 ∨ ty = 3 ∨ ty = 5 ∨ ty = 6 ∨ ty = 7 ∨ ty = 8) (W : World) (m : Mod (fun _ => False) w W) :
    SvP t w v N (.slice none 0 0) ((W.setCell ⟨t, 2, none⟩ (.int .u8 ty)).setCell ⟨t, 3, none⟩ (.int .i64 n)) := by
  have hT := h.mod m
  have ms : Mod (fun k => k = t) W ((W.setCell ⟨t, 2, none⟩ (.int .u8 ty)).setCell ⟨t, 3, none⟩ (.int .i64 n)) := mod_s (mod_s (Mod.refl _ _))
  exact ⟨[], v, { T with kind := ty, holder := n }, Row.nil _ _ _ _, fun r hr => (List.not_mem_nil hr).elim, Nat.zero_le _, by simp [Value.ownBlock], ⟨(hT.1.s2 ty).s3 n, hT.2.1.mod ms (fun k hk e => hT.2.2 (by rw [hk, e])), hT.2.2⟩, fun _ hb => .inl hb, ⟨KindOk.of hq, Nat.le_trans hk.len (by omega), hk.nex, hk.low⟩, (m.mono (fun _ _ e => e.elim)).trans ms (fun _ _ e => e)⟩
set_option maxHeartbeats 4000000 in
theorem reserve_any (t : Nat) (n sv ty key act : Int) (v : Value) (T : Tb) (N : Nat) (w : World) (h : TR w t v T) (hk : TOk N T) (hN : N ≤ 1000) :
    Calls Tryz.prog 126 #[.pointer (some ⟨t, 0, none⟩), .int .i64 n, .agg (outA sv ty key act)] w (SvR t w v N) := by
  have hty := fun W => types_any ty W
  have hfa := fun W (m : Mod (fun _ => False) w W) => h.facts m
  have hho := fun W (m : Mod (fun _ => False) w W) => holds_any t n v T W (h.mod m).1 (h.mod m).2.1 (Nat.le_trans hk.len (by omega)) hk.kind
  have hsame : ∀ W, Mod (fun _ => False) w W → SvP t w v N (.slice none 0 0) W := fun W m => SvP.same h hk m
  have hput := fun hq W m => SvP.put h hk ty n hq W m
  obtain ⟨kd, hkd⟩ : ∃ kd, kd = T.kind := ⟨_, rfl⟩
  obtain ⟨hb, hhb⟩ : ∃ hb, hb = holdsB T n := ⟨_, rfl⟩
  rw [← hkd] at hfa
  rw [← hhb] at hho
  clear hkd hhb
  replace hty := hide hty; replace hfa := hide hfa; replace hho := hide hho; replace hsame := hide hsame; replace hput := hide hput
  clear h hk
  have h0 : (kd == 0) = true ∨ (kd == 0) = false ∧ hb = false ∨ (kd == 0) = false ∧ hb = true ∧ (kd == ty) = true ∨ (kd == 0) = false ∧ hb = true ∧ (kd == ty) = false := by
    cases (kd == 0) <;> cases hb <;> cases (kd == ty) <;> simp
  rcases h0 with h0 | ⟨h0, rfl⟩ | ⟨h0, rfl, h1⟩ | ⟨h0, rfl, h1⟩
  all_goals
    go_enter Tryz.func126, Tryz.ntmps126
    go_wp2_with (first
      | (refine list_box 43 (.tmp 2) rfl rfl (outA sv ty key act) rfl ?_
         intro w1 g hg hcm1 m1 hz
         obtain ⟨o0, o1, o2, o3, o4⟩ := outA_cells hcm1
         obtain ⟨⟨-, -, c2, c3, -⟩, -, -, f2, f3, -⟩ := hfa.out w1 m1
         replace hcm1 := hide hcm1; replace m1 := hide m1; replace hz := hide hz; replace hg := hide hg)
      | (go_at_call 118; (with_reducible refine (hty.out _).mono ?_); rintro e w2 ⟨⟨b, rfl, hbt⟩, rfl⟩; replace hbt := hide hbt; rcases b; skip; skip))
  · go_ret3
    exact ⟨_, _, _, _, _, rfl, .inr (.inl rfl), hsame.out _ m1.out⟩
  · go_ret3
    exact ⟨_, _, _, _, _, rfl, .inl rfl, hput.out (hbt.out trivial) _ m1.out⟩
  · go_ret3
    exact ⟨_, _, _, _, _, rfl, .inr (.inl rfl), hsame.out _ m1.out⟩
  · refine wp_region_held_drew (S := (fun w' => w'.cell? ⟨t, 2, none⟩ = some (.int .u8 kd) ∧ w'.cell? ⟨g, 1, none⟩ = some (.int .u8 ty))) (by kernel_rfl) ?_ (fun hHeld => ?_)
    · exact ⟨c2, o1⟩
    refine wpAnyH_take (i := 0) (oi := ⟨_, _, _, _, _, _⟩) (v := ?_) rfl (by kernel_rfl) (by kernel_rfl) (by kernel_rfl) (fun _ _ _ h => h) (Or.inl ⟨by rfl, ?_⟩) (by assumption) ?_
    rotate_left 1
    · intro w hSw
      (try dsimp only at hSw)
      go_simp
      try with_reducible rfl
    try simp only [Act.put, List.setIfInBounds_toArray, List.set_cons_zero, List.set_cons_succ]
    refine wpAnyH_take (i := 1) (oi := ⟨_, _, _, _, _, _⟩) (v := ?_) rfl (by kernel_rfl) (by kernel_rfl) (by kernel_rfl) (fun _ _ _ h => h) (Or.inl ⟨by rfl, ?_⟩) (by assumption) ?_
    rotate_left 1
    · intro w hSw
      (try dsimp only at hSw)
      go_simp
      try with_reducible rfl
    try simp only [Act.put, List.setIfInBounds_toArray, List.set_cons_zero, List.set_cons_succ]
    refine wpAnyH_ready (rs := [2]) (by kernel_rfl) (by simp) ?_
    refine AllReadyH.cons rfl (fun K hK => ?_) ?_
    rotate_left 1
    · exact AllReadyH.nil
    go_simp
    (go_at_call 50; (with_reducible refine (hho.out _ m1.out.drew).mono ?_); rintro e w2 ⟨rfl, m2⟩
     have M2 := m1.out.drew.trans m2 (fun _ _ e => e)
     obtain ⟨⟨-, -, c22, -, -⟩, -⟩ := hfa.out w2 M2
     have o12 := (outA_cells (m2.heap (show w1.drew.heap[g]? = _ from hcm1.out) (fun e => e))).2.1
     replace m2 := hide m2; replace M2 := hide M2)
    go_wp2_with fail
    refine hK.out _ _ ?_ (fun hHeld => ?_)
    · exact ⟨c22, o12⟩
    clear hK K
    try simp only [Act.put, List.setIfInBounds_toArray, List.set_cons_zero, List.set_cons_succ]
    refine wpAnyH_take (i := 3) (oi := ⟨_, _, _, _, _, _⟩) (v := ?_) rfl (by kernel_rfl) (by kernel_rfl) (by kernel_rfl) (fun _ _ _ h => h) (Or.inl ⟨by rfl, ?_⟩) (by assumption) ?_
    rotate_left 1
    · intro w hSw
      (try dsimp only at hSw)
      go_simp
      try with_reducible rfl
    try simp only [Act.put, List.setIfInBounds_toArray, List.set_cons_zero, List.set_cons_succ]
    refine wpAnyH_take (i := 4) (oi := ⟨_, _, _, _, _, _⟩) (v := undef) rfl (by kernel_rfl) (by kernel_rfl) (by kernel_rfl) (fun _ _ _ h => h) (Or.inr ⟨by rfl, rfl⟩) (by assumption) ?_
    try simp only [Act.put, List.setIfInBounds_toArray, List.set_cons_zero, List.set_cons_succ]
    refine wpAnyH_take (i := 5) (oi := ⟨_, _, _, _, _, _⟩) (v := undef) rfl (by kernel_rfl) (by kernel_rfl) (by kernel_rfl) (fun _ _ _ h => h) (Or.inr ⟨by rfl, rfl⟩) (by assumption) ?_
    try simp only [Act.put, List.setIfInBounds_toArray, List.set_cons_zero, List.set_cons_succ]
    refine wpAnyH_take (i := 6) (oi := ⟨_, _, _, _, _, _⟩) (v := undef) rfl (by kernel_rfl) (by kernel_rfl) (by kernel_rfl) (fun _ _ _ h => h) (Or.inr ⟨by rfl, rfl⟩) (by assumption) ?_
    try simp only [Act.put, List.setIfInBounds_toArray, List.set_cons_zero, List.set_cons_succ]
    refine wpAnyH_take (i := 7) (oi := ⟨_, _, _, _, _, _⟩) (v := undef) rfl (by kernel_rfl) (by kernel_rfl) (by kernel_rfl) (fun _ _ _ h => h) (Or.inr ⟨by rfl, rfl⟩) (by assumption) ?_
    try simp only [Act.put, List.setIfInBounds_toArray, List.set_cons_zero, List.set_cons_succ]
    refine wpAnyH_take (i := 8) (oi := ⟨_, _, _, _, _, _⟩) (v := undef) rfl (by kernel_rfl) (by kernel_rfl) (by kernel_rfl) (fun _ _ _ h => h) (Or.inr ⟨by rfl, rfl⟩) (by assumption) ?_
    try simp only [Act.put, List.setIfInBounds_toArray, List.set_cons_zero, List.set_cons_succ]
    refine wpAnyH_take (i := 9) (oi := ⟨_, _, _, _, _, _⟩) (v := undef) rfl (by kernel_rfl) (by kernel_rfl) (by kernel_rfl) (fun _ _ _ h => h) (Or.inr ⟨by rfl, rfl⟩) (by assumption) ?_
    try simp only [Act.put, List.setIfInBounds_toArray, List.set_cons_zero, List.set_cons_succ]
    refine wpAnyH_take (i := 10) (oi := ⟨_, _, _, _, _, _⟩) (v := undef) rfl (by kernel_rfl) (by kernel_rfl) (by kernel_rfl) (fun _ _ _ h => h) (Or.inr ⟨by rfl, rfl⟩) (by assumption) ?_
    try simp only [Act.put, List.setIfInBounds_toArray, List.set_cons_zero, List.set_cons_succ]
    refine wpAnyH_take (i := 11) (oi := ⟨_, _, _, _, _, _⟩) (v := ?_) rfl (by kernel_rfl) (by kernel_rfl) (by kernel_rfl) (fun _ _ _ h => h) (Or.inl ⟨by rfl, ?_⟩) (by assumption) ?_
    rotate_left 1
    · intro w hSw
      (try dsimp only at hSw)
      go_simp
      try with_reducible rfl
    try simp only [Act.put, List.setIfInBounds_toArray, List.set_cons_zero, List.set_cons_succ]
    refine wpAnyH_take (i := 12) (oi := ⟨_, _, _, _, _, _⟩) (v := ?_) rfl (by kernel_rfl) (by kernel_rfl) (by kernel_rfl) (fun _ _ _ h => h) (Or.inl ⟨by rfl, ?_⟩) (by assumption) ?_
    rotate_left 1
    · intro w hSw
      (try dsimp only at hSw)
      go_simp
      try with_reducible rfl
    try simp only [Act.put, List.setIfInBounds_toArray, List.set_cons_zero, List.set_cons_succ]
    refine wpAnyH_done (by kernel_rfl) ?_ _
    go_wp2_with fail
    go_ret3
    exact ⟨_, _, _, _, _, rfl, .inr (.inr rfl), hsame.out _ M2.out⟩
  · go_ret3
    exact ⟨_, _, _, _, _, rfl, .inr (.inl rfl), hsame.out _ m1.out⟩
  · refine wp_region_held_drew (S := (fun w' => w'.cell? ⟨t, 2, none⟩ = some (.int .u8 kd) ∧ w'.cell? ⟨g, 1, none⟩ = some (.int .u8 ty))) (by kernel_rfl) ?_ (fun hHeld => ?_)
    · exact ⟨c2, o1⟩
    refine wpAnyH_take (i := 0) (oi := ⟨_, _, _, _, _, _⟩) (v := ?_) rfl (by kernel_rfl) (by kernel_rfl) (by kernel_rfl) (fun _ _ _ h => h) (Or.inl ⟨by rfl, ?_⟩) (by assumption) ?_
    rotate_left 1
    · intro w hSw
      (try dsimp only at hSw)
      go_simp
      try with_reducible rfl
    try simp only [Act.put, List.setIfInBounds_toArray, List.set_cons_zero, List.set_cons_succ]
    refine wpAnyH_take (i := 1) (oi := ⟨_, _, _, _, _, _⟩) (v := ?_) rfl (by kernel_rfl) (by kernel_rfl) (by kernel_rfl) (fun _ _ _ h => h) (Or.inl ⟨by rfl, ?_⟩) (by assumption) ?_
    rotate_left 1
    · intro w hSw
      (try dsimp only at hSw)
      go_simp
      try with_reducible rfl
    try simp only [Act.put, List.setIfInBounds_toArray, List.set_cons_zero, List.set_cons_succ]
    refine wpAnyH_ready (rs := [2]) (by kernel_rfl) (by simp) ?_
    refine AllReadyH.cons rfl (fun K hK => ?_) ?_
    rotate_left 1
    · exact AllReadyH.nil
    go_simp
    (go_at_call 50; (with_reducible refine (hho.out _ m1.out.drew).mono ?_); rintro e w2 ⟨rfl, m2⟩
     have M2 := m1.out.drew.trans m2 (fun _ _ e => e)
     obtain ⟨⟨-, -, c22, -, -⟩, -⟩ := hfa.out w2 M2
     have o12 := (outA_cells (m2.heap (show w1.drew.heap[g]? = _ from hcm1.out) (fun e => e))).2.1
     replace m2 := hide m2; replace M2 := hide M2)
    go_wp2_with fail
    refine hK.out _ _ ?_ (fun hHeld => ?_)
    · exact ⟨c22, o12⟩
    clear hK K
    try simp only [Act.put, List.setIfInBounds_toArray, List.set_cons_zero, List.set_cons_succ]
    refine wpAnyH_take (i := 3) (oi := ⟨_, _, _, _, _, _⟩) (v := ?_) rfl (by kernel_rfl) (by kernel_rfl) (by kernel_rfl) (fun _ _ _ h => h) (Or.inl ⟨by rfl, ?_⟩) (by assumption) ?_
    rotate_left 1
    · intro w hSw
      (try dsimp only at hSw)
      go_simp
      try with_reducible rfl
    try simp only [Act.put, List.setIfInBounds_toArray, List.set_cons_zero, List.set_cons_succ]
    refine wpAnyH_take (i := 4) (oi := ⟨_, _, _, _, _, _⟩) (v := ?_) rfl (by kernel_rfl) (by kernel_rfl) (by kernel_rfl) (fun _ _ _ h => h) (Or.inl ⟨by rfl, ?_⟩) (by assumption) ?_
    rotate_left 1
    · intro w hSw
      (try dsimp only at hSw)
      go_simp
      try with_reducible rfl
    try simp only [Act.put, List.setIfInBounds_toArray, List.set_cons_zero, List.set_cons_succ]
    refine wpAnyH_take (i := 5) (oi := ⟨_, _, _, _, _, _⟩) (v := ?_) rfl (by kernel_rfl) (by kernel_rfl) (by kernel_rfl) (fun _ _ _ h => h) (Or.inl ⟨by rfl, ?_⟩) (by assumption) ?_
    rotate_left 1
    · intro w hSw
      (try dsimp only at hSw)
      go_simp
      try with_reducible rfl
    try simp only [Act.put, List.setIfInBounds_toArray, List.set_cons_zero, List.set_cons_succ]
    refine wpAnyH_take (i := 6) (oi := ⟨_, _, _, _, _, _⟩) (v := ?_) rfl (by kernel_rfl) (by kernel_rfl) (by kernel_rfl) (fun _ _ _ h => h) (Or.inl ⟨by rfl, ?_⟩) (by assumption) ?_
    rotate_left 1
    · intro w hSw
      (try dsimp only at hSw)
      go_simp
      try with_reducible rfl
    try simp only [Act.put, List.setIfInBounds_toArray, List.set_cons_zero, List.set_cons_succ]
    refine wpAnyH_take (i := 7) (oi := ⟨_, _, _, _, _, _⟩) (v := ?_) rfl (by kernel_rfl) (by kernel_rfl) (by kernel_rfl) (fun _ _ _ h => h) (Or.inl ⟨by rfl, ?_⟩) (by assumption) ?_
    rotate_left 1
    · intro w hSw
      (try dsimp only at hSw)
      go_simp
      try with_reducible rfl
    try simp only [Act.put, List.setIfInBounds_toArray, List.set_cons_zero, List.set_cons_succ]
    refine wpAnyH_take (i := 8) (oi := ⟨_, _, _, _, _, _⟩) (v := ?_) rfl (by kernel_rfl) (by kernel_rfl) (by kernel_rfl) (fun _ _ _ h => h) (Or.inl ⟨by rfl, ?_⟩) (by assumption) ?_
    rotate_left 1
    · intro w hSw
      (try dsimp only at hSw)
      go_simp
      try with_reducible rfl
    try simp only [Act.put, List.setIfInBounds_toArray, List.set_cons_zero, List.set_cons_succ]
    refine wpAnyH_take (i := 9) (oi := ⟨_, _, _, _, _, _⟩) (v := ?_) rfl (by kernel_rfl) (by kernel_rfl) (by kernel_rfl) (fun _ _ _ h => h) (Or.inl ⟨by rfl, ?_⟩) (by assumption) ?_
    rotate_left 1
    · intro w hSw
      (try dsimp only at hSw)
      go_simp
      try with_reducible rfl
    try simp only [Act.put, List.setIfInBounds_toArray, List.set_cons_zero, List.set_cons_succ]
    refine wpAnyH_take (i := 10) (oi := ⟨_, _, _, _, _, _⟩) (v := ?_) rfl (by kernel_rfl) (by kernel_rfl) (by kernel_rfl) (fun _ _ _ h => h) (Or.inl ⟨by rfl, ?_⟩) (by assumption) ?_
    rotate_left 1
    · intro w hSw
      (try dsimp only at hSw)
      go_simp
      try with_reducible rfl
    try simp only [Act.put, List.setIfInBounds_toArray, List.set_cons_zero, List.set_cons_succ]
    refine wpAnyH_take (i := 11) (oi := ⟨_, _, _, _, _, _⟩) (v := ?_) rfl (by kernel_rfl) (by kernel_rfl) (by kernel_rfl) (fun _ _ _ h => h) (Or.inl ⟨by rfl, ?_⟩) (by assumption) ?_
    rotate_left 1
    · intro w hSw
      (try dsimp only at hSw)
      go_simp
      try with_reducible rfl
    try simp only [Act.put, List.setIfInBounds_toArray, List.set_cons_zero, List.set_cons_succ]
    refine wpAnyH_take (i := 12) (oi := ⟨_, _, _, _, _, _⟩) (v := ?_) rfl (by kernel_rfl) (by kernel_rfl) (by kernel_rfl) (fun _ _ _ h => h) (Or.inl ⟨by rfl, ?_⟩) (by assumption) ?_
    rotate_left 1
    · intro w hSw
      (try dsimp only at hSw)
      go_simp
      try with_reducible rfl
    try simp only [Act.put, List.setIfInBounds_toArray, List.set_cons_zero, List.set_cons_succ]
    refine wpAnyH_done (by kernel_rfl) ?_ _
    go_wp2_with fail
    go_ret3
    exact ⟨_, _, _, _, _, rfl, .inl rfl, hsame.out _ M2.out⟩
  · go_ret3
    exact ⟨_, _, _, _, _, rfl, .inr (.inl rfl), hsame.out _ m1.out⟩
  · refine wp_region_held_drew (S := (fun w' => w'.cell? ⟨t, 2, none⟩ = some (.int .u8 kd) ∧ w'.cell? ⟨g, 1, none⟩ = some (.int .u8 ty))) (by kernel_rfl) ?_ (fun hHeld => ?_)
    · exact ⟨c2, o1⟩
    refine wpAnyH_take (i := 0) (oi := ⟨_, _, _, _, _, _⟩) (v := ?_) rfl (by kernel_rfl) (by kernel_rfl) (by kernel_rfl) (fun _ _ _ h => h) (Or.inl ⟨by rfl, ?_⟩) (by assumption) ?_
    rotate_left 1
    · intro w hSw
      (try dsimp only at hSw)
      go_simp
      try with_reducible rfl
    try simp only [Act.put, List.setIfInBounds_toArray, List.set_cons_zero, List.set_cons_succ]
    refine wpAnyH_take (i := 1) (oi := ⟨_, _, _, _, _, _⟩) (v := ?_) rfl (by kernel_rfl) (by kernel_rfl) (by kernel_rfl) (fun _ _ _ h => h) (Or.inl ⟨by rfl, ?_⟩) (by assumption) ?_
    rotate_left 1
    · intro w hSw
      (try dsimp only at hSw)
      go_simp
      try with_reducible rfl
    try simp only [Act.put, List.setIfInBounds_toArray, List.set_cons_zero, List.set_cons_succ]
    refine wpAnyH_ready (rs := [2]) (by kernel_rfl) (by simp) ?_
    refine AllReadyH.cons rfl (fun K hK => ?_) ?_
    rotate_left 1
    · exact AllReadyH.nil
    go_simp
    (go_at_call 50; (with_reducible refine (hho.out _ m1.out.drew).mono ?_); rintro e w2 ⟨rfl, m2⟩
     have M2 := m1.out.drew.trans m2 (fun _ _ e => e)
     obtain ⟨⟨-, -, c22, -, -⟩, -⟩ := hfa.out w2 M2
     have o12 := (outA_cells (m2.heap (show w1.drew.heap[g]? = _ from hcm1.out) (fun e => e))).2.1
     replace m2 := hide m2; replace M2 := hide M2)
    go_wp2_with fail
    refine hK.out _ _ ?_ (fun hHeld => ?_)
    · exact ⟨c22, o12⟩
    clear hK K
    try simp only [Act.put, List.setIfInBounds_toArray, List.set_cons_zero, List.set_cons_succ]
    refine wpAnyH_take (i := 3) (oi := ⟨_, _, _, _, _, _⟩) (v := ?_) rfl (by kernel_rfl) (by kernel_rfl) (by kernel_rfl) (fun _ _ _ h => h) (Or.inl ⟨by rfl, ?_⟩) (by assumption) ?_
    rotate_left 1
    · intro w hSw
      (try dsimp only at hSw)
      go_simp
      try with_reducible rfl
    try simp only [Act.put, List.setIfInBounds_toArray, List.set_cons_zero, List.set_cons_succ]
    refine wpAnyH_take (i := 4) (oi := ⟨_, _, _, _, _, _⟩) (v := ?_) rfl (by kernel_rfl) (by kernel_rfl) (by kernel_rfl) (fun _ _ _ h => h) (Or.inl ⟨by rfl, ?_⟩) (by assumption) ?_
    rotate_left 1
    · intro w hSw
      (try dsimp only at hSw)
      go_simp
      try with_reducible rfl
    try simp only [Act.put, List.setIfInBounds_toArray, List.set_cons_zero, List.set_cons_succ]
    refine wpAnyH_take (i := 5) (oi := ⟨_, _, _, _, _, _⟩) (v := ?_) rfl (by kernel_rfl) (by kernel_rfl) (by kernel_rfl) (fun _ _ _ h => h) (Or.inl ⟨by rfl, ?_⟩) (by assumption) ?_
    rotate_left 1
    · intro w hSw
      (try dsimp only at hSw)
      go_simp
      try with_reducible rfl
    try simp only [Act.put, List.setIfInBounds_toArray, List.set_cons_zero, List.set_cons_succ]
    refine wpAnyH_take (i := 6) (oi := ⟨_, _, _, _, _, _⟩) (v := ?_) rfl (by kernel_rfl) (by kernel_rfl) (by kernel_rfl) (fun _ _ _ h => h) (Or.inl ⟨by rfl, ?_⟩) (by assumption) ?_
    rotate_left 1
    · intro w hSw
      (try dsimp only at hSw)
      go_simp
      try with_reducible rfl
    try simp only [Act.put, List.setIfInBounds_toArray, List.set_cons_zero, List.set_cons_succ]
    refine wpAnyH_take (i := 7) (oi := ⟨_, _, _, _, _, _⟩) (v := ?_) rfl (by kernel_rfl) (by kernel_rfl) (by kernel_rfl) (fun _ _ _ h => h) (Or.inl ⟨by rfl, ?_⟩) (by assumption) ?_
    rotate_left 1
    · intro w hSw
      (try dsimp only at hSw)
      go_simp
      try with_reducible rfl
    try simp only [Act.put, List.setIfInBounds_toArray, List.set_cons_zero, List.set_cons_succ]
    refine wpAnyH_take (i := 8) (oi := ⟨_, _, _, _, _, _⟩) (v := ?_) rfl (by kernel_rfl) (by kernel_rfl) (by kernel_rfl) (fun _ _ _ h => h) (Or.inl ⟨by rfl, ?_⟩) (by assumption) ?_
    rotate_left 1
    · intro w hSw
      (try dsimp only at hSw)
      go_simp
      try with_reducible rfl
    try simp only [Act.put, List.setIfInBounds_toArray, List.set_cons_zero, List.set_cons_succ]
    refine wpAnyH_take (i := 9) (oi := ⟨_, _, _, _, _, _⟩) (v := ?_) rfl (by kernel_rfl) (by kernel_rfl) (by kernel_rfl) (fun _ _ _ h => h) (Or.inl ⟨by rfl, ?_⟩) (by assumption) ?_
    rotate_left 1
    · intro w hSw
      (try dsimp only at hSw)
      go_simp
      try with_reducible rfl
    try simp only [Act.put, List.setIfInBounds_toArray, List.set_cons_zero, List.set_cons_succ]
    refine wpAnyH_take (i := 10) (oi := ⟨_, _, _, _, _, _⟩) (v := ?_) rfl (by kernel_rfl) (by kernel_rfl) (by kernel_rfl) (fun _ _ _ h => h) (Or.inl ⟨by rfl, ?_⟩) (by assumption) ?_
    rotate_left 1
    · intro w hSw
      (try dsimp only at hSw)
      go_simp
      try with_reducible rfl
    try simp only [Act.put, List.setIfInBounds_toArray, List.set_cons_zero, List.set_cons_succ]
    refine wpAnyH_take (i := 11) (oi := ⟨_, _, _, _, _, _⟩) (v := ?_) rfl (by kernel_rfl) (by kernel_rfl) (by kernel_rfl) (fun _ _ _ h => h) (Or.inl ⟨by rfl, ?_⟩) (by assumption) ?_
    rotate_left 1
    · intro w hSw
      (try dsimp only at hSw)
      go_simp
      try with_reducible rfl
    try simp only [Act.put, List.setIfInBounds_toArray, List.set_cons_zero, List.set_cons_succ]
    refine wpAnyH_take (i := 12) (oi := ⟨_, _, _, _, _, _⟩) (v := ?_) rfl (by kernel_rfl) (by kernel_rfl) (by kernel_rfl) (fun _ _ _ h => h) (Or.inl ⟨by rfl, ?_⟩) (by assumption) ?_
    rotate_left 1
    · intro w hSw
      (try dsimp only at hSw)
      go_simp
      try with_reducible rfl
    try simp only [Act.put, List.setIfInBounds_toArray, List.set_cons_zero, List.set_cons_succ]
    refine wpAnyH_done (by kernel_rfl) ?_ _
    go_wp2_with fail
    go_ret3
    exact ⟨_, _, _, _, _, rfl, .inr (.inr rfl), hsame.out _ M2.out⟩
set_option maxHeartbeats 4000000 in
theorem release_any (t : Nat) (n sv ty key act : Int) (v : Value) (T : Tb) (N : Nat) (w : World) (h : TR w t v T) (hk : TOk N T) (hN : N ≤ 1000) :
    Calls Tryz.prog 127 #[.pointer (some ⟨t, 0, none⟩), .int .i64 n, .agg (outA sv ty key act)] w (SvR t w v N) := by
  have hfa := fun W (m : Mod (fun _ => False) w W) => h.facts m
  have hho := fun W (m : Mod (fun _ => False) w W) => holds_any t n v T W (h.mod m).1 (h.mod m).2.1 (Nat.le_trans hk.len (by omega)) hk.kind
  have hfr := fun W (m : Mod (fun _ => False) w W) => free_any t n v T W (h.mod m).1 (h.mod m).2.1 h.2.2 (Nat.le_trans hk.len hN) hk.nex
  have hsame : ∀ W, Mod (fun _ => False) w W → SvP t w v N (.slice none 0 0) W := fun W m => SvP.same h hk m
  have hfree : ∀ W, Mod (fun _ => False) w W → ∀ e w', FrP t W v T e w' → ∃ A n c, e = .returned (.slice A n c) ∧ SvP t w v N (.slice A n c) w' := fun W m e w' hf => by
    obtain ⟨A, n, c, evs, rfl, f1, f2, f3, f4, f5, f6⟩ := hf
    have hT := h.mod m
    exact ⟨A, n, c, rfl, evs, v, _, f1, f2, Nat.le_trans f3 (Nat.le_trans hk.len (by omega)), fun b hb => Nat.le_trans m.size (f4 b hb), ⟨f5, hT.2.1.mod f6 (fun k hk e => hT.2.2 (by rw [hk, e])), hT.2.2⟩, fun _ hb => .inl hb, ⟨.inl rfl, Nat.le_trans hk.len (by omega), hk.nex, hk.low⟩, (m.mono (fun _ _ e => e.elim)).trans f6 (fun _ _ e => e)⟩
  obtain ⟨kd, hkd⟩ : ∃ kd, kd = T.kind := ⟨_, rfl⟩
  obtain ⟨hb, hhb⟩ : ∃ hb, hb = holdsB T n := ⟨_, rfl⟩
  rw [← hkd] at hfa
  rw [← hhb] at hho
  clear hkd hhb
  replace hfa := hide hfa; replace hho := hide hho; replace hsame := hide hsame; replace hfr := hide hfr; replace hfree := hide hfree
  clear h hk
  have h0 : hb = false ∨ hb = true ∧ (kd != ty) = true ∨ hb = true ∧ (kd != ty) = false := by
    cases hb <;> cases (kd != ty) <;> simp
  rcases h0 with rfl | ⟨rfl, h1⟩ | ⟨rfl, h1⟩
  all_goals
    go_enter Tryz.func127, Tryz.ntmps127
    go_wp2_with (first
      | (refine list_box 43 (.tmp 2) rfl rfl (outA sv ty key act) rfl ?_
         intro w1 g hg hcm1 m1 hz
         have hho1 := hho.out w1 m1
         replace hcm1 := hide hcm1; replace m1 := hide m1; replace hz := hide hz; replace hg := hide hg; replace hho1 := hide hho1)
      | (go_at_call 50; (with_reducible refine hho1.out.mono ?_); rintro e w2 ⟨rfl, m2⟩
         have M2 := m1.out.trans m2 (fun _ _ e => e)
         obtain ⟨⟨-, -, c22, c23, -⟩, -⟩ := hfa.out w2 M2
         have o12 := (outA_cells (m2.heap hcm1.out (fun e => e))).2.1
         have hfr2 := hfr.out w2.drew M2.drew
         replace m2 := hide m2; replace M2 := hide M2; replace hfr2 := hide hfr2))
  · go_ret3
    exact ⟨_, _, _, _, _, rfl, .inl rfl, hsame.out _ M2.out⟩
  · go_region
    go_wp2_with fail
    go_ret3
    exact ⟨_, _, _, _, _, rfl, .inr (.inl rfl), hsame.out _ M2.out.drew⟩
  · go_region
    go_wp2_with (first
      | (go_at_call 155; (with_reducible refine hfr2.out.mono ?_); rintro e w3 hf
         obtain ⟨A3, n3, c3, rfl, hS3⟩ := hfree.out _ M2.out.drew e w3 hf
         replace hS3 := hide hS3; clear hf))
    go_ret3
    exact ⟨_, _, _, _, _, rfl, .inl rfl, hS3.out⟩
end Go.Proofs.YtjkpelbhhapebaaGreatDoor
namespace Go.Proofs.YtjkpelbhhapebaaGreatDoor
open Go.RowKit
set_option maxRecDepth 100000
/-- What a service with events alone answers. -/
def SvS (t : Nat) (w : World) (v : Value) (N : Nat) (e : Ending) (w' : World) : Prop := ∃ A m c, e = .returned (.slice A m c) ∧ SvP t w v N (.slice A m c) w'
set_option maxHeartbeats 4000000 in
theorem clear_any (t : Nat) (n : Int) (v : Value) (T : Tb) (N : Nat) (w : World) (h : TR w t v T) (hk : TOk N T) (hN : N ≤ 1000) :
    Calls Tryz.prog 128 #[.pointer (some ⟨t, 0, none⟩), .int .i64 n] w (SvS t w v N) := by
  have hfa := fun W (m : Mod (fun _ => False) w W) => h.facts m
  obtain ⟨⟨k0, -⟩, -⟩ := hfa w (Mod.refl _ _)
  have ht := h.1.lt
  have hl := hk.len
  have hN8 := hk.nex
  obtain ⟨A, m, c, rfl⟩ := h.2.1.form
  have hrd := h.2.1.rd encR_len rfl
  have hlen : T.regs.length = m := hrd.1
  have hP : Hid (GR 201 encE w w (.slice none 0 0) ([] : List Ev)) := hide (GR.nil _ _ (Mod.refl _ _))
  have hfin : ∀ W V (L : List Ev), GR 201 encE w W V L → EvL L → L.length ≤ N → SvP t w (.slice A m c) N V ((((W.setCell ⟨t, 0, none⟩ (.slice none 0 0)).setCell ⟨t, 2, none⟩ (.int .u8 0)).setCell ⟨t, 3, none⟩ (.int .i64 (-1))).setCell ⟨t, 1, none⟩ (.int .u32 (IntKind.u32.wrap (T.gen + 1)))) := fun W V L hg he hln => by
    have hT := h.mod hg.2.2
    have ms : Mod (fun k => k = t) W ((((W.setCell ⟨t, 0, none⟩ (.slice none 0 0)).setCell ⟨t, 2, none⟩ (.int .u8 0)).setCell ⟨t, 3, none⟩ (.int .i64 (-1))).setCell ⟨t, 1, none⟩ (.int .u32 (IntKind.u32.wrap (T.gen + 1)))) := mod_s (mod_s (mod_s (mod_s (Mod.refl _ _))))
    exact ⟨L, .slice none 0 0, _, hg.1.mod ms (fun k hk e => by have := hg.2.1 k hk; omega), he, by omega, hg.2.1, ⟨((((hT.1.s0 (.slice none 0 0)).row []).s2 0).s3 (-1)).s1 _, Row.nil _ _ _ _, by simp [Value.ownBlock]⟩, by simp [Value.ownBlock], ⟨.inl rfl, Nat.zero_le _, fun r hr => (List.not_mem_nil hr).elim, hk.low⟩, (hg.2.2.mono (fun _ _ e => e.elim)).trans ms (fun _ _ e => e)⟩
  obtain ⟨l, hl0⟩ : ∃ l, l = T.regs := ⟨_, rfl⟩
  rw [← hl0] at hrd hlen hl hN8
  clear hl0
  have hlm : m ≤ 1000 := by omega
  have hmN : m ≤ N := by omega
  replace hrd := hide hrd; replace hlen := hide hlen; replace hfa := hide hfa; replace hN8 := hide hN8; replace hfin := hide hfin
  clear h hk
  go_enter Tryz.func128, Tryz.ntmps128
  go_wp2_with fail
  go_loopw [5, 13] (fun u x wr => ∃ k : Nat, k ≤ m ∧ x = .int .i64 k ∧ (∃ A n c, u = .slice A n c) ∧ Hid (GR 201 encE w wr u (((l.take k).filter (fun r => r.1 != n)).map fun r => (r.1, (10755 : Int))))) (fun _ x _ => m - (intOf x).toNat)
  case atStart => exact ⟨0, Nat.zero_le _, rfl, ⟨_, _, _, rfl⟩, hP⟩
  case round =>
    obtain ⟨k, hk, rfl, ⟨A1, n1, c1, rfl⟩, hR⟩ := hrel
    by_cases hkm : k < m
    · obtain ⟨ad, rfl, hc⟩ := (hrd.out.mod hR.out.2.2 (fun _ _ e => e)).2 k hkm
      obtain ⟨r, hrk⟩ : ∃ r, r = gi l k := ⟨_, rfl⟩
      rw [← hrk] at hc
      have hcc : ∀ j u, ([.int .i64 r.1, .int .u64 r.2] : List Value)[j]? = some u → wr.cell? ((ad.add (k * 2)).add j) = some u := fun j u hu => by rw [addr_add]; exact hc j u hu
      have q1 : (k : Int) < m := by omega
      have hkl : k < l.length := by rw [hlen.out]; exact hkm
      have fl : (((l.take k).filter (fun r => r.1 != n)).map fun r => (r.1, (10755 : Int))).length ≤ 1000 := by
        have := filt_len (fun r => r.1 != n) l k
        rw [List.length_map]
        omega
      clear hc
      replace hcc := hide hcc; replace hrk := hide hrk; replace hkl := hide hkl; replace fl := hide fl
      cases hb : (r.1 != n)
      all_goals
        replace hb := hide hb
        have hbb := hb.out
        go_wp2_with (first
        | ((with_reducible refine list_load 50 (.tmp 15) ?_ ?_ _ Tryz.underlying50 ?_ (ad.add (k * 2)) ([.int .i64 r.1, .int .u64 r.2] : List Value) ?_ ?_ hcc.out ?_)
           exact rfl
           exact rfl
           exact rfl
           exact size50
           exact rfl
           skip)
        | ((with_reducible refine list_al 50 _ new50 ?_ ?_ ?_)
           exact rfl
           exact rfl
           intro w2 g2 hg2 h2 m2 s2
           replace hg2 := hide hg2; replace h2 := hide h2; replace m2 := hide m2; replace s2 := hide s2)
        | ((with_reducible refine list_put 50 (.tmp 7) (.tmp 16) ?_ ?_ g2 #[.int .i64 r.1, .int .u64 r.2] ?_ ?_ z50 h2.out ?_ ?_ ?_ ?_)
           exact rfl
           exact rfl
           exact rfl
           exact rfl
           exact rfl
           exact size50
           exact rg_one r
           intro w3 h3 m3
           have x0 : w3.cell? ⟨g2, 0, none⟩ = some (.int .i64 r.1) := by rw [cell_of_row w3 _ _ _ 50 (0, 0) h3]; rfl
           have x1 : w3.cell? ⟨g2, 1, none⟩ = some (.int .u64 r.2) := by rw [cell_of_row w3 _ _ _ 50 (0, 0) h3]; rfl
           have M3 : Mod (fun _ => False) wr w3 := m2.out.trans m3 (fun k hk e => by have := hg2.out; omega)
           have hb0 : ∀ j u, ([.int .i64 r.1, .int .u64 r.2] : List Value)[j]? = some u → w3.cell? ((⟨g2, 0, none⟩ : Addr).add j) = some u := fun j u hu => box_cells h3 j u hu
           have R3 := hR.out.keep M3
           replace M3 := hide M3; replace h3 := hide h3; replace m3 := hide m3; replace R3 := hide R3; replace hb0 := hide hb0)
        | (at_builtin; refine list_app (.tmp 21) (.tmp 25) 197 201 _ 2 16 encE rfl rfl encE_len encE_one Tryz.underlying197 elem201 (.slice A1 n1 c1) _ (some ⟨w3.heap.size, 0, none⟩) 1 1 [(r.1, (10755 : Int))] rfl rfl (R3.out.1.alloc _) (Rd.box _ _ _ _) (by have := fl.out; simp only [maxLen]; omega) (by have := fl.out; omega) ?_
           intro v4 w4 r4 g4 a4
           have R4 := R3.out.add r4 g4 a4
           obtain ⟨A4, n4, c4, rfl⟩ := r4.form
           replace R4 := hide R4; clear r4 g4 a4))
      · exact ⟨⟨k + 1, by omega, rfl, ⟨_, _, _, rfl⟩, hide (by rw [filt_no _ l k hkl.out (by rw [← hrk.out]; exact hb.out)]; exact R3.out)⟩, by simp [intOf]; omega⟩
      · exact ⟨⟨k + 1, by omega, rfl, ⟨_, _, _, rfl⟩, hide (by rw [filt_yes _ l k hkl.out (by rw [← hrk.out]; exact hb.out), List.map_append, ← hrk.out]; exact R4.out)⟩, by simp [intOf]; omega⟩
    · obtain rfl : m = k := by omega
      have q1 : decide ((m : Int) < m) = false := by simp
      obtain ⟨⟨c0, c1, c2, c3, -⟩, f0, f1, f2, f3, -⟩ := hfa.out wr hR.out.2.2
      have hE : EvL (((l.take m).filter (fun r => r.1 != n)).map fun r => (r.1, (10755 : Int))) := by
        intro r hr
        obtain ⟨q, hq, rfl⟩ := List.mem_map.1 hr
        have := hN8.out q (List.mem_of_mem_take (List.mem_filter.1 hq).1)
        exact ⟨this.1, this.2, u16_55⟩
      have hL : (((l.take m).filter (fun r => r.1 != n)).map fun r => (r.1, (10755 : Int))).length ≤ N := by
        have := filt_len (fun r => r.1 != n) l m
        rw [List.length_map]
        omega
      have hF := hfin.out wr _ _ hR.out hE hL
      obtain ⟨ng, hng⟩ : ∃ ng, ng = IntKind.u32.wrap (T.gen + 1) := ⟨_, rfl⟩
      rw [← hng] at hF
      replace hng := hng.symm
      replace hF := hide hF; replace hE := hide hE; replace hL := hide hL
      go_wp2_with fail
      go_ret
      exact ⟨_, _, _, rfl, hF.out⟩
end Go.Proofs.YtjkpelbhhapebaaGreatDoor
namespace Go.Proofs.YtjkpelbhhapebaaGreatDoor
open Go.RowKit
set_option maxRecDepth 100000
theorem SvP.fin {t : Nat} {w W : World} {v v' V : Value} {N : Nat} {T' : Tb} {evs : List Ev} (r : Row W 201 2 encE V evs) (he : EvL evs) (hl : evs.length ≤ 2 * N + 2) (hV : ∀ b, V.ownBlock = some b → w.heap.size ≤ b) (ht : TR W t v' T')
    (hv : ∀ b, v'.ownBlock = some b → v.ownBlock = some b ∨ w.heap.size ≤ b) (hk : TOk (N + 1) T') (m : Mod (fun k => k = t) w W) (htw : t < w.heap.size) (ng : Int) :
    SvP t w v N V ((W.setCell ⟨t, 4, none⟩ (.bool false)).setCell ⟨t, 1, none⟩ (.int .u32 ng)) := by
  have ms : Mod (fun k => k = t) W ((W.setCell ⟨t, 4, none⟩ (.bool false)).setCell ⟨t, 1, none⟩ (.int .u32 ng)) := mod_s (mod_s (Mod.refl _ _))
  exact ⟨evs, v', _, r.mod ms (fun k hk e => by have := hV k hk; omega), he, hl, hV, ⟨(ht.1.s4 false).s1 ng, ht.2.1.mod ms (fun k hk e => ht.2.2 (by rw [hk, e])), ht.2.2⟩, hv, ⟨hk.kind, hk.len, hk.nex, rfl⟩, m.trans ms (fun _ _ e => e)⟩
set_option maxHeartbeats 8000000 in
theorem register_any (t : Nat) (n sv ty key act : Int) (known : Bool) (v : Value) (T : Tb) (N : Nat) (w : World) (h : TR w t v T) (hk : TOk N T) (hN : N ≤ 900) (hn8 : 0 ≤ n ∧ n < 8) :
    Calls Tryz.prog 125 #[.pointer (some ⟨t, 0, none⟩), .int .i64 n, .agg (outA sv ty key act), .bool known] w (SvS t w v N) := by
  have ht := h.1.lt
  have hfa := fun W (m : Mod (fun _ => False) w W) => h.facts m
  have hall := fun W => all_any T.kind hk.kind W
  have hset := fun W (m : Mod (fun _ => False) w W) => set_any t n act v T W (h.mod m).1 (h.mod m).2.1 (Nat.le_trans hk.len (by omega))
  have hs2 : ∀ W v2 W2, Mod (fun _ => False) w W → TB W2 t v2 T → Row W2 50 2 encR v2 (setL T.regs n act) → (∀ b, v2.ownBlock = some b → W.heap.size ≤ b) → Mod (fun k => k = t) W W2 →
      TR W2 t v2 { T with regs := setL T.regs n act } ∧ Mod (fun k => k = t) w W2 ∧ (∀ b, v2.ownBlock = some b → v.ownBlock = some b ∨ w.heap.size ≤ b) := fun W v2 W2 m q1 q2 q3 q4 =>
    ⟨⟨q1.row _, q2, fun e => by have := q3 t e; have := m.size; omega⟩, (m.mono (fun _ _ e => e.elim)).trans q4 (fun _ _ e => e), fun b hb => .inr (Nat.le_trans m.size (q3 b hb))⟩
  have hk2 : TOk (N + 1) { T with regs := setL T.regs n act } := ⟨hk.kind, Nat.le_trans (setL_len _ _ _) (by have := hk.len; omega), setL_nex hk.nex n act hn8, hk.low⟩
  have hf2 : ∀ v2 W2, TR W2 t v2 { T with regs := setL T.regs n act } → Calls Tryz.prog 155 #[.pointer (some ⟨t, 0, none⟩), .int .i64 n] W2 (FrP t W2 v2 { T with regs := setL T.regs n act }) := fun v2 W2 q => free_any t n v2 _ W2 q.1 q.2.1 q.2.2 (Nat.le_trans hk2.len (by omega)) hk2.nex
  have hend : ∀ W V, SvP t w v N V W → SvS t w v N (.returned V) W := fun W V q => by
    obtain ⟨evs, v', T', r1, r⟩ := q
    obtain ⟨A, m, c, rfl⟩ := r1.form
    exact ⟨A, m, c, rfl, evs, v', T', r1, r⟩
  have hlen2 : (setL T.regs n act).length ≤ 1000 := Nat.le_trans hk2.len (by omega)
  obtain ⟨ng, hng⟩ : ∃ ng, IntKind.u32.wrap (T.gen + 1) = ng := ⟨_, rfl⟩
  obtain ⟨A, m, c, rfl⟩ := h.2.1.form
  have hab : (T.kind == 7 || T.kind == 8) = true → (T.kind != 0) = true := by
    rcases hk.kind with e | e | e | e | e | e | e <;> rw [e] <;> decide
  obtain ⟨kd, hkd⟩ : ∃ kd, kd = T.kind := ⟨_, rfl⟩
  obtain ⟨gn, hgn⟩ : ∃ gn, gn = T.gen := ⟨_, rfl⟩
  rw [← hkd] at hfa hall hab
  rw [← hgn] at hfa hng
  obtain ⟨ab, hab2⟩ : ∃ ab, ab = (kd == 7 || kd == 8) := ⟨_, rfl⟩
  rw [← hab2] at hall hab
  have hT2 : ∀ v2 W2, TR W2 t v2 { T with regs := setL T.regs n act } → (W2.cell? ⟨t, 1, none⟩ = some (.int .u32 gn) ∧ W2.cell? ⟨t, 2, none⟩ = some (.int .u8 kd) ∧ W2.cell? ⟨t, 4, none⟩ = some (.bool T.aptpl)) ∧ W2.frozen? ⟨t, 1, none⟩ = false ∧ W2.frozen? ⟨t, 4, none⟩ = false := fun v2 W2 q => by
    rw [hkd, hgn]
    exact ⟨⟨q.1.cells.2.1, q.1.cells.2.2.1, q.1.cells.2.2.2.2⟩, q.1.fr 1, q.1.fr 4⟩
  have hT3 : ∀ v2 W2, TR W2 t v2 { T with regs := setL T.regs n act } → ∀ e w', FrP t W2 v2 { T with regs := setL T.regs n act } e w' → ∃ A3 n3 c3 evs, e = .returned (.slice A3 n3 c3) ∧ Row w' 201 2 encE (.slice A3 n3 c3) evs ∧ EvL evs ∧ evs.length ≤ 2 * N + 2 ∧ (∀ b, (Value.slice A3 n3 c3).ownBlock = some b → W2.heap.size ≤ b) ∧
      TR w' t v2 { T with regs := setL T.regs n act, kind := 0, holder := -1 } ∧ Mod (fun k => k = t) W2 w' ∧ (w'.cell? ⟨t, 1, none⟩ = some (.int .u32 gn) ∧ w'.cell? ⟨t, 4, none⟩ = some (.bool T.aptpl)) ∧ w'.frozen? ⟨t, 1, none⟩ = false ∧ w'.frozen? ⟨t, 4, none⟩ = false := fun v2 W2 q e w' hf => by
    obtain ⟨A3, n3, c3, evs, rfl, f1, f2, f3, f4, f5, f6⟩ := hf
    rw [hgn]
    exact ⟨A3, n3, c3, evs, rfl, f1, f2, Nat.le_trans f3 (Nat.le_trans hk2.len (by omega)), f4, ⟨f5, q.2.1.mod f6 (fun k hk e => q.2.2 (by rw [hk, e])), q.2.2⟩, f6, ⟨f5.cells.2.1, f5.cells.2.2.2.2⟩, f5.fr 1, f5.fr 4⟩
  have hP0 : ∀ W, Mod (fun _ => False) w W → SvP t w (.slice A m c) N (.slice none 0 0) ((W.setCell ⟨t, 4, none⟩ (.bool false)).setCell ⟨t, 1, none⟩ (.int .u32 ng)) := fun W mm =>
    SvP.fin (Row.nil _ _ _ _) (fun r hr => (List.not_mem_nil hr).elim) (Nat.zero_le _) (by simp [Value.ownBlock]) (h.mod mm) (fun _ hb => .inl hb) (hk.mono (by omega)) (mm.mono (fun _ _ e => e.elim)) ht ng
  have hP1 : ∀ v2 W2, TR W2 t v2 { T with regs := setL T.regs n act } → Mod (fun k => k = t) w W2 → (∀ b, v2.ownBlock = some b → (Value.slice A m c).ownBlock = some b ∨ w.heap.size ≤ b) → SvP t w (.slice A m c) N (.slice none 0 0) ((W2.setCell ⟨t, 4, none⟩ (.bool false)).setCell ⟨t, 1, none⟩ (.int .u32 ng)) := fun v2 W2 q mm hv =>
    SvP.fin (Row.nil _ _ _ _) (fun r hr => (List.not_mem_nil hr).elim) (Nat.zero_le _) (by simp [Value.ownBlock]) q hv hk2 mm ht ng
  have hP2 : ∀ v2 W2 W3 V evs, Mod (fun k => k = t) w W2 → (∀ b, v2.ownBlock = some b → (Value.slice A m c).ownBlock = some b ∨ w.heap.size ≤ b) → Row W3 201 2 encE V evs → EvL evs → evs.length ≤ 2 * N + 2 → (∀ b, V.ownBlock = some b → W2.heap.size ≤ b) → TR W3 t v2 { T with regs := setL T.regs n act, kind := 0, holder := -1 } → Mod (fun k => k = t) W2 W3 →
      SvP t w (.slice A m c) N V ((W3.setCell ⟨t, 4, none⟩ (.bool false)).setCell ⟨t, 1, none⟩ (.int .u32 ng)) := fun v2 W2 W3 V evs mm hv r1 r2 r3 r4 r5 r6 =>
    SvP.fin r1 r2 r3 (fun b hb => Nat.le_trans mm.size (r4 b hb)) r5 hv ⟨.inl rfl, hk2.len, hk2.nex, hk.low⟩ (mm.trans r6 (fun _ _ e => e)) ht ng
  have hlm : T.regs.length = m := (h.2.1.rd encR_len rfl).1
  clear hab2 hkd hgn
  replace hfa := hide hfa; replace hall := hide hall; replace hset := hide hset; replace hs2 := hide hs2; replace hk2 := hide hk2; replace hf2 := hide hf2; replace hend := hide hend; replace hT2 := hide hT2; replace hT3 := hide hT3; replace hP0 := hide hP0; replace hP1 := hide hP1; replace hP2 := hide hP2
  obtain ⟨ho, hho⟩ : ∃ ho, ho = T.holder := ⟨_, rfl⟩
  rw [← hho] at hfa
  clear hho h hk hlm hlen2
  replace ht := hide ht
  by_cases ha : act = 0
  · subst ha
    cases known
    · go_enter Tryz.func125, Tryz.ntmps125
      go_wp2_with (first
        | (refine list_box 43 (.tmp 2) rfl rfl (outA sv ty key 0) rfl ?_
           intro w1 g hg hcm1 m1 hz
           obtain ⟨o0, o1, o2, o3, o4⟩ := outA_cells hcm1
           obtain ⟨⟨-, c1, -, -, c4⟩, -, f1, -, -, f4⟩ := hfa.out w1 m1
           have hE := hP0.out w1 m1
           replace hcm1 := hide hcm1; replace m1 := hide m1; replace hz := hide hz; replace hg := hide hg; replace hE := hide hE))
      go_ret
      exact hend.out _ _ hE.out
    · have h7 : ab = true ∧ (kd != 0) = true ∧ ((m : Int) == 1) = true ∧ (ho == n) = true ∨ ab = true ∧ (kd != 0) = true ∧ ((m : Int) == 1) = true ∧ (ho == n) = false ∨ ab = true ∧ (kd != 0) = true ∧ ((m : Int) == 1) = false ∧ (ho == n) = true ∨ ab = true ∧ (kd != 0) = true ∧ ((m : Int) == 1) = false ∧ (ho == n) = false ∨
          ab = false ∧ (kd != 0) = false ∨ ab = false ∧ (kd != 0) = true ∧ (ho == n) = true ∨ ab = false ∧ (kd != 0) = true ∧ (ho == n) = false := by
        revert hab
        cases ab <;> cases (kd != 0) <;> cases ((m : Int) == 1) <;> cases (ho == n) <;> simp
      clear hab
      rcases h7 with ⟨rfl, t1, t2, t3⟩ | ⟨rfl, t1, t2, t3⟩ | ⟨rfl, t1, t2, t3⟩ | ⟨rfl, t1, t2, t3⟩ | ⟨rfl, t1⟩ | ⟨rfl, t1, t3⟩ | ⟨rfl, t1, t3⟩
      all_goals
        go_enter Tryz.func125, Tryz.ntmps125
        go_wp2_with (first
        | (refine list_box 43 (.tmp 2) rfl rfl (outA sv ty key 0) rfl ?_
           intro w1 g hg hcm1 m1 hz
           obtain ⟨o0, o1, o2, o3, o4⟩ := outA_cells hcm1
           obtain ⟨⟨c0, c1, c2, c3, c4⟩, f0, f1, f2, f3, f4⟩ := hfa.out w1 m1
           have hst := hset.out w1 m1
           replace hcm1 := hide hcm1; replace m1 := hide m1; replace hz := hide hz; replace hg := hide hg; replace hst := hide hst)
        | (go_at_call 154; (with_reducible refine hst.out.mono ?_); rintro e w2 ⟨rfl, v2, b1, b2, b3, b4⟩
           obtain ⟨R2, M2, O2⟩ := hs2.out w1 v2 w2 m1.out b1 b2 b3 b4
           obtain ⟨⟨d1, d2, d4⟩, e1, e4⟩ := hT2.out v2 w2 R2
           obtain ⟨p0, p1, p2, p3, p4⟩ := outA_cells (b4.heap hcm1.out (fun e => by have := hg.out; have := ht.out; omega))
           have hE := hP1.out v2 w2 R2 M2 O2
           have hfr := hf2.out v2 w2 R2
           have hcm2 := b4.heap hcm1.out (fun e => by have := hg.out; have := ht.out; omega)
           clear b1 b2 b3 b4
           replace hE := hide hE; replace R2 := hide R2; replace M2 := hide M2; replace O2 := hide O2; replace hfr := hide hfr; replace hcm2 := hide hcm2)
        | (go_at_call 155; (with_reducible refine hfr.out.mono ?_); rintro e w3 hf
           obtain ⟨A3, n3, c3', evs, rfl, r1, r2, r3, r4, r5, r6, ⟨d13, d43⟩, e13, e43⟩ := hT3.out v2 w2 R2.out e w3 hf
           obtain ⟨p03, p13, p23, p33, p43⟩ := outA_cells (r6.heap hcm2.out (fun e => by have := hg.out; have := ht.out; omega))
           have hE := hP2.out v2 w2 w3 _ evs M2.out O2.out r1 r2 r3 r4 r5 r6
           clear r1 r2 r3 r4 r5 r6 hf
           replace hE := hide hE)
        | (go_at_call 64; (with_reducible refine (hall.out _).mono ?_); rintro e w' ⟨rfl, rfl⟩))
        go_ret
        exact hend.out _ _ hE.out
  · have ha0 : (act == 0) = false := by simpa using ha
    have ha1 : (act != 0) = true := by simpa using ha
    replace ha := hide ha
    go_enter Tryz.func125, Tryz.ntmps125
    go_wp2_with (first
        | (refine list_box 43 (.tmp 2) rfl rfl (outA sv ty key act) rfl ?_
           intro w1 g hg hcm1 m1 hz
           obtain ⟨o0, o1, o2, o3, o4⟩ := outA_cells hcm1
           obtain ⟨⟨c0, c1, c2, c3, c4⟩, f0, f1, f2, f3, f4⟩ := hfa.out w1 m1
           have hst := hset.out w1 m1
           replace hcm1 := hide hcm1; replace m1 := hide m1; replace hz := hide hz; replace hg := hide hg; replace hst := hide hst)
        | (go_at_call 154; (with_reducible refine hst.out.mono ?_); rintro e w2 ⟨rfl, v2, b1, b2, b3, b4⟩
           obtain ⟨R2, M2, O2⟩ := hs2.out w1 v2 w2 m1.out b1 b2 b3 b4
           obtain ⟨⟨d1, d2, d4⟩, e1, e4⟩ := hT2.out v2 w2 R2
           obtain ⟨p0, p1, p2, p3, p4⟩ := outA_cells (b4.heap hcm1.out (fun e => by have := hg.out; have := ht.out; omega))
           have hE := hP1.out v2 w2 R2 M2 O2
           have hfr := hf2.out v2 w2 R2
           have hcm2 := b4.heap hcm1.out (fun e => by have := hg.out; have := ht.out; omega)
           clear b1 b2 b3 b4
           replace hE := hide hE; replace R2 := hide R2; replace M2 := hide M2; replace O2 := hide O2; replace hfr := hide hfr; replace hcm2 := hide hcm2))
    go_ret
    exact hend.out _ _ hE.out
end Go.Proofs.YtjkpelbhhapebaaGreatDoor
namespace Go.Proofs.YtjkpelbhhapebaaGreatDoor
open Go.RowKit
set_option maxRecDepth 100000
/-- The two lists that grow: who is told, who stays. -/
def L2 (w wr : World) (k : Nat) (u v : Value) (evs : List Ev) (l : List Rg) : Prop :=
  GR 201 encE w wr u evs ∧ GR 50 encR w wr v l ∧ evs.length ≤ k ∧ l.length ≤ k ∧ EvL evs ∧ NexL l ∧ ∀ j, u.ownBlock = some j → v.ownBlock ≠ some j
section
variable {w wr w2 : World} {k : Nat} {u v u2 v2 : Value} {evs : List Ev} {l : List Rg} {o : Obj}
theorem L2.nil (w : World) (m : Mod (fun _ => False) w wr) : L2 w wr 0 (.slice none 0 0) (.slice none 0 0) [] [] :=
  ⟨GR.nil _ _ m, GR.nil _ _ m, Nat.le_refl _, Nat.le_refl _, fun r hr => (List.not_mem_nil hr).elim, fun r hr => (List.not_mem_nil hr).elim, by simp [Value.ownBlock]⟩
theorem L2.keep (h : L2 w wr k u v evs l) (m : Mod (fun _ => False) wr w2) : L2 w w2 k u v evs l := ⟨h.1.keep m, h.2.1.keep m, h.2.2⟩
theorem L2.mo (h : L2 w wr k u v evs l) : Mod (fun _ => False) w wr := h.1.2.2
theorem L2.addO (h : L2 w wr k u v evs l) (x : Ev) (hx : 0 ≤ x.1 ∧ x.1 < 8 ∧ A.U16 x.2) (r : Row w2 201 2 encE u2 (evs ++ [x])) (g : (wr.alloc o).grownBy w2 u.ownBlock) (a : u2.ownBlock = u.ownBlock ∨ u2.ownBlock = some (wr.alloc o).heap.size) : L2 w w2 (k + 1) u2 v (evs ++ [x]) l := by
  obtain ⟨h1, h2, h3, h4, h5, h6, h7⟩ := h
  have q := h1.add r g a
  have rv : Row w2 50 2 encR v l := (h2.1.alloc o).mod (grown_mod g) (fun j hj e => h7 j e hj)
  refine ⟨q, ⟨rv, h2.2.1, q.2.2⟩, by simp; omega, by omega, h5.append (fun y hy => by rw [List.mem_singleton.1 hy]; exact hx), h6, fun j hj => ?_⟩
  rcases a with a | a
  · exact h7 j (by rw [← a]; exact hj)
  · intro e
    rw [a] at hj
    injection hj with hj
    have := h2.1.lt j e
    simp at hj
    omega
theorem L2.addL (h : L2 w wr k u v evs l) (x : Rg) (hx : 0 ≤ x.1 ∧ x.1 < 8) (r : Row w2 50 2 encR v2 (l ++ [x])) (g : (wr.alloc o).grownBy w2 v.ownBlock) (a : v2.ownBlock = v.ownBlock ∨ v2.ownBlock = some (wr.alloc o).heap.size) : L2 w w2 (k + 1) u v2 evs (l ++ [x]) := by
  obtain ⟨h1, h2, h3, h4, h5, h6, h7⟩ := h
  have q := h2.add r g a
  have rv : Row w2 201 2 encE u evs := (h1.1.alloc o).mod (grown_mod g) (fun j hj e => h7 j hj e)
  refine ⟨⟨rv, h1.2.1, q.2.2⟩, q, by omega, by simp; omega, h5, h6.append (fun y hy => by rw [List.mem_singleton.1 hy]; exact hx), fun j hj => ?_⟩
  rcases a with a | a
  · rw [a]; exact h7 j hj
  · intro e
    rw [a] at e
    injection e with e
    have := h1.1.lt j hj
    simp at e
    omega
end
/-- A region that only reads, its walk behind a variable. -/
theorem quiet_gen {P : Program} {ops : Array Oper} {C : World → Prop} {Q : Act → Prop} {l : List Oper} {a : Act}
    (h : ∀ Z : List Oper → Act → Prop, (∀ o rest a, Region.wanted o (yielded ops a.tmps) = true → o.quiet P a C (Z rest) → Z (o :: rest) a) → (∀ o rest a, Region.wanted o (yielded ops a.tmps) = false → Z rest (a.put o.dst undef) → Z (o :: rest) a) → (∀ a, Q a → Z [] a) → Z l a) : wpQuiet P ops C Q l a :=
  h (wpQuiet P ops C Q) (fun o rest a hw hq => by unfold wpQuiet; rw [if_pos hw]; exact hq) (fun o rest a hw hq => by unfold wpQuiet; rw [if_neg (by simp [hw])]; exact hq) (fun _ hq => hq)
theorem SvP.back {t : Nat} {w w1 W : World} {v V : Value} {N : Nat} (m : Mod (fun _ => False) w w1) (h : SvP t w1 v N V W) : SvP t w v N V W := by
  obtain ⟨evs, v', T', h1, h2, h3, h4, h5, h6, h7, h8⟩ := h
  exact ⟨evs, v', T', h1, h2, h3, fun b hb => Nat.le_trans m.size (h4 b hb), h5, fun b hb => (h6 b hb).imp id (Nat.le_trans m.size), h7, (m.mono (fun _ _ e => e.elim)).trans h8 (fun _ _ e => e)⟩
/-- Behind the lists: the table has those that stay. -/
structure L4 (t : Nat) (w wr : World) (u v : Value) (evs : List Ev) (T' : Tb) : Prop where
  row : Row wr 201 2 encE u evs
  ev : EvL evs
  unew : ∀ b, u.ownBlock = some b → w.heap.size ≤ b
  tab : TR wr t v T'
  vnew : ∀ b, v.ownBlock = some b → w.heap.size ≤ b
  dis : ∀ j, u.ownBlock = some j → v.ownBlock ≠ some j
  mo : Mod (fun k => k = t) w wr
section
variable {t : Nat} {w wr w2 : World} {k : Nat} {u v u2 : Value} {evs : List Ev} {l : List Rg} {T T' : Tb} {o : Obj} {v0 : Value} {N : Nat}
theorem L2.table (h : L2 w wr k u v evs l) (h0 : TR w t v0 T) : L4 t w (wr.setCell ⟨t, 0, none⟩ v) u v evs { T with regs := l } := by
  obtain ⟨h1, h2, h3, h4, h5, h6, h7⟩ := h
  have hT := h0.mod h1.2.2
  have ht := h0.1.lt
  have ms : Mod (fun k => k = t) wr (wr.setCell ⟨t, 0, none⟩ v) := mod_s (Mod.refl _ _)
  exact ⟨h1.1.mod ms (fun j hj e => by have := h1.2.1 j hj; omega), h5, h1.2.1, ⟨(hT.1.s0 v).row l, h2.1.mod ms (fun j hj e => by have := h2.2.1 j hj; omega), fun e => by have := h2.2.1 t e; omega⟩, h2.2.1, h7, (h1.2.2.mono (fun _ _ e => e.elim)).trans ms (fun _ _ e => e)⟩
theorem L4.st (h : L4 t w wr u v evs T) (ht : t < w.heap.size) (i : Nat) (x : Value) (hx : TB (wr.setCell ⟨t, i, none⟩ x) t v T') (hr : T'.regs = T.regs) : L4 t w (wr.setCell ⟨t, i, none⟩ x) u v evs T' := by
  have ms : Mod (fun k => k = t) wr (wr.setCell ⟨t, i, none⟩ x) := mod_s (Mod.refl _ _)
  exact ⟨h.row.mod ms (fun j hj e => by have := h.unew j hj; omega), h.ev, h.unew, ⟨hx, by rw [hr]; exact h.tab.2.1.mod ms (fun j hj e => by have := h.vnew j hj; omega), h.tab.2.2⟩, h.vnew, h.dis, h.mo.trans ms (fun _ _ e => e)⟩
theorem L4.take (h : L4 t w wr u v evs T) (ht : t < w.heap.size) (ty n : Int) : L4 t w ((wr.setCell ⟨t, 2, none⟩ (.int .u8 ty)).setCell ⟨t, 3, none⟩ (.int .i64 n)) u v evs { T with kind := ty, holder := n } :=
  (h.st ht 2 _ (h.tab.1.s2 ty) rfl).st ht 3 _ ((h.tab.1.s2 ty).s3 n) rfl
theorem L4.gen (h : L4 t w wr u v evs T) (ht : t < w.heap.size) (g : Int) : L4 t w (wr.setCell ⟨t, 1, none⟩ (.int .u32 g)) u v evs { T with gen := g } := h.st ht 1 _ (h.tab.1.s1 g) rfl
theorem L4.keep (h : L4 t w wr u v evs T) (m : Mod (fun _ => False) wr w2) : L4 t w w2 u v evs T :=
  ⟨h.row.mod m (fun _ _ e => e), h.ev, h.unew, h.tab.mod m, h.vnew, h.dis, h.mo.trans m (fun _ _ e => e.elim)⟩
theorem L4.add (h : L4 t w wr u v evs T) (x : Ev) (hx : 0 ≤ x.1 ∧ x.1 < 8 ∧ A.U16 x.2) (r : Row w2 201 2 encE u2 (evs ++ [x])) (g : (wr.alloc o).grownBy w2 u.ownBlock) (a : u2.ownBlock = u.ownBlock ∨ u2.ownBlock = some (wr.alloc o).heap.size) (ht : t < w.heap.size) : L4 t w w2 u2 v (evs ++ [x]) T := by
  have mg := grown_mod g
  have hlt := h.tab.1.lt
  have tb : TB w2 t v T := mg.heap (((Mod.refl (fun _ => False) wr).alloc o).heap h.tab.1 (fun e => e)) (fun e => by have := h.unew t e; omega)
  have rv : Row w2 50 2 encR v T.regs := (h.tab.2.1.alloc o).mod mg (fun j hj e => h.dis j e hj)
  refine ⟨r, h.ev.append (fun y hy => by rw [List.mem_singleton.1 hy]; exact hx), fun b hb => ?_, ⟨tb, rv, h.tab.2.2⟩, h.vnew, fun j hj => ?_, (h.mo.alloc o).grown g (fun j hj => .inr (h.unew j hj))⟩
  · rcases a with a | a
    · exact h.unew b (by rw [← a]; exact hb)
    · rw [a] at hb
      injection hb with hb
      have := h.mo.size
      simp at hb
      omega
  · rcases a with a | a
    · exact h.dis j (by rw [← a]; exact hj)
    · intro e
      rw [a] at hj
      injection hj with hj
      have := h.tab.2.1.lt j e
      simp at hj
      omega
theorem L4.fin (h : L4 t w wr u v evs T) (hl : evs.length ≤ 2 * N + 2) (hk : TOk N T) : SvP t w v0 N u wr :=
  ⟨evs, v, T, h.row, h.ev, hl, h.unew, h.tab, fun b hb => .inr (h.vnew b hb), hk.mono (by omega), h.mo⟩
end
end Go.Proofs.YtjkpelbhhapebaaGreatDoor
