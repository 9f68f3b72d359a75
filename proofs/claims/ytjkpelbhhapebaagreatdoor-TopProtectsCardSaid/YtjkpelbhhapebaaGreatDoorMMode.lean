/-
  The walks of package mode, first part: values, pages, the bytes of a page, a sense. Condition: pages in a block of their own.
-/
import Derived.Test.YtjkpelbhhapebaaGreatDoorMem
namespace Go.Proofs.YtjkpelbhhapebaaGreatDoor.M
open Go.RowKit
set_option maxRecDepth 100000

/-- Values: is there a cache, are sense data described, may nothing be written. -/
structure V where
  a : Bool
  b : Bool
  c : Bool
deriving DecidableEq
/-- Values as an argument. -/
abbrev vv (v : V) : Value := .agg #[.bool v.a, .bool v.b, .bool v.c]
/-- The pages at block p. -/
def PG (w : World) (p : Nat) (n s : V) : Prop := w.heap[p]? = some (.cells #[.bool n.a, .bool n.b, .bool n.c, .bool s.a, .bool s.b, .bool s.c] 156 (0, 0))
theorem PG.cells {w : World} {p : Nat} {n s : V} (h : PG w p n s) : w.cell? ⟨p, 0, none⟩ = some (.bool n.a) ∧ w.cell? ⟨p, 1, none⟩ = some (.bool n.b) ∧ w.cell? ⟨p, 2, none⟩ = some (.bool n.c) ∧
    w.cell? ⟨p, 3, none⟩ = some (.bool s.a) ∧ w.cell? ⟨p, 4, none⟩ = some (.bool s.b) ∧ w.cell? ⟨p, 5, none⟩ = some (.bool s.c) := by
  refine ⟨?_, ?_, ?_, ?_, ?_, ?_⟩ <;> rw [cell_of_row w p _ _ 156 (0, 0) h] <;> rfl
theorem PG.lt {w : World} {p : Nat} {n s : V} (h : PG w p n s) : p < w.heap.size := (Array.getElem?_eq_some_iff.1 h).1
theorem PG.mod {w w' : World} {p : Nat} {n s : V} {F : Nat → Prop} (h : PG w p n s) (hm : Mod F w w') (hn : ¬ F p) : PG w' p n s := hm.heap h hn
/-- A sense: its key, code, field, bit, is there a field, is it in the command. -/
structure SN where
  key : Int
  code : Int
  field : Int
  bit : Int
  has : Bool
  cmd : Bool
deriving DecidableEq
/-- A sense as a value. -/
abbrev sv (s : SN) : Value := .agg #[.int .u8 s.key, .int .u16 s.code, .int .u64 0, .bool false, .int .i64 s.field, .int .i64 s.bit, .bool s.has, .bool s.cmd]
def noSense : SN := ⟨0, 0, 0, 0, false, false⟩
/-- The sense of a field that is not right. -/
def badS (f b : Int) (cmd : Bool) : SN := ⟨5, if cmd then 9216 else 9728, f, b, true, cmd⟩

set_option maxHeartbeats 400000 in
theorem default_any (w : World) : Calls Tryz.prog 35 #[] w fun e w' => e = .returned (.agg #[.bool true, .bool false, .bool false]) ∧ Mod (fun _ => False) w w' := by
  go_enter Tryz.func35, Tryz.ntmps35
  go_wp2
  exact bodyPost_ret (v := .agg #[.bool true, .bool false, .bool false]) (by simp [results, Tryz.results35, go_sem]) rfl ⟨rfl, (Mod.refl _ w).alloc _⟩
set_option maxHeartbeats 400000 in
theorem new_any (v : V) (w : World) : Calls Tryz.prog 37 #[vv v] w fun e w' => ∃ p, e = .returned (.pointer (some ⟨p, 0, none⟩)) ∧ PG w' p v v ∧ Mod (fun _ => False) w w' ∧ w.heap.size ≤ p := by
  obtain ⟨a, b, c⟩ := v
  go_enter Tryz.func37, Tryz.ntmps37
  go_wp2
  go_ret
  exact ⟨_, rfl, by have := heap_alloc_new (w.alloc (.cells #[.bool a, .bool b, .bool c] 112)) (.cells #[.bool a, .bool b, .bool c, .bool a, .bool b, .bool c] 156); simpa [PG] using this, ((Mod.refl _ w).alloc _).alloc _, by omega⟩
set_option maxHeartbeats 400000 in
theorem now_some (p : Nat) (n s : V) (w : World) (h : PG w p n s) : Calls Tryz.prog 27 #[.pointer (some ⟨p, 0, none⟩)] w fun e w' => e = .returned (.agg #[.bool n.a, .bool n.b, .bool n.c]) ∧ Mod (fun _ => False) w w' := by
  obtain ⟨h0, h1, h2, h3, h4, h5⟩ := h.cells
  have hl := h.lt
  clear h
  go_enter Tryz.func27, Tryz.ntmps27
  go_wp2
  exact bodyPost_ret (v := vv n) (by simp [results, Tryz.results27, go_sem]) rfl ⟨rfl, (Mod.refl _ w).alloc _⟩
set_option maxHeartbeats 400000 in
theorem saved_some (p : Nat) (n s : V) (w : World) (h : PG w p n s) : Calls Tryz.prog 82 #[.pointer (some ⟨p, 0, none⟩)] w fun e w' => e = .returned (.agg #[.bool s.a, .bool s.b, .bool s.c]) ∧ Mod (fun _ => False) w w' := by
  obtain ⟨h0, h1, h2, h3, h4, h5⟩ := h.cells
  have hl := h.lt
  clear h
  go_enter Tryz.func82, Tryz.ntmps82
  go_wp2
  exact bodyPost_ret (v := vv s) (by simp [results, Tryz.results82, go_sem]) rfl ⟨rfl, (Mod.refl _ w).alloc _⟩
set_option maxHeartbeats 400000 in
theorem now_nil (w : World) : Calls Tryz.prog 27 #[.pointer none] w fun e w' => e = .returned (.agg #[.bool false, .bool false, .bool false]) ∧ Mod (fun _ => False) w w' := by
  go_enter Tryz.func27, Tryz.ntmps27
  go_wp2
  exact bodyPost_ret (v := .agg #[.bool false, .bool false, .bool false]) (by simp [results, Tryz.results27, go_sem]) rfl ⟨rfl, (Mod.refl _ w).alloc _⟩
set_option maxHeartbeats 400000 in
theorem saved_nil (w : World) : Calls Tryz.prog 82 #[.pointer none] w fun e w' => e = .returned (.agg #[.bool false, .bool false, .bool false]) ∧ Mod (fun _ => False) w w' := by
  go_enter Tryz.func82, Tryz.ntmps82
  go_wp2
  exact bodyPost_ret (v := .agg #[.bool false, .bool false, .bool false]) (by simp [results, Tryz.results82, go_sem]) rfl ⟨rfl, (Mod.refl _ w).alloc _⟩
theorem field0 (a b c : Bool) (w : World) : (Instr.field 112 (.agg #[.bool a, .bool b, .bool c]) 0).run Tryz.prog w = .ok (.bool a) w := by kernel_rfl
theorem field2 (a b c : Bool) (w : World) : (Instr.field 112 (.agg #[.bool a, .bool b, .bool c]) 2).run Tryz.prog w = .ok (.bool c) w := by kernel_rfl
set_option maxHeartbeats 400000 in
theorem bad_any (f b : Int) (cmd : Bool) (w : World) : Calls Tryz.prog 85 #[.int .i64 f, .int .i64 b, .bool cmd] w fun e w' => e = .returned (.agg #[.int .u8 5, .int .u16 (if cmd then 9216 else 9728), .int .u64 0, .bool false, .int .i64 f, .int .i64 b, .bool true, .bool cmd]) ∧ Mod (fun _ => False) w w' := by
  cases cmd
  all_goals
    go_enter Tryz.func85, Tryz.ntmps85
    go_wp2
  · exact bodyPost_ret (v := .agg #[.int .u8 5, .int .u16 9728, .int .u64 0, .bool false, .int .i64 f, .int .i64 b, .bool true, .bool false]) (by simp [results, Tryz.results85, go_sem]) rfl ⟨rfl, (Mod.refl _ w).alloc _⟩
  · exact bodyPost_ret (v := .agg #[.int .u8 5, .int .u16 9216, .int .u64 0, .bool false, .int .i64 f, .int .i64 b, .bool true, .bool true]) (by simp [results, Tryz.results85, go_sem]) rfl ⟨rfl, (Mod.refl _ w).alloc _⟩

theorem row_lit {w : World} {g : Nat} {e : TypeId} {k : IntKind} {l : List Int} (h : w.heap[g]? = some (.cells (l.map (Value.int k)).toArray e (0, 0))) (hl : l.length ≤ 1000) : Row w e 1 (ic k) (.slice (some ⟨g, 0, none⟩) l.length l.length) l := by
  refine ⟨by rw [flat_ic]; simp, .inr ⟨g, l.length, _, rfl, Nat.zero_le _, h, Nat.le_refl _, by simp [maxLen]; omega, by simp, ?_⟩⟩
  rw [flat_ic]
  exact List.take_of_length_le (by simp)
theorem alloc2 (w : World) (o1 o2 : Obj) : ((w.alloc o1).alloc o2).heap[w.heap.size + 1]? = some o2 := by have := heap_alloc_new (w.alloc o1) o2; simpa using this
def bi (b : Bool) (n : Int) : Int := if b then n else 0
/-- The page of the cache. -/
def cachL (v : V) : List Int := [8, 18, bi v.a 4, 0, 0, 0, 0, 0, 0, 0, 0, 0, 0, 0, 0, 0, 0, 0, 0, 0]
/-- The page of control. -/
def ctlL (v : V) : List Int := [10, 10, bi v.b 4, 0, bi v.c 8, 0, 0, 0, 0, 0, 0, 0]
theorem make20 (w : World) : (Instr.makeSlice 22 (.int .i64 20) (.int .i64 20)).run Tryz.prog w = .ok (.slice (some ⟨w.heap.size, 0, none⟩) 20 20) (w.alloc (.cells #[(.int .u8 0 : Value), .int .u8 0, .int .u8 0, .int .u8 0, .int .u8 0, .int .u8 0, .int .u8 0, .int .u8 0, .int .u8 0, .int .u8 0, .int .u8 0, .int .u8 0, .int .u8 0, .int .u8 0, .int .u8 0, .int .u8 0, .int .u8 0, .int .u8 0, .int .u8 0, .int .u8 0] 5)) := by kernel_rfl
theorem make12 (w : World) : (Instr.makeSlice 22 (.int .i64 12) (.int .i64 12)).run Tryz.prog w = .ok (.slice (some ⟨w.heap.size, 0, none⟩) 12 12) (w.alloc (.cells #[(.int .u8 0 : Value), .int .u8 0, .int .u8 0, .int .u8 0, .int .u8 0, .int .u8 0, .int .u8 0, .int .u8 0, .int .u8 0, .int .u8 0, .int .u8 0, .int .u8 0] 5)) := by kernel_rfl
set_option maxHeartbeats 400000 in
theorem caching_any (v : V) (w : World) : Calls Tryz.prog 83 #[vv v] w fun e w' => ∃ g, e = .returned (.slice (some ⟨g, 0, none⟩) 20 20) ∧ Row w' 5 1 (ic .u8) (.slice (some ⟨g, 0, none⟩) 20 20) (cachL v) ∧ Mod (fun _ => False) w w' ∧ w.heap.size ≤ g := by
  obtain ⟨a, b, c⟩ := v
  have hmk := make20
  cases a
  all_goals
    go_enter Tryz.func83, Tryz.ntmps83
    go_wp2
    go_ret
    refine ⟨_, rfl, row_lit (l := cachL ⟨_, b, c⟩) (alloc2 _ _ _) (by simp [cachL]), ((Mod.refl _ w).alloc _).alloc _, by simp⟩
set_option maxHeartbeats 400000 in
theorem control_any (v : V) (w : World) : Calls Tryz.prog 84 #[vv v] w fun e w' => ∃ g, e = .returned (.slice (some ⟨g, 0, none⟩) 12 12) ∧ Row w' 5 1 (ic .u8) (.slice (some ⟨g, 0, none⟩) 12 12) (ctlL v) ∧ Mod (fun _ => False) w w' ∧ w.heap.size ≤ g := by
  obtain ⟨a, b, c⟩ := v
  have hmk := make12
  cases b <;> cases c
  all_goals
    go_enter Tryz.func84, Tryz.ntmps84
    go_wp2
    go_ret
    refine ⟨_, rfl, row_lit (l := ctlL ⟨a, _, _⟩) (alloc2 _ _ _) (by simp [ctlL]), ((Mod.refl _ w).alloc _).alloc _, by simp⟩
end Go.Proofs.YtjkpelbhhapebaaGreatDoor.M
