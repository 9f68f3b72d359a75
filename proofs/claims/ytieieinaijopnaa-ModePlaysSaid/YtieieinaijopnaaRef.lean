/-
  The reference's leaves (bits, fault, page): what they answer. No condition.
-/
import Derived.Test.YtieieinaijopnaaPage
namespace Go.Proofs.Ytieieinaijopnaa
open Go.RowKit
set_option linter.unusedVariables false
/-- The values as one number. -/
def bitsV (v : V) : Int := (if v.a then 1 else 0) + (if v.b then 2 else 0) + (if v.c then 4 else 0)
theorem bitsV_inj (v u : V) : (bitsV v == bitsV u) = (v == u) := by
  obtain ⟨a, b, c⟩ := v
  obtain ⟨d, e, f⟩ := u
  cases a <;> cases b <;> cases c <;> cases d <;> cases e <;> cases f <;> rfl
set_option maxHeartbeats 400000 in
theorem bits_any (v : V) (w : World) : Calls Try.prog 15 #[vv v] w fun e w' => e = .returned (.int .i64 (bitsV v)) ∧ Mod (fun _ => False) w w' := by
  obtain ⟨a, b, c⟩ := v
  cases a <;> cases b <;> cases c
  all_goals
    go_enter Try.func15, Try.ntmps15
    go_wp2
    go_ret
    exact ⟨rfl, (Mod.refl _ w).alloc _⟩
set_option maxHeartbeats 400000 in
theorem fault_any (code f b : Int) (cmd : Bool) (w : World) : Calls Try.prog 22 #[.int .u16 code, .int .i64 f, .int .i64 b, .bool cmd] w fun e w' =>
    e = .returned (.agg #[.int .u8 5, .int .u16 code, .int .u64 0, .bool false, .int .i64 f, .int .i64 b, .bool true, .bool cmd]) ∧ Mod (fun _ => False) w w' := by
  go_enter Try.func22, Try.ntmps22
  go_wp2
  exact bodyPost_ret (v := .agg #[.int .u8 5, .int .u16 code, .int .u64 0, .bool false, .int .i64 f, .int .i64 b, .bool true, .bool cmd]) (by simp [results, Try.results22, go_sem]) rfl ⟨rfl, (Mod.refl _ w).alloc _⟩
set_option maxHeartbeats 800000 in
theorem rpage8 (v : V) (w : World) : Calls Try.prog 23 #[.int .u8 8, .int .i64 (bitsV v)] w fun e w' => ∃ g, e = .returned (.slice (some ⟨g, 0, none⟩) 20 20) ∧ Row w' 5 1 (ic .u8) (.slice (some ⟨g, 0, none⟩) 20 20) (cachL v) ∧ Mod (fun _ => False) w w' ∧ w.heap.size ≤ g := by
  obtain ⟨a, b, c⟩ := v
  have hmk := make20
  cases a <;> cases b <;> cases c
  all_goals
    simp only [bitsV]
    go_enter Try.func23, Try.ntmps23
    go_wp2
    go_ret
    refine ⟨_, rfl, row_lit (l := cachL ⟨_, _, _⟩) (heap_alloc_new _ _) (by simp [cachL]), (Mod.refl _ w).alloc _, by simp⟩
set_option maxHeartbeats 800000 in
theorem rpage10 (v : V) (w : World) : Calls Try.prog 23 #[.int .u8 10, .int .i64 (bitsV v)] w fun e w' => ∃ g, e = .returned (.slice (some ⟨g, 0, none⟩) 12 12) ∧ Row w' 5 1 (ic .u8) (.slice (some ⟨g, 0, none⟩) 12 12) (ctlL v) ∧ Mod (fun _ => False) w w' ∧ w.heap.size ≤ g := by
  obtain ⟨a, b, c⟩ := v
  have hmk := make12
  cases a <;> cases b <;> cases c
  all_goals
    simp only [bitsV]
    go_enter Try.func23, Try.ntmps23
    go_wp2
    go_ret
    refine ⟨_, rfl, row_lit (l := ctlL ⟨_, _, _⟩) (heap_alloc_new _ _) (by simp [ctlL]), (Mod.refl _ w).alloc _, by simp⟩
end Go.Proofs.Ytieieinaijopnaa
