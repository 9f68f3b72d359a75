/-
  The walk of (*task.Set).Enter. Conditions: a set of at most sixteen tasks in memory of its own; the new task's numbers within their kinds.
-/
import Derived.Test.YtabkplmpkdbchaaTask
namespace Go.Proofs.Ytabkplmpkdbchaa
open Go.RowKit

/-- A task as an argument. -/
abbrev av (t : T) : Value := .agg #[.int .i64 t.nx, .int .u32 t.tag, .int .u8 t.at_, .bool t.st]
/-- May it not come, because of the allegiance? -/
def barred (aca : Int) (t : T) : Prop := (0 ≤ aca ∧ (t.nx ≠ aca ∨ t.at_ ≠ 3)) ∨ (aca < 0 ∧ t.at_ = 3)
instance (aca : Int) (t : T) : Decidable (barred aca t) := by unfold barred; exact inferInstance
/-- What Enter answers, and what it makes of the tasks. -/
def ent (l : List T) (aca : Int) (t : T) : Int × Int × List T :=
  if t.nx < 0 ∨ 8 ≤ t.nx ∨ 3 < t.at_ then (0, 1, l)
  else if 0 ≤ fnd l t.nx t.tag then (0, 9, l)
  else if barred aca t then (48, 0, l)
  else if 16 ≤ l.length then (40, 0, l)
  else (0, 0, l ++ [{ t with st := false }])

theorem S.plus {w w' : World} {b : Nat} {l : List T} {aca : Int} {F : Nat → Prop} (h : S w b l aca F) (hm : Mod (fun _ => False) w w') : S w' b l aca (Plus F w w') ∧ Mod F w w' :=
  ⟨(h.mod hm (by simp)).mono fun _ hk => .inl hk, hm.mono (by simp)⟩

/-- The new task in its box, not started, whatever else was made. -/
theorem boxed {w w1 : World} {nx tag at_ : Int} {st : Bool} (m1 : Mod (fun _ => False) (w.alloc (.cells #[.int .i64 nx, .int .u32 tag, .int .u8 at_, .bool st] 26)) w1)
    (hb : (w.alloc (.cells #[.int .i64 nx, .int .u32 tag, .int .u8 at_, .bool st] 26)).heap[w.heap.size]? = some (.cells #[.int .i64 nx, .int .u32 tag, .int .u8 at_, .bool st] 26)) (n : Nat) :
    Mod (fun _ => False) w ((w1.drewN n).setCell ⟨w.heap.size, 3, none⟩ (.bool false)) ∧
      ((w1.drewN n).setCell ⟨w.heap.size, 3, none⟩ (.bool false)).heap[w.heap.size]? = some (.cells #[.int .i64 nx, .int .u32 tag, .int .u8 at_, .bool false] 26) := by
  have h1 := m1.heap hb (by simp)
  refine ⟨(((((Mod.refl _ w).alloc _).trans m1 (by simp)).drewN n).setCell (p := ⟨w.heap.size, 3, none⟩) (.inr (Nat.le_refl _)) _), ?_⟩
  simp [World.setCell, Array.getElem?_modify, h1]
theorem boxed_facts {w W : World} {b B cap : Nat} {A : Option Addr} {l : List T} {nx tag at_ : Int} (k2 : Mod (fun _ => False) w W) (k3 : W.heap[B]? = some (.cells #[.int .i64 nx, .int .u32 tag, .int .u8 at_, .bool false] 26))
    (hc : w.cell? ⟨b, 0, none⟩ = some (.slice A l.length cap)) (hz : w.frozen? ⟨b, 0, none⟩ = false) (hb : b < w.heap.size) (hr : Row w 26 4 enc (.slice A l.length cap) l) :
    W.cell? ⟨B, 0, none⟩ = some (.int .i64 nx) ∧ W.cell? ⟨B, 1, none⟩ = some (.int .u32 tag) ∧ W.cell? ⟨B, 2, none⟩ = some (.int .u8 at_) ∧ W.cell? ⟨B, 3, none⟩ = some (.bool false) ∧
    W.cell? ⟨b, 0, none⟩ = some (.slice A l.length cap) ∧ W.frozen? ⟨b, 0, none⟩ = false ∧
    (W.alloc (.cells #[.int .i64 nx, .int .u32 tag, .int .u8 at_, .bool false] 26)).cell? ⟨b, 0, none⟩ = some (.slice A l.length cap) ∧
    B < W.heap.size ∧ b < W.heap.size ∧
    (Row (W.alloc (.cells #[.int .i64 nx, .int .u32 tag, .int .u8 at_, .bool false] 26)).drew 26 4 enc (.slice A l.length cap) l ∧
      Rd (W.alloc (.cells #[.int .i64 nx, .int .u32 tag, .int .u8 at_, .bool false] 26)).drew 4 enc (some ⟨W.heap.size, 0, none⟩) 1 [{ nx := nx, tag := tag, at_ := at_, st := false }]) := by
  have hcW := k2.cell hc (by simp)
  have hbW : b < W.heap.size := Nat.lt_of_lt_of_le hb k2.size
  refine ⟨?_, ?_, ?_, ?_, hcW, (k2.frozen (p := ⟨b, 0, none⟩) hb (by simp)).trans hz, ?_, (Array.getElem?_eq_some_iff.1 k3).1, hbW, (hr.mod k2 (by simp)).alloc _, Rd.box W enc { nx := nx, tag := tag, at_ := at_, st := false } 26⟩
  · rw [cell_of_row W B _ _ 26 (0, 0) k3]; rfl
  · rw [cell_of_row W B _ _ 26 (0, 0) k3]; rfl
  · rw [cell_of_row W B _ _ 26 (0, 0) k3]; rfl
  · rw [cell_of_row W B _ _ 26 (0, 0) k3]; rfl
  · rw [World.cell?_alloc_lt _ _ _ hbW]; exact hcW
/-- The row, written or made anew, is laid into the set. -/
theorem entered {w w2 : World} {b cap : Nat} {A : Option Addr} {l l2 : List T} {aca : Int} {F : Nat → Prop} {v : Value} (hs : S w b l aca F) (hg : Mod (fun k => (Value.slice A l.length cap).ownBlock = some k) w w2)
    (hc : w.cell? ⟨b, 0, none⟩ = some (.slice A l.length cap)) (h2 : Row w2 26 4 enc v l2) (hv : ∀ k, v.ownBlock = some k → (Value.slice A l.length cap).ownBlock = some k ∨ w.heap.size ≤ k) :
    S (w2.setCell ⟨b, 0, none⟩ v) b l2 aca (Plus F w (w2.setCell ⟨b, 0, none⟩ v)) ∧ Mod F w (w2.setCell ⟨b, 0, none⟩ v) := by
  obtain ⟨u, h1, h3, h4, h5⟩ := hs
  have hu : u = .slice A l.length cap := by
    rw [cell_of_row w b _ _ 59 (0, 0) h1] at hc
    exact Option.some.inj hc
  subst hu
  have hb2 : w2.heap[b]? = some (.cells #[.slice A l.length cap, .int .i64 aca] 59) := hg.heap h1 fun e => h4.ne h1 (by decide) e
  have hsz : (w2.setCell ⟨b, 0, none⟩ v).heap.size = w2.heap.size := by simp
  refine ⟨⟨v, by simp [World.setCell, Array.getElem?_modify, hb2], .inl h3, h2.mod ((Mod.refl (fun k => k = b) w2).setCell (p := ⟨b, 0, none⟩) (.inl rfl) v) fun k hk e => h2.ne hb2 (by decide) (e ▸ hk), fun k hk => ?_⟩, (hg.mono fun k _ hk => h5 k hk).setCell (.inl h3) v⟩
  rcases hv k hk with h | h
  · exact .inl (h5 k h)
  · exact .inr ⟨h, by rw [hsz]; exact h2.lt k hk⟩

set_option maxHeartbeats 1000000 in
theorem enter_arg (b : Nat) (t : T) (l : List T) (aca : Int) (F : Nat → Prop) (w : World) (hs : S w b l aca F) (h : t.nx < 0 ∨ 8 ≤ t.nx ∨ 3 < t.at_) :
    Calls Try.prog 12 #[.pointer (some ⟨b, 0, none⟩), av t] w fun e w' => e = .returned (.tuple #[.int .u8 0, .int .i64 1]) ∧ S w' b l aca (Plus F w w') ∧ Mod F w w' := by
  have hm : ∀ cs, Mod (fun _ => False) w (w.alloc (.cells cs 26)) := fun cs => (Mod.refl _ w).alloc _
  replace hs := hide hs
  replace hm := hide hm
  obtain ⟨nx, tag, at_, st⟩ := t
  dsimp only at h
  by_cases h1 : nx < 0
  · have d1 : decide (nx < 0) = true := by simpa using h1
    clear h
    go_enter Try.func12, Try.ntmps12
    go_wp2_with fail
    go_ret2
    exact ⟨rfl, hs.out.plus (hm.out _)⟩
  · have d1 : decide (nx < 0) = false := by simpa using h1
    by_cases h2 : 8 ≤ nx
    · have d2 : decide (8 ≤ nx) = true := by simpa using h2
      clear h
      go_enter Try.func12, Try.ntmps12
      go_wp2_with fail
      go_ret2
      exact ⟨rfl, hs.out.plus (hm.out _)⟩
    · have d2 : decide (8 ≤ nx) = false := by simpa using h2
      have d3 : decide (3 < at_) = true := by simp; omega
      clear h
      go_enter Try.func12, Try.ntmps12
      go_wp2_with fail
      go_ret2
      exact ⟨rfl, hs.out.plus (hm.out _)⟩

theorem enter_nil (t : T) (w : World) : Calls Try.prog 12 #[.pointer none, av t] w fun e w' => e = .returned (.tuple #[.int .u8 0, .int .i64 8]) ∧ Mod (fun _ => False) w w' := by
  have hm : ∀ cs, Mod (fun _ => False) w (w.alloc (.cells cs 26)) := fun cs => (Mod.refl _ w).alloc _
  replace hm := hide hm
  obtain ⟨nx, tag, at_, st⟩ := t
  go_enter Try.func12, Try.ntmps12
  go_wp2_with fail
  go_ret2
  exact ⟨rfl, hm.out _⟩

set_option maxRecDepth 100000 in
set_option maxHeartbeats 2000000 in
theorem enter_dup (b : Nat) (t : T) (l : List T) (aca : Int) (F : Nat → Prop) (w : World) (hl : l.length ≤ 16) (hs : S w b l aca F) (h0 : 0 ≤ t.nx) (h8 : t.nx < 8) (h3 : t.at_ ≤ 3) (hf : 0 ≤ fnd l t.nx t.tag) :
    Calls Try.prog 12 #[.pointer (some ⟨b, 0, none⟩), av t] w fun e w' => e = .returned (.tuple #[.int .u8 0, .int .i64 9]) ∧ S w' b (l) aca (Plus F w w') ∧ Mod F w w' := by
  obtain ⟨A, cap, hc, ha, hfz, -, hr, hrow, hown, hFb⟩ := hs.at_
  have hblt := hs.lt
  obtain ⟨nx, tag, at_, st⟩ := t
  dsimp only at *
  have hm : Mod (fun _ => False) w (w.alloc (.cells #[.int .i64 nx, .int .u32 tag, .int .u8 at_, .bool st] 26)) := (Mod.refl _ w).alloc _
  have hfind := find_some b nx tag l aca F _ (by omega) (hs.mod hm (by simp))
  have hbx : ∀ j, (w.alloc (.cells #[.int .i64 nx, .int .u32 tag, .int .u8 at_, .bool st] 26)).cell? ⟨w.heap.size, j, none⟩ = (#[.int .i64 nx, .int .u32 tag, .int .u8 at_, .bool st] : Array Value)[j]? := fun j => World.cell?_alloc_new _ _ _ _
  have hbh : (w.alloc (.cells #[.int .i64 nx, .int .u32 tag, .int .u8 at_, .bool st] 26)).heap[w.heap.size]? = some (.cells #[.int .i64 nx, .int .u32 tag, .int .u8 at_, .bool st] 26) := heap_alloc_new _ _
  have d1 : decide (nx < 0) = false := by simp; omega
  have d2 : decide (8 ≤ nx) = false := by simp; omega
  have d3 : decide (3 < at_) = false := by simp; omega
  have d4 : decide (0 ≤ fnd l nx tag) = true := by simpa using hf
  clear hf
  have hcw := hide hc
  have hzw := hide hfz
  replace hs := hide hs
  replace hr := hide hr
  replace hrow := hide hrow
  replace hown := hide hown
  replace hm := hide hm
  replace hfind := hide hfind
  replace hbx := hide hbx
  replace hbh := hide hbh
  go_enter Try.func12, Try.ntmps12
  go_wp2_with (go_at_call 26; (with_reducible refine hfind.out.mono ?_); rintro e w1 ⟨rfl, m1⟩; have b0 := m1.cell (hbx.out 0) (by simp); have b1 := m1.cell (hbx.out 1) (by simp); have b2 := m1.cell (hbx.out 2) (by simp); have b3 := m1.cell (hbx.out 3) (by simp); have hc1 := (hm.out.trans m1 (by simp)).cell hc (by simp); have ha1 := (hm.out.trans m1 (by simp)).cell ha (by simp); have hz1 : w1.frozen? ⟨w.heap.size, 3, none⟩ = false := (by have := m1.heap hbh.out (by simp); simp [World.frozen?, this]); have hs1 := m1.size; simp only [World.size_alloc] at hs1; replace m1 := hide m1)
  go_ret2
  exact ⟨rfl, hs.out.plus (hm.out.trans m1.out (by simp))⟩

set_option maxRecDepth 100000 in
set_option maxHeartbeats 2000000 in
theorem enter_bar1 (b : Nat) (t : T) (l : List T) (aca : Int) (F : Nat → Prop) (w : World) (hl : l.length ≤ 16) (hs : S w b l aca F) (h0 : 0 ≤ t.nx) (h8 : t.nx < 8) (h3 : t.at_ ≤ 3) (hf : fnd l t.nx t.tag < 0) (hb1 : 0 ≤ aca) (hb2 : t.nx ≠ aca) :
    Calls Try.prog 12 #[.pointer (some ⟨b, 0, none⟩), av t] w fun e w' => e = .returned (.tuple #[.int .u8 48, .int .i64 0]) ∧ S w' b (l) aca (Plus F w w') ∧ Mod F w w' := by
  obtain ⟨A, cap, hc, ha, hfz, -, hr, hrow, hown, hFb⟩ := hs.at_
  have hblt := hs.lt
  obtain ⟨nx, tag, at_, st⟩ := t
  dsimp only at *
  have hm : Mod (fun _ => False) w (w.alloc (.cells #[.int .i64 nx, .int .u32 tag, .int .u8 at_, .bool st] 26)) := (Mod.refl _ w).alloc _
  have hfind := find_some b nx tag l aca F _ (by omega) (hs.mod hm (by simp))
  have hbx : ∀ j, (w.alloc (.cells #[.int .i64 nx, .int .u32 tag, .int .u8 at_, .bool st] 26)).cell? ⟨w.heap.size, j, none⟩ = (#[.int .i64 nx, .int .u32 tag, .int .u8 at_, .bool st] : Array Value)[j]? := fun j => World.cell?_alloc_new _ _ _ _
  have hbh : (w.alloc (.cells #[.int .i64 nx, .int .u32 tag, .int .u8 at_, .bool st] 26)).heap[w.heap.size]? = some (.cells #[.int .i64 nx, .int .u32 tag, .int .u8 at_, .bool st] 26) := heap_alloc_new _ _
  have d1 : decide (nx < 0) = false := by simp; omega
  have d2 : decide (8 ≤ nx) = false := by simp; omega
  have d3 : decide (3 < at_) = false := by simp; omega
  have d4 : decide (0 ≤ fnd l nx tag) = false := by simp; omega
  clear hf
  have d5 : decide (0 ≤ aca) = true := by simpa using hb1
  have d6 : (nx != aca) = true := by simpa using hb2
  clear hb2
  have hcw := hide hc
  have hzw := hide hfz
  replace hs := hide hs
  replace hr := hide hr
  replace hrow := hide hrow
  replace hown := hide hown
  replace hm := hide hm
  replace hfind := hide hfind
  replace hbx := hide hbx
  replace hbh := hide hbh
  go_enter Try.func12, Try.ntmps12
  go_wp2_with (go_at_call 26; (with_reducible refine hfind.out.mono ?_); rintro e w1 ⟨rfl, m1⟩; have b0 := m1.cell (hbx.out 0) (by simp); have b1 := m1.cell (hbx.out 1) (by simp); have b2 := m1.cell (hbx.out 2) (by simp); have b3 := m1.cell (hbx.out 3) (by simp); have hc1 := (hm.out.trans m1 (by simp)).cell hc (by simp); have ha1 := (hm.out.trans m1 (by simp)).cell ha (by simp); have hz1 : w1.frozen? ⟨w.heap.size, 3, none⟩ = false := (by have := m1.heap hbh.out (by simp); simp [World.frozen?, this]); have hs1 := m1.size; simp only [World.size_alloc] at hs1; replace m1 := hide m1)
  go_quiet (fail)
  go_wp2_with fail
  go_ret2
  exact ⟨rfl, hs.out.plus ((hm.out.trans m1.out (by simp)).drewN _)⟩

set_option maxRecDepth 100000 in
set_option maxHeartbeats 2000000 in
theorem enter_bar2 (b : Nat) (t : T) (l : List T) (aca : Int) (F : Nat → Prop) (w : World) (hl : l.length ≤ 16) (hs : S w b l aca F) (h0 : 0 ≤ t.nx) (h8 : t.nx < 8) (h3 : t.at_ ≤ 3) (hf : fnd l t.nx t.tag < 0) (hb1 : 0 ≤ aca) (hb2 : t.nx = aca) (hb3 : t.at_ ≠ 3) :
    Calls Try.prog 12 #[.pointer (some ⟨b, 0, none⟩), av t] w fun e w' => e = .returned (.tuple #[.int .u8 48, .int .i64 0]) ∧ S w' b (l) aca (Plus F w w') ∧ Mod F w w' := by
  obtain ⟨A, cap, hc, ha, hfz, -, hr, hrow, hown, hFb⟩ := hs.at_
  have hblt := hs.lt
  obtain ⟨nx, tag, at_, st⟩ := t
  dsimp only at *
  have hm : Mod (fun _ => False) w (w.alloc (.cells #[.int .i64 nx, .int .u32 tag, .int .u8 at_, .bool st] 26)) := (Mod.refl _ w).alloc _
  have hfind := find_some b nx tag l aca F _ (by omega) (hs.mod hm (by simp))
  have hbx : ∀ j, (w.alloc (.cells #[.int .i64 nx, .int .u32 tag, .int .u8 at_, .bool st] 26)).cell? ⟨w.heap.size, j, none⟩ = (#[.int .i64 nx, .int .u32 tag, .int .u8 at_, .bool st] : Array Value)[j]? := fun j => World.cell?_alloc_new _ _ _ _
  have hbh : (w.alloc (.cells #[.int .i64 nx, .int .u32 tag, .int .u8 at_, .bool st] 26)).heap[w.heap.size]? = some (.cells #[.int .i64 nx, .int .u32 tag, .int .u8 at_, .bool st] 26) := heap_alloc_new _ _
  have d1 : decide (nx < 0) = false := by simp; omega
  have d2 : decide (8 ≤ nx) = false := by simp; omega
  have d3 : decide (3 < at_) = false := by simp; omega
  have d4 : decide (0 ≤ fnd l nx tag) = false := by simp; omega
  clear hf
  have d5 : decide (0 ≤ aca) = true := by simpa using hb1
  have d6 : (aca != aca) = false := by simp
  have d7 : (at_ != 3) = true := by simpa using hb3
  subst hb2
  have hcw := hide hc
  have hzw := hide hfz
  replace hs := hide hs
  replace hr := hide hr
  replace hrow := hide hrow
  replace hown := hide hown
  replace hm := hide hm
  replace hfind := hide hfind
  replace hbx := hide hbx
  replace hbh := hide hbh
  go_enter Try.func12, Try.ntmps12
  go_wp2_with (go_at_call 26; (with_reducible refine hfind.out.mono ?_); rintro e w1 ⟨rfl, m1⟩; have b0 := m1.cell (hbx.out 0) (by simp); have b1 := m1.cell (hbx.out 1) (by simp); have b2 := m1.cell (hbx.out 2) (by simp); have b3 := m1.cell (hbx.out 3) (by simp); have hc1 := (hm.out.trans m1 (by simp)).cell hc (by simp); have ha1 := (hm.out.trans m1 (by simp)).cell ha (by simp); have hz1 : w1.frozen? ⟨w.heap.size, 3, none⟩ = false := (by have := m1.heap hbh.out (by simp); simp [World.frozen?, this]); have hs1 := m1.size; simp only [World.size_alloc] at hs1; replace m1 := hide m1)
  go_quiet (fail)
  go_wp2_with fail
  go_ret2
  exact ⟨rfl, hs.out.plus ((hm.out.trans m1.out (by simp)).drewN _)⟩

set_option maxRecDepth 100000 in
set_option maxHeartbeats 2000000 in
theorem enter_bar3 (b : Nat) (t : T) (l : List T) (aca : Int) (F : Nat → Prop) (w : World) (hl : l.length ≤ 16) (hs : S w b l aca F) (h0 : 0 ≤ t.nx) (h8 : t.nx < 8) (h3 : t.at_ ≤ 3) (hf : fnd l t.nx t.tag < 0) (hb1 : aca < 0) (hb3 : t.at_ = 3) :
    Calls Try.prog 12 #[.pointer (some ⟨b, 0, none⟩), av t] w fun e w' => e = .returned (.tuple #[.int .u8 48, .int .i64 0]) ∧ S w' b (l) aca (Plus F w w') ∧ Mod F w w' := by
  obtain ⟨A, cap, hc, ha, hfz, -, hr, hrow, hown, hFb⟩ := hs.at_
  have hblt := hs.lt
  obtain ⟨nx, tag, at_, st⟩ := t
  dsimp only at *
  have hm : Mod (fun _ => False) w (w.alloc (.cells #[.int .i64 nx, .int .u32 tag, .int .u8 at_, .bool st] 26)) := (Mod.refl _ w).alloc _
  have hfind := find_some b nx tag l aca F _ (by omega) (hs.mod hm (by simp))
  have hbx : ∀ j, (w.alloc (.cells #[.int .i64 nx, .int .u32 tag, .int .u8 at_, .bool st] 26)).cell? ⟨w.heap.size, j, none⟩ = (#[.int .i64 nx, .int .u32 tag, .int .u8 at_, .bool st] : Array Value)[j]? := fun j => World.cell?_alloc_new _ _ _ _
  have hbh : (w.alloc (.cells #[.int .i64 nx, .int .u32 tag, .int .u8 at_, .bool st] 26)).heap[w.heap.size]? = some (.cells #[.int .i64 nx, .int .u32 tag, .int .u8 at_, .bool st] 26) := heap_alloc_new _ _
  have d1 : decide (nx < 0) = false := by simp; omega
  have d2 : decide (8 ≤ nx) = false := by simp; omega
  have d3 : decide (3 < at_) = false := by simp; omega
  have d4 : decide (0 ≤ fnd l nx tag) = false := by simp; omega
  clear hf
  have d5 : decide (0 ≤ aca) = false := by simp; omega
  have d6 : decide (aca < 0) = true := by simpa using hb1
  have d7 : (at_ == 3) = true := by simpa using hb3
  clear hb3
  have hcw := hide hc
  have hzw := hide hfz
  replace hs := hide hs
  replace hr := hide hr
  replace hrow := hide hrow
  replace hown := hide hown
  replace hm := hide hm
  replace hfind := hide hfind
  replace hbx := hide hbx
  replace hbh := hide hbh
  go_enter Try.func12, Try.ntmps12
  go_wp2_with (go_at_call 26; (with_reducible refine hfind.out.mono ?_); rintro e w1 ⟨rfl, m1⟩; have b0 := m1.cell (hbx.out 0) (by simp); have b1 := m1.cell (hbx.out 1) (by simp); have b2 := m1.cell (hbx.out 2) (by simp); have b3 := m1.cell (hbx.out 3) (by simp); have hc1 := (hm.out.trans m1 (by simp)).cell hc (by simp); have ha1 := (hm.out.trans m1 (by simp)).cell ha (by simp); have hz1 : w1.frozen? ⟨w.heap.size, 3, none⟩ = false := (by have := m1.heap hbh.out (by simp); simp [World.frozen?, this]); have hs1 := m1.size; simp only [World.size_alloc] at hs1; replace m1 := hide m1)
  go_quiet (fail)
  go_wp2_with fail
  go_ret2
  exact ⟨rfl, hs.out.plus ((hm.out.trans m1.out (by simp)).drewN _)⟩

set_option maxRecDepth 100000 in
set_option maxHeartbeats 2000000 in
theorem enter_in1 (b : Nat) (t : T) (l : List T) (aca : Int) (F : Nat → Prop) (w : World) (hl : l.length ≤ 16) (hs : S w b l aca F) (h0 : 0 ≤ t.nx) (h8 : t.nx < 8) (h3 : t.at_ ≤ 3) (hf : fnd l t.nx t.tag < 0) (hb1 : 0 ≤ aca) (hb2 : t.nx = aca) (hb3 : t.at_ = 3) (hlen : l.length < 16) :
    Calls Try.prog 12 #[.pointer (some ⟨b, 0, none⟩), av t] w fun e w' => e = .returned (.tuple #[.int .u8 0, .int .i64 0]) ∧ S w' b (l ++ [{ t with st := false }]) aca (Plus F w w') ∧ Mod F w w' := by
  obtain ⟨A, cap, hc, ha, hfz, -, hr, hrow, hown, hFb⟩ := hs.at_
  have hblt := hs.lt
  obtain ⟨nx, tag, at_, st⟩ := t
  dsimp only at *
  have hm : Mod (fun _ => False) w (w.alloc (.cells #[.int .i64 nx, .int .u32 tag, .int .u8 at_, .bool st] 26)) := (Mod.refl _ w).alloc _
  have hfind := find_some b nx tag l aca F _ (by omega) (hs.mod hm (by simp))
  have hbx : ∀ j, (w.alloc (.cells #[.int .i64 nx, .int .u32 tag, .int .u8 at_, .bool st] 26)).cell? ⟨w.heap.size, j, none⟩ = (#[.int .i64 nx, .int .u32 tag, .int .u8 at_, .bool st] : Array Value)[j]? := fun j => World.cell?_alloc_new _ _ _ _
  have hbh : (w.alloc (.cells #[.int .i64 nx, .int .u32 tag, .int .u8 at_, .bool st] 26)).heap[w.heap.size]? = some (.cells #[.int .i64 nx, .int .u32 tag, .int .u8 at_, .bool st] 26) := heap_alloc_new _ _
  have d1 : decide (nx < 0) = false := by simp; omega
  have d2 : decide (8 ≤ nx) = false := by simp; omega
  have d3 : decide (3 < at_) = false := by simp; omega
  have d4 : decide (0 ≤ fnd l nx tag) = false := by simp; omega
  clear hf
  have d5 : decide (0 ≤ aca) = true := by simpa using hb1
  have d6 : (aca != aca) = false := by simp
  have d7 : (at_ != 3) = false := by simpa using hb3
  have d8 : decide (aca < 0) = false := by simp; omega
  subst hb2
  clear hb3
  have hcw := hide hc
  have hzw := hide hfz
  replace hs := hide hs
  replace hr := hide hr
  replace hrow := hide hrow
  replace hown := hide hown
  replace hm := hide hm
  replace hfind := hide hfind
  replace hbx := hide hbx
  replace hbh := hide hbh
  go_enter Try.func12, Try.ntmps12
  go_wp2_with (go_at_call 26; (with_reducible refine hfind.out.mono ?_); rintro e w1 ⟨rfl, m1⟩; have b0 := m1.cell (hbx.out 0) (by simp); have b1 := m1.cell (hbx.out 1) (by simp); have b2 := m1.cell (hbx.out 2) (by simp); have b3 := m1.cell (hbx.out 3) (by simp); have hc1 := (hm.out.trans m1 (by simp)).cell hc (by simp); have ha1 := (hm.out.trans m1 (by simp)).cell ha (by simp); have hz1 : w1.frozen? ⟨w.heap.size, 3, none⟩ = false := (by have := m1.heap hbh.out (by simp); simp [World.frozen?, this]); have hs1 := m1.size; simp only [World.size_alloc] at hs1; replace m1 := hide m1)
  go_quiet (fail)
  go_wp2_with fail
  obtain ⟨k2, k3⟩ := boxed m1.out hbh.out nq
  obtain ⟨f0, f1, f2, f3, f4, f5, f6, f7, f8, f9⟩ := boxed_facts k2 k3 hc hfz hblt hrow.out
  generalize hW : (w1.drewN nq).setCell ⟨w.heap.size, 3, none⟩ (.bool false) = W at *
  clear hW b0 b1 b2 b3 hc1 ha1 hz1 hs1 ha hfz hc
  replace k2 := hide k2
  replace f9 := hide f9
  go_region_law (first
    | (refine step_app (.tmp 73) (.tmp 75) 30 26 _ 4 16 enc rfl rfl enc_len enc_one Try.underlying30 elem26 (.slice A l.length cap) l (some ⟨W.heap.size, 0, none⟩) 1 1 [{ nx := nx, tag := tag, at_ := at_, st := false }] ?_ ?_ f9.out.1 f9.out.2 ?_ ?_ ?_
       (simp [Act.eval])
       (simp [Act.eval])
       (simp [maxLen]; omega)
       (omega)
       intro v2 w2 h2 g2 a2
       have hg : Mod (fun k => (Value.slice A l.length cap).ownBlock = some k) w w2 := ((k2.out.mono (by simp)).alloc _).drew.grown g2 (fun k hk => .inl hk)
       have hc2 : w2.cell? ⟨b, 0, none⟩ = some (.slice A l.length cap) := hg.cell hcw.out (fun e => (hown.out _ e).2 rfl)
       have hf2 : w2.frozen? ⟨b, 0, none⟩ = false := (hg.frozen (p := ⟨b, 0, none⟩) hblt (fun e => (hown.out _ e).2 rfl)).trans hzw.out
       obtain ⟨A2, n2, cap2, rfl⟩ := h2.form))
  all_goals
    go_wp2_with fail
    go_ret2
    exact ⟨rfl, entered hs.out hg hcw.out h2 (fun j hj => by
      rcases a2 with e | e <;> rw [e] at hj
      · exact .inl hj
      · have := k2.out.size
        simp at hj
        right; omega)⟩

set_option maxRecDepth 100000 in
set_option maxHeartbeats 2000000 in
theorem enter_in2 (b : Nat) (t : T) (l : List T) (aca : Int) (F : Nat → Prop) (w : World) (hl : l.length ≤ 16) (hs : S w b l aca F) (h0 : 0 ≤ t.nx) (h8 : t.nx < 8) (h3 : t.at_ ≤ 3) (hf : fnd l t.nx t.tag < 0) (hb1 : aca < 0) (hb3 : t.at_ ≠ 3) (hlen : l.length < 16) :
    Calls Try.prog 12 #[.pointer (some ⟨b, 0, none⟩), av t] w fun e w' => e = .returned (.tuple #[.int .u8 0, .int .i64 0]) ∧ S w' b (l ++ [{ t with st := false }]) aca (Plus F w w') ∧ Mod F w w' := by
  obtain ⟨A, cap, hc, ha, hfz, -, hr, hrow, hown, hFb⟩ := hs.at_
  have hblt := hs.lt
  obtain ⟨nx, tag, at_, st⟩ := t
  dsimp only at *
  have hm : Mod (fun _ => False) w (w.alloc (.cells #[.int .i64 nx, .int .u32 tag, .int .u8 at_, .bool st] 26)) := (Mod.refl _ w).alloc _
  have hfind := find_some b nx tag l aca F _ (by omega) (hs.mod hm (by simp))
  have hbx : ∀ j, (w.alloc (.cells #[.int .i64 nx, .int .u32 tag, .int .u8 at_, .bool st] 26)).cell? ⟨w.heap.size, j, none⟩ = (#[.int .i64 nx, .int .u32 tag, .int .u8 at_, .bool st] : Array Value)[j]? := fun j => World.cell?_alloc_new _ _ _ _
  have hbh : (w.alloc (.cells #[.int .i64 nx, .int .u32 tag, .int .u8 at_, .bool st] 26)).heap[w.heap.size]? = some (.cells #[.int .i64 nx, .int .u32 tag, .int .u8 at_, .bool st] 26) := heap_alloc_new _ _
  have d1 : decide (nx < 0) = false := by simp; omega
  have d2 : decide (8 ≤ nx) = false := by simp; omega
  have d3 : decide (3 < at_) = false := by simp; omega
  have d4 : decide (0 ≤ fnd l nx tag) = false := by simp; omega
  clear hf
  have d5 : decide (0 ≤ aca) = false := by simp; omega
  have d6 : decide (aca < 0) = true := by simpa using hb1
  have d7 : (at_ == 3) = false := by simpa using hb3
  clear hb3
  have hcw := hide hc
  have hzw := hide hfz
  replace hs := hide hs
  replace hr := hide hr
  replace hrow := hide hrow
  replace hown := hide hown
  replace hm := hide hm
  replace hfind := hide hfind
  replace hbx := hide hbx
  replace hbh := hide hbh
  go_enter Try.func12, Try.ntmps12
  go_wp2_with (go_at_call 26; (with_reducible refine hfind.out.mono ?_); rintro e w1 ⟨rfl, m1⟩; have b0 := m1.cell (hbx.out 0) (by simp); have b1 := m1.cell (hbx.out 1) (by simp); have b2 := m1.cell (hbx.out 2) (by simp); have b3 := m1.cell (hbx.out 3) (by simp); have hc1 := (hm.out.trans m1 (by simp)).cell hc (by simp); have ha1 := (hm.out.trans m1 (by simp)).cell ha (by simp); have hz1 : w1.frozen? ⟨w.heap.size, 3, none⟩ = false := (by have := m1.heap hbh.out (by simp); simp [World.frozen?, this]); have hs1 := m1.size; simp only [World.size_alloc] at hs1; replace m1 := hide m1)
  go_quiet (fail)
  go_wp2_with fail
  obtain ⟨k2, k3⟩ := boxed m1.out hbh.out nq
  obtain ⟨f0, f1, f2, f3, f4, f5, f6, f7, f8, f9⟩ := boxed_facts k2 k3 hc hfz hblt hrow.out
  generalize hW : (w1.drewN nq).setCell ⟨w.heap.size, 3, none⟩ (.bool false) = W at *
  clear hW b0 b1 b2 b3 hc1 ha1 hz1 hs1 ha hfz hc
  replace k2 := hide k2
  replace f9 := hide f9
  go_region_law (first
    | (refine step_app (.tmp 73) (.tmp 75) 30 26 _ 4 16 enc rfl rfl enc_len enc_one Try.underlying30 elem26 (.slice A l.length cap) l (some ⟨W.heap.size, 0, none⟩) 1 1 [{ nx := nx, tag := tag, at_ := at_, st := false }] ?_ ?_ f9.out.1 f9.out.2 ?_ ?_ ?_
       (simp [Act.eval])
       (simp [Act.eval])
       (simp [maxLen]; omega)
       (omega)
       intro v2 w2 h2 g2 a2
       have hg : Mod (fun k => (Value.slice A l.length cap).ownBlock = some k) w w2 := ((k2.out.mono (by simp)).alloc _).drew.grown g2 (fun k hk => .inl hk)
       have hc2 : w2.cell? ⟨b, 0, none⟩ = some (.slice A l.length cap) := hg.cell hcw.out (fun e => (hown.out _ e).2 rfl)
       have hf2 : w2.frozen? ⟨b, 0, none⟩ = false := (hg.frozen (p := ⟨b, 0, none⟩) hblt (fun e => (hown.out _ e).2 rfl)).trans hzw.out
       obtain ⟨A2, n2, cap2, rfl⟩ := h2.form))
  all_goals
    go_wp2_with fail
    go_ret2
    exact ⟨rfl, entered hs.out hg hcw.out h2 (fun j hj => by
      rcases a2 with e | e <;> rw [e] at hj
      · exact .inl hj
      · have := k2.out.size
        simp at hj
        right; omega)⟩

set_option maxRecDepth 100000 in
set_option maxHeartbeats 2000000 in
theorem enter_full1 (b : Nat) (t : T) (l : List T) (aca : Int) (F : Nat → Prop) (w : World) (hl : l.length ≤ 16) (hs : S w b l aca F) (h0 : 0 ≤ t.nx) (h8 : t.nx < 8) (h3 : t.at_ ≤ 3) (hf : fnd l t.nx t.tag < 0) (hb1 : 0 ≤ aca) (hb2 : t.nx = aca) (hb3 : t.at_ = 3) (hlen : 16 ≤ l.length) :
    Calls Try.prog 12 #[.pointer (some ⟨b, 0, none⟩), av t] w fun e w' => e = .returned (.tuple #[.int .u8 40, .int .i64 0]) ∧ S w' b (l) aca (Plus F w w') ∧ Mod F w w' := by
  obtain ⟨A, cap, hc, ha, hfz, -, hr, hrow, hown, hFb⟩ := hs.at_
  have hblt := hs.lt
  obtain ⟨nx, tag, at_, st⟩ := t
  dsimp only at *
  have hm : Mod (fun _ => False) w (w.alloc (.cells #[.int .i64 nx, .int .u32 tag, .int .u8 at_, .bool st] 26)) := (Mod.refl _ w).alloc _
  have hfind := find_some b nx tag l aca F _ (by omega) (hs.mod hm (by simp))
  have hbx : ∀ j, (w.alloc (.cells #[.int .i64 nx, .int .u32 tag, .int .u8 at_, .bool st] 26)).cell? ⟨w.heap.size, j, none⟩ = (#[.int .i64 nx, .int .u32 tag, .int .u8 at_, .bool st] : Array Value)[j]? := fun j => World.cell?_alloc_new _ _ _ _
  have hbh : (w.alloc (.cells #[.int .i64 nx, .int .u32 tag, .int .u8 at_, .bool st] 26)).heap[w.heap.size]? = some (.cells #[.int .i64 nx, .int .u32 tag, .int .u8 at_, .bool st] 26) := heap_alloc_new _ _
  have d1 : decide (nx < 0) = false := by simp; omega
  have d2 : decide (8 ≤ nx) = false := by simp; omega
  have d3 : decide (3 < at_) = false := by simp; omega
  have d4 : decide (0 ≤ fnd l nx tag) = false := by simp; omega
  clear hf
  have d5 : decide (0 ≤ aca) = true := by simpa using hb1
  have d6 : (aca != aca) = false := by simp
  have d7 : (at_ != 3) = false := by simpa using hb3
  have d8 : decide (aca < 0) = false := by simp; omega
  subst hb2
  clear hb3
  have hcw := hide hc
  have hzw := hide hfz
  replace hs := hide hs
  replace hr := hide hr
  replace hrow := hide hrow
  replace hown := hide hown
  replace hm := hide hm
  replace hfind := hide hfind
  replace hbx := hide hbx
  replace hbh := hide hbh
  go_enter Try.func12, Try.ntmps12
  go_wp2_with (go_at_call 26; (with_reducible refine hfind.out.mono ?_); rintro e w1 ⟨rfl, m1⟩; have b0 := m1.cell (hbx.out 0) (by simp); have b1 := m1.cell (hbx.out 1) (by simp); have b2 := m1.cell (hbx.out 2) (by simp); have b3 := m1.cell (hbx.out 3) (by simp); have hc1 := (hm.out.trans m1 (by simp)).cell hc (by simp); have ha1 := (hm.out.trans m1 (by simp)).cell ha (by simp); have hz1 : w1.frozen? ⟨w.heap.size, 3, none⟩ = false := (by have := m1.heap hbh.out (by simp); simp [World.frozen?, this]); have hs1 := m1.size; simp only [World.size_alloc] at hs1; replace m1 := hide m1)
  go_quiet (fail)
  go_wp2_with fail
  go_ret2
  exact ⟨rfl, hs.out.plus ((hm.out.trans m1.out (by simp)).drewN _)⟩

set_option maxRecDepth 100000 in
set_option maxHeartbeats 2000000 in
theorem enter_full2 (b : Nat) (t : T) (l : List T) (aca : Int) (F : Nat → Prop) (w : World) (hl : l.length ≤ 16) (hs : S w b l aca F) (h0 : 0 ≤ t.nx) (h8 : t.nx < 8) (h3 : t.at_ ≤ 3) (hf : fnd l t.nx t.tag < 0) (hb1 : aca < 0) (hb3 : t.at_ ≠ 3) (hlen : 16 ≤ l.length) :
    Calls Try.prog 12 #[.pointer (some ⟨b, 0, none⟩), av t] w fun e w' => e = .returned (.tuple #[.int .u8 40, .int .i64 0]) ∧ S w' b (l) aca (Plus F w w') ∧ Mod F w w' := by
  obtain ⟨A, cap, hc, ha, hfz, -, hr, hrow, hown, hFb⟩ := hs.at_
  have hblt := hs.lt
  obtain ⟨nx, tag, at_, st⟩ := t
  dsimp only at *
  have hm : Mod (fun _ => False) w (w.alloc (.cells #[.int .i64 nx, .int .u32 tag, .int .u8 at_, .bool st] 26)) := (Mod.refl _ w).alloc _
  have hfind := find_some b nx tag l aca F _ (by omega) (hs.mod hm (by simp))
  have hbx : ∀ j, (w.alloc (.cells #[.int .i64 nx, .int .u32 tag, .int .u8 at_, .bool st] 26)).cell? ⟨w.heap.size, j, none⟩ = (#[.int .i64 nx, .int .u32 tag, .int .u8 at_, .bool st] : Array Value)[j]? := fun j => World.cell?_alloc_new _ _ _ _
  have hbh : (w.alloc (.cells #[.int .i64 nx, .int .u32 tag, .int .u8 at_, .bool st] 26)).heap[w.heap.size]? = some (.cells #[.int .i64 nx, .int .u32 tag, .int .u8 at_, .bool st] 26) := heap_alloc_new _ _
  have d1 : decide (nx < 0) = false := by simp; omega
  have d2 : decide (8 ≤ nx) = false := by simp; omega
  have d3 : decide (3 < at_) = false := by simp; omega
  have d4 : decide (0 ≤ fnd l nx tag) = false := by simp; omega
  clear hf
  have d5 : decide (0 ≤ aca) = false := by simp; omega
  have d6 : decide (aca < 0) = true := by simpa using hb1
  have d7 : (at_ == 3) = false := by simpa using hb3
  clear hb3
  have hcw := hide hc
  have hzw := hide hfz
  replace hs := hide hs
  replace hr := hide hr
  replace hrow := hide hrow
  replace hown := hide hown
  replace hm := hide hm
  replace hfind := hide hfind
  replace hbx := hide hbx
  replace hbh := hide hbh
  go_enter Try.func12, Try.ntmps12
  go_wp2_with (go_at_call 26; (with_reducible refine hfind.out.mono ?_); rintro e w1 ⟨rfl, m1⟩; have b0 := m1.cell (hbx.out 0) (by simp); have b1 := m1.cell (hbx.out 1) (by simp); have b2 := m1.cell (hbx.out 2) (by simp); have b3 := m1.cell (hbx.out 3) (by simp); have hc1 := (hm.out.trans m1 (by simp)).cell hc (by simp); have ha1 := (hm.out.trans m1 (by simp)).cell ha (by simp); have hz1 : w1.frozen? ⟨w.heap.size, 3, none⟩ = false := (by have := m1.heap hbh.out (by simp); simp [World.frozen?, this]); have hs1 := m1.size; simp only [World.size_alloc] at hs1; replace m1 := hide m1)
  go_quiet (fail)
  go_wp2_with fail
  go_ret2
  exact ⟨rfl, hs.out.plus ((hm.out.trans m1.out (by simp)).drewN _)⟩

theorem enter_some (b : Nat) (t : T) (l : List T) (aca : Int) (F : Nat → Prop) (w : World) (hl : l.length ≤ 16) (hs : S w b l aca F) :
    Calls Try.prog 12 #[.pointer (some ⟨b, 0, none⟩), av t] w fun e w' => e = .returned (.tuple #[.int .u8 (ent l aca t).1, .int .i64 (ent l aca t).2.1]) ∧ S w' b (ent l aca t).2.2 aca (Plus F w w') ∧ Mod F w w' := by
  by_cases h1 : t.nx < 0 ∨ 8 ≤ t.nx ∨ 3 < t.at_
  · rw [ent, if_pos h1]; exact enter_arg b t l aca F w hs h1
  · have h0 : 0 ≤ t.nx := by omega
    have h8 : t.nx < 8 := by omega
    have h3 : t.at_ ≤ 3 := by omega
    rw [ent, if_neg h1]
    by_cases h2 : 0 ≤ fnd l t.nx t.tag
    · rw [if_pos h2]; exact enter_dup b t l aca F w hl hs h0 h8 h3 h2
    · rw [if_neg h2]
      have hf : fnd l t.nx t.tag < 0 := by omega
      by_cases ha : 0 ≤ aca
      · by_cases hn : t.nx = aca
        · by_cases h4 : t.at_ = 3
          · have hb : ¬ barred aca t := by
              rintro (⟨_, h | h⟩ | ⟨h, _⟩)
              · exact h hn
              · exact h h4
              · omega
            rw [if_neg hb]
            by_cases h5 : 16 ≤ l.length
            · rw [if_pos h5]; exact enter_full1 b t l aca F w hl hs h0 h8 h3 hf ha hn h4 h5
            · rw [if_neg h5]; exact enter_in1 b t l aca F w hl hs h0 h8 h3 hf ha hn h4 (by omega)
          · rw [if_pos (.inl ⟨ha, .inr h4⟩)]; exact enter_bar2 b t l aca F w hl hs h0 h8 h3 hf ha hn h4
        · rw [if_pos (.inl ⟨ha, .inl hn⟩)]; exact enter_bar1 b t l aca F w hl hs h0 h8 h3 hf ha hn
      · by_cases h4 : t.at_ = 3
        · rw [if_pos (.inr ⟨by omega, h4⟩)]; exact enter_bar3 b t l aca F w hl hs h0 h8 h3 hf (by omega) h4
        · have hb : ¬ barred aca t := by
            rintro (⟨h, _⟩ | ⟨_, h⟩)
            · exact ha h
            · exact h4 h
          rw [if_neg hb]
          by_cases h5 : 16 ≤ l.length
          · rw [if_pos h5]; exact enter_full2 b t l aca F w hl hs h0 h8 h3 hf (by omega) h4 h5
          · rw [if_neg h5]; exact enter_in2 b t l aca F w hl hs h0 h8 h3 hf (by omega) h4 (by omega)
end Go.Proofs.Ytabkplmpkdbchaa
