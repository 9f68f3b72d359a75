/-
  The walk of ModeTells. No condition.
-/
import Derived.Test.YtieieinaijopnaaSense1
import Derived.Test.YtieieinaijopnaaSense2
import Derived.Test.YtieieinaijopnaaSense3
import Derived.Test.YtieieinaijopnaaSenseO
import Derived.Test.YtieieinaijopnaaOpen
namespace Go.Proofs.Ytieieinaijopnaa
open Go.RowKit

theorem sense_good (p : Nat) (c : C) (n s : V) (w : World) (hpg : PG w p n s) (hp : c.page = 8 ∨ c.page = 10 ∨ c.page = 63) : Calls Try.prog 10 #[.pointer (some ⟨p, 0, none⟩), cv c] w (Told c n s w) := by
  by_cases h1 : c.control = 1
  · rcases hp with h | h | h
    · exact sense_1_8 p c n s w hpg h1 h
    · exact sense_1_10 p c n s w hpg h1 h
    · exact sense_1_63 p c n s w hpg h1 h
  · by_cases h2 : c.control = 2
    · rcases hp with h | h | h
      · exact sense_2_8 p c n s w hpg h2 h
      · exact sense_2_10 p c n s w hpg h2 h
      · exact sense_2_63 p c n s w hpg h2 h
    · by_cases h3 : c.control = 3
      · rcases hp with h | h | h
        · exact sense_3_8 p c n s w hpg h3 h
        · exact sense_3_10 p c n s w hpg h3 h
        · exact sense_3_63 p c n s w hpg h3 h
      · have k1 : (c.control == 1) = false := by simpa using h1
        have k2 : (c.control == 2) = false := by simpa using h2
        have k3 : (c.control == 3) = false := by simpa using h3
        rcases hp with h | h | h
        · exact sense_o_8 p c n s w hpg h k1 k2 k3
        · exact sense_o_10 p c n s w hpg h k1 k2 k3
        · exact sense_o_63 p c n s w hpg h k1 k2 k3
end Go.Proofs.Ytieieinaijopnaa
namespace Go.Proofs.Ytieieinaijopnaa.modeTells
open Go.ChangeShapes Go.WideShapes Go.ChangeAt Go.RowKit Go.Deep
set_option linter.unusedVariables false
/-- A command that asks for a page. -/
abbrev ask (long : Bool) (g ctl : Int) : C := ⟨0, long, 0, 0, 0, false, 0, false, false, g, ctl, false, 0, 0, false⟩
theorem sense_n (p : Nat) (c : C) (n s : V) (w : World) (hpg : PG w p n s) (hp : c.page = 8 ∨ c.page = 10 ∨ c.page = 63) (N : Nat) (hN : (senseL c n s).length = N) (L : List Int) (hL : senseL c n s = L) :
    Calls Try.prog 10 #[.pointer (some ⟨p, 0, none⟩), cv c] w fun e w' => ∃ g cap, e = .returned (.tuple #[.slice (some ⟨g, 0, none⟩) N cap, .agg #[.int .u8 0, .int .u16 0, .int .u64 0, .bool false, .int .i64 0, .int .i64 0, .bool false, .bool false], .bool true]) ∧
      Row w' 5 1 (ic .u8) (.slice (some ⟨g, 0, none⟩) N cap) L ∧ Mod (fun _ => False) w w' ∧ w.heap.size ≤ g :=
  (sense_good p c n s w hpg hp).mono fun e w' ⟨g, cap, he, hr, hm, hg⟩ => by
    subst hN; subst hL
    exact ⟨g, cap, he, hr, hm, hg⟩

set_option maxRecDepth 100000 in
set_option maxHeartbeats 2000000 in
theorem go_8_false (v : V) (page : Int) (w : World) (h0 : 0 ≤ page ∧ page ≤ 255) (q2 : page.tmod 3 = 0) (L1 L2 : List Int)
    (e1 : senseL (ask false 8 0) v v = L1) (e2 : senseL (ask false 8 1) v v = L2) (n1 : L1.length = 24) (n2 : L2.length = 24) (hz : gi L1 0 = 23 ∧ gi L1 1 = 0)
    (hf : ∀ i, i < 24 → 4 ≤ i → (bits BinOp.andNot IntKind.u8 (gi L1 i) (gi L2 i) != 0) = false) (hb1 : ∀ i, i < 24 → 0 ≤ gi L1 i ∧ gi L1 i ≤ 255) (hb2 : ∀ i, i < 24 → 0 ≤ gi L2 i ∧ gi L2 i ≤ 255) :
    Calls Try.prog 3 #[vv v, .int .u8 page, .bool false] w fun e w' => e = .returned (.bool true) ∧ Below w.heap.size w w' := by
  obtain ⟨B, hB⟩ : ∃ B, B = w.heap.size := ⟨_, rfl⟩
  obtain ⟨a, b, c⟩ := v
  have haw := awake_any (w.alloc (.cells #[.bool a, .bool b, .bool c] 23))
  have q1 : IntKind.i64.wrap page = page := IntWalk.i64_in _ (by omega)
  have hs1 := fun p W h => sense_n p (ask false 8 0) ⟨a, b, c⟩ ⟨a, b, c⟩ W h (.inl rfl) 24 (by rw [e1]; exact n1) L1 e1
  have hs2 := fun p W h => sense_n p (ask false 8 1) ⟨a, b, c⟩ ⟨a, b, c⟩ W h (.inl rfl) 24 (by rw [e2]; exact n2) L2 e2
  clear e1 e2
  replace hB := hide hB; replace haw := hide haw; replace h0 := hide h0; replace hz := hide hz; replace hf := hide hf; replace hb1 := hide hb1; replace hb2 := hide hb2
  replace hs1 := hide hs1; replace hs2 := hide hs2; replace n1 := hide n1; replace n2 := hide n2
  go_enter Try.func3, Try.ntmps3
  go_wp2_with (first
    | (go_at_call 8; (with_reducible refine haw.out.mono ?_); rintro e w1 ⟨rfl, m1⟩
       have hl1 : w.heap.size < w1.heap.size := by have := m1.size; simp at this; omega
       have f0 := m1.cell (p := ⟨w.heap.size, 0, none⟩) (v := .bool a) (by simp) (by simp)
       have f1 := m1.cell (p := ⟨w.heap.size, 1, none⟩) (v := .bool b) (by simp) (by simp)
       have f2 := m1.cell (p := ⟨w.heap.size, 2, none⟩) (v := .bool c) (by simp) (by simp)
       replace m1 := hide m1)
    | (go_at_call 9; (with_reducible refine (new_any ⟨a, b, c⟩ _).mono ?_); rintro e w2 ⟨p, rfl, hp, m2, o2⟩; replace hp := hide hp; replace m2 := hide m2)
    | (go_at_call 10; (with_reducible refine (hs1.out p w2 hp.out).mono ?_); rintro e w3 ⟨g3, c3, rfl, r3, m3, o3⟩; have hp3 := hide (hp.out.mod m3 (by simp)); replace r3 := hide r3; replace m3 := hide m3)
    | (go_at_call 10; (with_reducible refine (hs2.out p _ (hp3.out.mod ((Mod.refl (fun _ => False) w3).alloc _) (by simp))).mono ?_); rintro e w4 ⟨g4, c4, rfl, r4, m4, o4⟩; replace r4 := hide r4; replace m4 := hide m4))
  have M5 : Mod (fun _ => False) w (w4.alloc (.cells #[.int .u8 0, .int .u16 0, .int .u64 0, .bool false, .int .i64 0, .int .i64 0, .bool false, .bool false] 31)) :=
    (((((((((Mod.refl _ w).alloc _).trans m1.out (by simp)).alloc _).trans m2.out (by simp)).trans m3.out (by simp)).alloc _).trans m4.out (by simp)).alloc _)
  have r3a : Row (w4.alloc (.cells #[.int .u8 0, .int .u16 0, .int .u64 0, .bool false, .int .i64 0, .int .i64 0, .bool false, .bool false] 31)) 5 1 (ic .u8) (.slice (some ⟨g3, 0, none⟩) 24 c3) L1 := ((r3.out.alloc _).mod m4.out (by simp)).alloc _
  have r4a := r4.out.alloc (.cells #[.int .u8 0, .int .u16 0, .int .u64 0, .bool false, .int .i64 0, .int .i64 0, .bool false, .bool false] 31)
  obtain ⟨w5, hw5⟩ : ∃ w5, w5 = (w4.alloc (.cells #[.int .u8 0, .int .u16 0, .int .u64 0, .bool false, .int .i64 0, .int .i64 0, .bool false, .bool false] 31)) := ⟨_, rfl⟩
  rw [← hw5] at M5 r3a r4a
  replace hw5 := hide hw5; replace M5 := hide M5; replace r3a := hide r3a; replace r4a := hide r4a
  clear haw hs1 hs2 hp hp3 m1 m2 m3 m4 r3 r4
  go_loopw [16] (fun u wr => ∃ i : Nat, 4 ≤ i ∧ i ≤ 24 ∧ u = .int .i64 i ∧ Hid (∃ m, wr = w5.drewN m)) (fun u _ => 24 - (intOf u).toNat)
  case atStart => exact ⟨4, by omega, by omega, rfl, hide ⟨0, by rw [hw5.out]; rfl⟩⟩
  case round =>
    obtain ⟨i, hi4, hiN, rfl, hR⟩ := hrel
    obtain ⟨q, rfl⟩ := hR.out
    by_cases hlt : i < 24
    · have x1 := (r3a.out.num i (by rw [n1.out]; exact hlt)).1
      have x2 := (r4a.out.num i (by rw [n2.out]; exact hlt)).1
      obtain ⟨b0, b1⟩ := hb1.out i hlt
      obtain ⟨b2, b3⟩ := hb2.out i hlt
      have hfi := hf.out i hlt hi4
      go_wp2_with fail
      go_quiet (fail)
      go_wp2_with fail
      go_roundw
      case rel => exact ⟨i + 1, by omega, by omega, by go_num, hide ⟨_, rfl⟩⟩
      case measure => simp [intOf]; omega
    · obtain rfl : i = 24 := by omega
      have y0 : w5.cell? ⟨g3, 0, none⟩ = some (.int .u8 23) := by rw [← hz.out.1]; exact (r3a.out.num 0 (by rw [n1.out]; decide)).1
      have y1 : w5.cell? ⟨g3, 1, none⟩ = some (.int .u8 0) := by rw [← hz.out.2]; exact (r3a.out.num 1 (by rw [n1.out]; decide)).1
      go_wp2_with fail
      go_ret
      exact ⟨rfl, below_drewN (M5.out.below (Nat.le_refl _) (by simp)) _⟩
set_option maxRecDepth 100000 in
set_option maxHeartbeats 2000000 in
theorem go_8_true (v : V) (page : Int) (w : World) (h0 : 0 ≤ page ∧ page ≤ 255) (q2 : page.tmod 3 = 0) (L1 L2 : List Int)
    (e1 : senseL (ask true 8 0) v v = L1) (e2 : senseL (ask true 8 1) v v = L2) (n1 : L1.length = 28) (n2 : L2.length = 28) (hz : gi L1 0 = 0 ∧ gi L1 1 = 26)
    (hf : ∀ i, i < 28 → 8 ≤ i → (bits BinOp.andNot IntKind.u8 (gi L1 i) (gi L2 i) != 0) = false) (hb1 : ∀ i, i < 28 → 0 ≤ gi L1 i ∧ gi L1 i ≤ 255) (hb2 : ∀ i, i < 28 → 0 ≤ gi L2 i ∧ gi L2 i ≤ 255) :
    Calls Try.prog 3 #[vv v, .int .u8 page, .bool true] w fun e w' => e = .returned (.bool true) ∧ Below w.heap.size w w' := by
  obtain ⟨B, hB⟩ : ∃ B, B = w.heap.size := ⟨_, rfl⟩
  obtain ⟨a, b, c⟩ := v
  have haw := awake_any (w.alloc (.cells #[.bool a, .bool b, .bool c] 23))
  have q1 : IntKind.i64.wrap page = page := IntWalk.i64_in _ (by omega)
  have hs1 := fun p W h => sense_n p (ask true 8 0) ⟨a, b, c⟩ ⟨a, b, c⟩ W h (.inl rfl) 28 (by rw [e1]; exact n1) L1 e1
  have hs2 := fun p W h => sense_n p (ask true 8 1) ⟨a, b, c⟩ ⟨a, b, c⟩ W h (.inl rfl) 28 (by rw [e2]; exact n2) L2 e2
  clear e1 e2
  replace hB := hide hB; replace haw := hide haw; replace h0 := hide h0; replace hz := hide hz; replace hf := hide hf; replace hb1 := hide hb1; replace hb2 := hide hb2
  replace hs1 := hide hs1; replace hs2 := hide hs2; replace n1 := hide n1; replace n2 := hide n2
  go_enter Try.func3, Try.ntmps3
  go_wp2_with (first
    | (go_at_call 8; (with_reducible refine haw.out.mono ?_); rintro e w1 ⟨rfl, m1⟩
       have hl1 : w.heap.size < w1.heap.size := by have := m1.size; simp at this; omega
       have f0 := m1.cell (p := ⟨w.heap.size, 0, none⟩) (v := .bool a) (by simp) (by simp)
       have f1 := m1.cell (p := ⟨w.heap.size, 1, none⟩) (v := .bool b) (by simp) (by simp)
       have f2 := m1.cell (p := ⟨w.heap.size, 2, none⟩) (v := .bool c) (by simp) (by simp)
       replace m1 := hide m1)
    | (go_at_call 9; (with_reducible refine (new_any ⟨a, b, c⟩ _).mono ?_); rintro e w2 ⟨p, rfl, hp, m2, o2⟩; replace hp := hide hp; replace m2 := hide m2)
    | (go_at_call 10; (with_reducible refine (hs1.out p w2 hp.out).mono ?_); rintro e w3 ⟨g3, c3, rfl, r3, m3, o3⟩; have hp3 := hide (hp.out.mod m3 (by simp)); replace r3 := hide r3; replace m3 := hide m3)
    | (go_at_call 10; (with_reducible refine (hs2.out p _ (hp3.out.mod ((Mod.refl (fun _ => False) w3).alloc _) (by simp))).mono ?_); rintro e w4 ⟨g4, c4, rfl, r4, m4, o4⟩; replace r4 := hide r4; replace m4 := hide m4))
  have M5 : Mod (fun _ => False) w (w4.alloc (.cells #[.int .u8 0, .int .u16 0, .int .u64 0, .bool false, .int .i64 0, .int .i64 0, .bool false, .bool false] 31)) :=
    (((((((((Mod.refl _ w).alloc _).trans m1.out (by simp)).alloc _).trans m2.out (by simp)).trans m3.out (by simp)).alloc _).trans m4.out (by simp)).alloc _)
  have r3a : Row (w4.alloc (.cells #[.int .u8 0, .int .u16 0, .int .u64 0, .bool false, .int .i64 0, .int .i64 0, .bool false, .bool false] 31)) 5 1 (ic .u8) (.slice (some ⟨g3, 0, none⟩) 28 c3) L1 := ((r3.out.alloc _).mod m4.out (by simp)).alloc _
  have r4a := r4.out.alloc (.cells #[.int .u8 0, .int .u16 0, .int .u64 0, .bool false, .int .i64 0, .int .i64 0, .bool false, .bool false] 31)
  obtain ⟨w5, hw5⟩ : ∃ w5, w5 = (w4.alloc (.cells #[.int .u8 0, .int .u16 0, .int .u64 0, .bool false, .int .i64 0, .int .i64 0, .bool false, .bool false] 31)) := ⟨_, rfl⟩
  rw [← hw5] at M5 r3a r4a
  replace hw5 := hide hw5; replace M5 := hide M5; replace r3a := hide r3a; replace r4a := hide r4a
  clear haw hs1 hs2 hp hp3 m1 m2 m3 m4 r3 r4
  go_loopw [16] (fun u wr => ∃ i : Nat, 8 ≤ i ∧ i ≤ 28 ∧ u = .int .i64 i ∧ Hid (∃ m, wr = w5.drewN m)) (fun u _ => 28 - (intOf u).toNat)
  case atStart => exact ⟨8, by omega, by omega, rfl, hide ⟨0, by rw [hw5.out]; rfl⟩⟩
  case round =>
    obtain ⟨i, hi4, hiN, rfl, hR⟩ := hrel
    obtain ⟨q, rfl⟩ := hR.out
    by_cases hlt : i < 28
    · have x1 := (r3a.out.num i (by rw [n1.out]; exact hlt)).1
      have x2 := (r4a.out.num i (by rw [n2.out]; exact hlt)).1
      obtain ⟨b0, b1⟩ := hb1.out i hlt
      obtain ⟨b2, b3⟩ := hb2.out i hlt
      have hfi := hf.out i hlt hi4
      go_wp2_with fail
      go_quiet (fail)
      go_wp2_with fail
      go_roundw
      case rel => exact ⟨i + 1, by omega, by omega, by go_num, hide ⟨_, rfl⟩⟩
      case measure => simp [intOf]; omega
    · obtain rfl : i = 28 := by omega
      have y0 : w5.cell? ⟨g3, 0, none⟩ = some (.int .u8 0) := by rw [← hz.out.1]; exact (r3a.out.num 0 (by rw [n1.out]; decide)).1
      have y1 : w5.cell? ⟨g3, 1, none⟩ = some (.int .u8 26) := by rw [← hz.out.2]; exact (r3a.out.num 1 (by rw [n1.out]; decide)).1
      go_wp2_with fail
      go_quiet (fail)
      go_wp2_with fail
      go_ret
      exact ⟨rfl, below_drewN (M5.out.below (Nat.le_refl _) (by simp)) _⟩
set_option maxRecDepth 100000 in
set_option maxHeartbeats 2000000 in
theorem go_10_false (v : V) (page : Int) (w : World) (h0 : 0 ≤ page ∧ page ≤ 255) (q2 : page.tmod 3 = 1) (L1 L2 : List Int)
    (e1 : senseL (ask false 10 0) v v = L1) (e2 : senseL (ask false 10 1) v v = L2) (n1 : L1.length = 16) (n2 : L2.length = 16) (hz : gi L1 0 = 15 ∧ gi L1 1 = 0)
    (hf : ∀ i, i < 16 → 4 ≤ i → (bits BinOp.andNot IntKind.u8 (gi L1 i) (gi L2 i) != 0) = false) (hb1 : ∀ i, i < 16 → 0 ≤ gi L1 i ∧ gi L1 i ≤ 255) (hb2 : ∀ i, i < 16 → 0 ≤ gi L2 i ∧ gi L2 i ≤ 255) :
    Calls Try.prog 3 #[vv v, .int .u8 page, .bool false] w fun e w' => e = .returned (.bool true) ∧ Below w.heap.size w w' := by
  obtain ⟨B, hB⟩ : ∃ B, B = w.heap.size := ⟨_, rfl⟩
  obtain ⟨a, b, c⟩ := v
  have haw := awake_any (w.alloc (.cells #[.bool a, .bool b, .bool c] 23))
  have q1 : IntKind.i64.wrap page = page := IntWalk.i64_in _ (by omega)
  have hs1 := fun p W h => sense_n p (ask false 10 0) ⟨a, b, c⟩ ⟨a, b, c⟩ W h (.inr (.inl rfl)) 16 (by rw [e1]; exact n1) L1 e1
  have hs2 := fun p W h => sense_n p (ask false 10 1) ⟨a, b, c⟩ ⟨a, b, c⟩ W h (.inr (.inl rfl)) 16 (by rw [e2]; exact n2) L2 e2
  clear e1 e2
  replace hB := hide hB; replace haw := hide haw; replace h0 := hide h0; replace hz := hide hz; replace hf := hide hf; replace hb1 := hide hb1; replace hb2 := hide hb2
  replace hs1 := hide hs1; replace hs2 := hide hs2; replace n1 := hide n1; replace n2 := hide n2
  go_enter Try.func3, Try.ntmps3
  go_wp2_with (first
    | (go_at_call 8; (with_reducible refine haw.out.mono ?_); rintro e w1 ⟨rfl, m1⟩
       have hl1 : w.heap.size < w1.heap.size := by have := m1.size; simp at this; omega
       have f0 := m1.cell (p := ⟨w.heap.size, 0, none⟩) (v := .bool a) (by simp) (by simp)
       have f1 := m1.cell (p := ⟨w.heap.size, 1, none⟩) (v := .bool b) (by simp) (by simp)
       have f2 := m1.cell (p := ⟨w.heap.size, 2, none⟩) (v := .bool c) (by simp) (by simp)
       replace m1 := hide m1)
    | (go_at_call 9; (with_reducible refine (new_any ⟨a, b, c⟩ _).mono ?_); rintro e w2 ⟨p, rfl, hp, m2, o2⟩; replace hp := hide hp; replace m2 := hide m2)
    | (go_at_call 10; (with_reducible refine (hs1.out p w2 hp.out).mono ?_); rintro e w3 ⟨g3, c3, rfl, r3, m3, o3⟩; have hp3 := hide (hp.out.mod m3 (by simp)); replace r3 := hide r3; replace m3 := hide m3)
    | (go_at_call 10; (with_reducible refine (hs2.out p _ (hp3.out.mod ((Mod.refl (fun _ => False) w3).alloc _) (by simp))).mono ?_); rintro e w4 ⟨g4, c4, rfl, r4, m4, o4⟩; replace r4 := hide r4; replace m4 := hide m4))
  have M5 : Mod (fun _ => False) w (w4.alloc (.cells #[.int .u8 0, .int .u16 0, .int .u64 0, .bool false, .int .i64 0, .int .i64 0, .bool false, .bool false] 31)) :=
    (((((((((Mod.refl _ w).alloc _).trans m1.out (by simp)).alloc _).trans m2.out (by simp)).trans m3.out (by simp)).alloc _).trans m4.out (by simp)).alloc _)
  have r3a : Row (w4.alloc (.cells #[.int .u8 0, .int .u16 0, .int .u64 0, .bool false, .int .i64 0, .int .i64 0, .bool false, .bool false] 31)) 5 1 (ic .u8) (.slice (some ⟨g3, 0, none⟩) 16 c3) L1 := ((r3.out.alloc _).mod m4.out (by simp)).alloc _
  have r4a := r4.out.alloc (.cells #[.int .u8 0, .int .u16 0, .int .u64 0, .bool false, .int .i64 0, .int .i64 0, .bool false, .bool false] 31)
  obtain ⟨w5, hw5⟩ : ∃ w5, w5 = (w4.alloc (.cells #[.int .u8 0, .int .u16 0, .int .u64 0, .bool false, .int .i64 0, .int .i64 0, .bool false, .bool false] 31)) := ⟨_, rfl⟩
  rw [← hw5] at M5 r3a r4a
  replace hw5 := hide hw5; replace M5 := hide M5; replace r3a := hide r3a; replace r4a := hide r4a
  clear haw hs1 hs2 hp hp3 m1 m2 m3 m4 r3 r4
  go_loopw [16] (fun u wr => ∃ i : Nat, 4 ≤ i ∧ i ≤ 16 ∧ u = .int .i64 i ∧ Hid (∃ m, wr = w5.drewN m)) (fun u _ => 16 - (intOf u).toNat)
  case atStart => exact ⟨4, by omega, by omega, rfl, hide ⟨0, by rw [hw5.out]; rfl⟩⟩
  case round =>
    obtain ⟨i, hi4, hiN, rfl, hR⟩ := hrel
    obtain ⟨q, rfl⟩ := hR.out
    by_cases hlt : i < 16
    · have x1 := (r3a.out.num i (by rw [n1.out]; exact hlt)).1
      have x2 := (r4a.out.num i (by rw [n2.out]; exact hlt)).1
      obtain ⟨b0, b1⟩ := hb1.out i hlt
      obtain ⟨b2, b3⟩ := hb2.out i hlt
      have hfi := hf.out i hlt hi4
      go_wp2_with fail
      go_quiet (fail)
      go_wp2_with fail
      go_roundw
      case rel => exact ⟨i + 1, by omega, by omega, by go_num, hide ⟨_, rfl⟩⟩
      case measure => simp [intOf]; omega
    · obtain rfl : i = 16 := by omega
      have y0 : w5.cell? ⟨g3, 0, none⟩ = some (.int .u8 15) := by rw [← hz.out.1]; exact (r3a.out.num 0 (by rw [n1.out]; decide)).1
      have y1 : w5.cell? ⟨g3, 1, none⟩ = some (.int .u8 0) := by rw [← hz.out.2]; exact (r3a.out.num 1 (by rw [n1.out]; decide)).1
      go_wp2_with fail
      go_ret
      exact ⟨rfl, below_drewN (M5.out.below (Nat.le_refl _) (by simp)) _⟩
set_option maxRecDepth 100000 in
set_option maxHeartbeats 2000000 in
theorem go_10_true (v : V) (page : Int) (w : World) (h0 : 0 ≤ page ∧ page ≤ 255) (q2 : page.tmod 3 = 1) (L1 L2 : List Int)
    (e1 : senseL (ask true 10 0) v v = L1) (e2 : senseL (ask true 10 1) v v = L2) (n1 : L1.length = 20) (n2 : L2.length = 20) (hz : gi L1 0 = 0 ∧ gi L1 1 = 18)
    (hf : ∀ i, i < 20 → 8 ≤ i → (bits BinOp.andNot IntKind.u8 (gi L1 i) (gi L2 i) != 0) = false) (hb1 : ∀ i, i < 20 → 0 ≤ gi L1 i ∧ gi L1 i ≤ 255) (hb2 : ∀ i, i < 20 → 0 ≤ gi L2 i ∧ gi L2 i ≤ 255) :
    Calls Try.prog 3 #[vv v, .int .u8 page, .bool true] w fun e w' => e = .returned (.bool true) ∧ Below w.heap.size w w' := by
  obtain ⟨B, hB⟩ : ∃ B, B = w.heap.size := ⟨_, rfl⟩
  obtain ⟨a, b, c⟩ := v
  have haw := awake_any (w.alloc (.cells #[.bool a, .bool b, .bool c] 23))
  have q1 : IntKind.i64.wrap page = page := IntWalk.i64_in _ (by omega)
  have hs1 := fun p W h => sense_n p (ask true 10 0) ⟨a, b, c⟩ ⟨a, b, c⟩ W h (.inr (.inl rfl)) 20 (by rw [e1]; exact n1) L1 e1
  have hs2 := fun p W h => sense_n p (ask true 10 1) ⟨a, b, c⟩ ⟨a, b, c⟩ W h (.inr (.inl rfl)) 20 (by rw [e2]; exact n2) L2 e2
  clear e1 e2
  replace hB := hide hB; replace haw := hide haw; replace h0 := hide h0; replace hz := hide hz; replace hf := hide hf; replace hb1 := hide hb1; replace hb2 := hide hb2
  replace hs1 := hide hs1; replace hs2 := hide hs2; replace n1 := hide n1; replace n2 := hide n2
  go_enter Try.func3, Try.ntmps3
  go_wp2_with (first
    | (go_at_call 8; (with_reducible refine haw.out.mono ?_); rintro e w1 ⟨rfl, m1⟩
       have hl1 : w.heap.size < w1.heap.size := by have := m1.size; simp at this; omega
       have f0 := m1.cell (p := ⟨w.heap.size, 0, none⟩) (v := .bool a) (by simp) (by simp)
       have f1 := m1.cell (p := ⟨w.heap.size, 1, none⟩) (v := .bool b) (by simp) (by simp)
       have f2 := m1.cell (p := ⟨w.heap.size, 2, none⟩) (v := .bool c) (by simp) (by simp)
       replace m1 := hide m1)
    | (go_at_call 9; (with_reducible refine (new_any ⟨a, b, c⟩ _).mono ?_); rintro e w2 ⟨p, rfl, hp, m2, o2⟩; replace hp := hide hp; replace m2 := hide m2)
    | (go_at_call 10; (with_reducible refine (hs1.out p w2 hp.out).mono ?_); rintro e w3 ⟨g3, c3, rfl, r3, m3, o3⟩; have hp3 := hide (hp.out.mod m3 (by simp)); replace r3 := hide r3; replace m3 := hide m3)
    | (go_at_call 10; (with_reducible refine (hs2.out p _ (hp3.out.mod ((Mod.refl (fun _ => False) w3).alloc _) (by simp))).mono ?_); rintro e w4 ⟨g4, c4, rfl, r4, m4, o4⟩; replace r4 := hide r4; replace m4 := hide m4))
  have M5 : Mod (fun _ => False) w (w4.alloc (.cells #[.int .u8 0, .int .u16 0, .int .u64 0, .bool false, .int .i64 0, .int .i64 0, .bool false, .bool false] 31)) :=
    (((((((((Mod.refl _ w).alloc _).trans m1.out (by simp)).alloc _).trans m2.out (by simp)).trans m3.out (by simp)).alloc _).trans m4.out (by simp)).alloc _)
  have r3a : Row (w4.alloc (.cells #[.int .u8 0, .int .u16 0, .int .u64 0, .bool false, .int .i64 0, .int .i64 0, .bool false, .bool false] 31)) 5 1 (ic .u8) (.slice (some ⟨g3, 0, none⟩) 20 c3) L1 := ((r3.out.alloc _).mod m4.out (by simp)).alloc _
  have r4a := r4.out.alloc (.cells #[.int .u8 0, .int .u16 0, .int .u64 0, .bool false, .int .i64 0, .int .i64 0, .bool false, .bool false] 31)
  obtain ⟨w5, hw5⟩ : ∃ w5, w5 = (w4.alloc (.cells #[.int .u8 0, .int .u16 0, .int .u64 0, .bool false, .int .i64 0, .int .i64 0, .bool false, .bool false] 31)) := ⟨_, rfl⟩
  rw [← hw5] at M5 r3a r4a
  replace hw5 := hide hw5; replace M5 := hide M5; replace r3a := hide r3a; replace r4a := hide r4a
  clear haw hs1 hs2 hp hp3 m1 m2 m3 m4 r3 r4
  go_loopw [16] (fun u wr => ∃ i : Nat, 8 ≤ i ∧ i ≤ 20 ∧ u = .int .i64 i ∧ Hid (∃ m, wr = w5.drewN m)) (fun u _ => 20 - (intOf u).toNat)
  case atStart => exact ⟨8, by omega, by omega, rfl, hide ⟨0, by rw [hw5.out]; rfl⟩⟩
  case round =>
    obtain ⟨i, hi4, hiN, rfl, hR⟩ := hrel
    obtain ⟨q, rfl⟩ := hR.out
    by_cases hlt : i < 20
    · have x1 := (r3a.out.num i (by rw [n1.out]; exact hlt)).1
      have x2 := (r4a.out.num i (by rw [n2.out]; exact hlt)).1
      obtain ⟨b0, b1⟩ := hb1.out i hlt
      obtain ⟨b2, b3⟩ := hb2.out i hlt
      have hfi := hf.out i hlt hi4
      go_wp2_with fail
      go_quiet (fail)
      go_wp2_with fail
      go_roundw
      case rel => exact ⟨i + 1, by omega, by omega, by go_num, hide ⟨_, rfl⟩⟩
      case measure => simp [intOf]; omega
    · obtain rfl : i = 20 := by omega
      have y0 : w5.cell? ⟨g3, 0, none⟩ = some (.int .u8 0) := by rw [← hz.out.1]; exact (r3a.out.num 0 (by rw [n1.out]; decide)).1
      have y1 : w5.cell? ⟨g3, 1, none⟩ = some (.int .u8 18) := by rw [← hz.out.2]; exact (r3a.out.num 1 (by rw [n1.out]; decide)).1
      go_wp2_with fail
      go_quiet (fail)
      go_wp2_with fail
      go_ret
      exact ⟨rfl, below_drewN (M5.out.below (Nat.le_refl _) (by simp)) _⟩
set_option maxRecDepth 100000 in
set_option maxHeartbeats 2000000 in
theorem go_63_false (v : V) (page : Int) (w : World) (h0 : 0 ≤ page ∧ page ≤ 255) (q2 : page.tmod 3 = 2) (L1 L2 : List Int)
    (e1 : senseL (ask false 63 0) v v = L1) (e2 : senseL (ask false 63 1) v v = L2) (n1 : L1.length = 36) (n2 : L2.length = 36) (hz : gi L1 0 = 35 ∧ gi L1 1 = 0)
    (hf : ∀ i, i < 36 → 4 ≤ i → (bits BinOp.andNot IntKind.u8 (gi L1 i) (gi L2 i) != 0) = false) (hb1 : ∀ i, i < 36 → 0 ≤ gi L1 i ∧ gi L1 i ≤ 255) (hb2 : ∀ i, i < 36 → 0 ≤ gi L2 i ∧ gi L2 i ≤ 255) :
    Calls Try.prog 3 #[vv v, .int .u8 page, .bool false] w fun e w' => e = .returned (.bool true) ∧ Below w.heap.size w w' := by
  obtain ⟨B, hB⟩ : ∃ B, B = w.heap.size := ⟨_, rfl⟩
  obtain ⟨a, b, c⟩ := v
  have haw := awake_any (w.alloc (.cells #[.bool a, .bool b, .bool c] 23))
  have q1 : IntKind.i64.wrap page = page := IntWalk.i64_in _ (by omega)
  have hs1 := fun p W h => sense_n p (ask false 63 0) ⟨a, b, c⟩ ⟨a, b, c⟩ W h (.inr (.inr rfl)) 36 (by rw [e1]; exact n1) L1 e1
  have hs2 := fun p W h => sense_n p (ask false 63 1) ⟨a, b, c⟩ ⟨a, b, c⟩ W h (.inr (.inr rfl)) 36 (by rw [e2]; exact n2) L2 e2
  clear e1 e2
  replace hB := hide hB; replace haw := hide haw; replace h0 := hide h0; replace hz := hide hz; replace hf := hide hf; replace hb1 := hide hb1; replace hb2 := hide hb2
  replace hs1 := hide hs1; replace hs2 := hide hs2; replace n1 := hide n1; replace n2 := hide n2
  go_enter Try.func3, Try.ntmps3
  go_wp2_with (first
    | (go_at_call 8; (with_reducible refine haw.out.mono ?_); rintro e w1 ⟨rfl, m1⟩
       have hl1 : w.heap.size < w1.heap.size := by have := m1.size; simp at this; omega
       have f0 := m1.cell (p := ⟨w.heap.size, 0, none⟩) (v := .bool a) (by simp) (by simp)
       have f1 := m1.cell (p := ⟨w.heap.size, 1, none⟩) (v := .bool b) (by simp) (by simp)
       have f2 := m1.cell (p := ⟨w.heap.size, 2, none⟩) (v := .bool c) (by simp) (by simp)
       replace m1 := hide m1)
    | (go_at_call 9; (with_reducible refine (new_any ⟨a, b, c⟩ _).mono ?_); rintro e w2 ⟨p, rfl, hp, m2, o2⟩; replace hp := hide hp; replace m2 := hide m2)
    | (go_at_call 10; (with_reducible refine (hs1.out p w2 hp.out).mono ?_); rintro e w3 ⟨g3, c3, rfl, r3, m3, o3⟩; have hp3 := hide (hp.out.mod m3 (by simp)); replace r3 := hide r3; replace m3 := hide m3)
    | (go_at_call 10; (with_reducible refine (hs2.out p _ (hp3.out.mod ((Mod.refl (fun _ => False) w3).alloc _) (by simp))).mono ?_); rintro e w4 ⟨g4, c4, rfl, r4, m4, o4⟩; replace r4 := hide r4; replace m4 := hide m4))
  have M5 : Mod (fun _ => False) w (w4.alloc (.cells #[.int .u8 0, .int .u16 0, .int .u64 0, .bool false, .int .i64 0, .int .i64 0, .bool false, .bool false] 31)) :=
    (((((((((Mod.refl _ w).alloc _).trans m1.out (by simp)).alloc _).trans m2.out (by simp)).trans m3.out (by simp)).alloc _).trans m4.out (by simp)).alloc _)
  have r3a : Row (w4.alloc (.cells #[.int .u8 0, .int .u16 0, .int .u64 0, .bool false, .int .i64 0, .int .i64 0, .bool false, .bool false] 31)) 5 1 (ic .u8) (.slice (some ⟨g3, 0, none⟩) 36 c3) L1 := ((r3.out.alloc _).mod m4.out (by simp)).alloc _
  have r4a := r4.out.alloc (.cells #[.int .u8 0, .int .u16 0, .int .u64 0, .bool false, .int .i64 0, .int .i64 0, .bool false, .bool false] 31)
  obtain ⟨w5, hw5⟩ : ∃ w5, w5 = (w4.alloc (.cells #[.int .u8 0, .int .u16 0, .int .u64 0, .bool false, .int .i64 0, .int .i64 0, .bool false, .bool false] 31)) := ⟨_, rfl⟩
  rw [← hw5] at M5 r3a r4a
  replace hw5 := hide hw5; replace M5 := hide M5; replace r3a := hide r3a; replace r4a := hide r4a
  clear haw hs1 hs2 hp hp3 m1 m2 m3 m4 r3 r4
  go_loopw [16] (fun u wr => ∃ i : Nat, 4 ≤ i ∧ i ≤ 36 ∧ u = .int .i64 i ∧ Hid (∃ m, wr = w5.drewN m)) (fun u _ => 36 - (intOf u).toNat)
  case atStart => exact ⟨4, by omega, by omega, rfl, hide ⟨0, by rw [hw5.out]; rfl⟩⟩
  case round =>
    obtain ⟨i, hi4, hiN, rfl, hR⟩ := hrel
    obtain ⟨q, rfl⟩ := hR.out
    by_cases hlt : i < 36
    · have x1 := (r3a.out.num i (by rw [n1.out]; exact hlt)).1
      have x2 := (r4a.out.num i (by rw [n2.out]; exact hlt)).1
      obtain ⟨b0, b1⟩ := hb1.out i hlt
      obtain ⟨b2, b3⟩ := hb2.out i hlt
      have hfi := hf.out i hlt hi4
      go_wp2_with fail
      go_quiet (fail)
      go_wp2_with fail
      go_roundw
      case rel => exact ⟨i + 1, by omega, by omega, by go_num, hide ⟨_, rfl⟩⟩
      case measure => simp [intOf]; omega
    · obtain rfl : i = 36 := by omega
      have y0 : w5.cell? ⟨g3, 0, none⟩ = some (.int .u8 35) := by rw [← hz.out.1]; exact (r3a.out.num 0 (by rw [n1.out]; decide)).1
      have y1 : w5.cell? ⟨g3, 1, none⟩ = some (.int .u8 0) := by rw [← hz.out.2]; exact (r3a.out.num 1 (by rw [n1.out]; decide)).1
      go_wp2_with fail
      go_ret
      exact ⟨rfl, below_drewN (M5.out.below (Nat.le_refl _) (by simp)) _⟩
set_option maxRecDepth 100000 in
set_option maxHeartbeats 2000000 in
theorem go_63_true (v : V) (page : Int) (w : World) (h0 : 0 ≤ page ∧ page ≤ 255) (q2 : page.tmod 3 = 2) (L1 L2 : List Int)
    (e1 : senseL (ask true 63 0) v v = L1) (e2 : senseL (ask true 63 1) v v = L2) (n1 : L1.length = 40) (n2 : L2.length = 40) (hz : gi L1 0 = 0 ∧ gi L1 1 = 38)
    (hf : ∀ i, i < 40 → 8 ≤ i → (bits BinOp.andNot IntKind.u8 (gi L1 i) (gi L2 i) != 0) = false) (hb1 : ∀ i, i < 40 → 0 ≤ gi L1 i ∧ gi L1 i ≤ 255) (hb2 : ∀ i, i < 40 → 0 ≤ gi L2 i ∧ gi L2 i ≤ 255) :
    Calls Try.prog 3 #[vv v, .int .u8 page, .bool true] w fun e w' => e = .returned (.bool true) ∧ Below w.heap.size w w' := by
  obtain ⟨B, hB⟩ : ∃ B, B = w.heap.size := ⟨_, rfl⟩
  obtain ⟨a, b, c⟩ := v
  have haw := awake_any (w.alloc (.cells #[.bool a, .bool b, .bool c] 23))
  have q1 : IntKind.i64.wrap page = page := IntWalk.i64_in _ (by omega)
  have hs1 := fun p W h => sense_n p (ask true 63 0) ⟨a, b, c⟩ ⟨a, b, c⟩ W h (.inr (.inr rfl)) 40 (by rw [e1]; exact n1) L1 e1
  have hs2 := fun p W h => sense_n p (ask true 63 1) ⟨a, b, c⟩ ⟨a, b, c⟩ W h (.inr (.inr rfl)) 40 (by rw [e2]; exact n2) L2 e2
  clear e1 e2
  replace hB := hide hB; replace haw := hide haw; replace h0 := hide h0; replace hz := hide hz; replace hf := hide hf; replace hb1 := hide hb1; replace hb2 := hide hb2
  replace hs1 := hide hs1; replace hs2 := hide hs2; replace n1 := hide n1; replace n2 := hide n2
  go_enter Try.func3, Try.ntmps3
  go_wp2_with (first
    | (go_at_call 8; (with_reducible refine haw.out.mono ?_); rintro e w1 ⟨rfl, m1⟩
       have hl1 : w.heap.size < w1.heap.size := by have := m1.size; simp at this; omega
       have f0 := m1.cell (p := ⟨w.heap.size, 0, none⟩) (v := .bool a) (by simp) (by simp)
       have f1 := m1.cell (p := ⟨w.heap.size, 1, none⟩) (v := .bool b) (by simp) (by simp)
       have f2 := m1.cell (p := ⟨w.heap.size, 2, none⟩) (v := .bool c) (by simp) (by simp)
       replace m1 := hide m1)
    | (go_at_call 9; (with_reducible refine (new_any ⟨a, b, c⟩ _).mono ?_); rintro e w2 ⟨p, rfl, hp, m2, o2⟩; replace hp := hide hp; replace m2 := hide m2)
    | (go_at_call 10; (with_reducible refine (hs1.out p w2 hp.out).mono ?_); rintro e w3 ⟨g3, c3, rfl, r3, m3, o3⟩; have hp3 := hide (hp.out.mod m3 (by simp)); replace r3 := hide r3; replace m3 := hide m3)
    | (go_at_call 10; (with_reducible refine (hs2.out p _ (hp3.out.mod ((Mod.refl (fun _ => False) w3).alloc _) (by simp))).mono ?_); rintro e w4 ⟨g4, c4, rfl, r4, m4, o4⟩; replace r4 := hide r4; replace m4 := hide m4))
  have M5 : Mod (fun _ => False) w (w4.alloc (.cells #[.int .u8 0, .int .u16 0, .int .u64 0, .bool false, .int .i64 0, .int .i64 0, .bool false, .bool false] 31)) :=
    (((((((((Mod.refl _ w).alloc _).trans m1.out (by simp)).alloc _).trans m2.out (by simp)).trans m3.out (by simp)).alloc _).trans m4.out (by simp)).alloc _)
  have r3a : Row (w4.alloc (.cells #[.int .u8 0, .int .u16 0, .int .u64 0, .bool false, .int .i64 0, .int .i64 0, .bool false, .bool false] 31)) 5 1 (ic .u8) (.slice (some ⟨g3, 0, none⟩) 40 c3) L1 := ((r3.out.alloc _).mod m4.out (by simp)).alloc _
  have r4a := r4.out.alloc (.cells #[.int .u8 0, .int .u16 0, .int .u64 0, .bool false, .int .i64 0, .int .i64 0, .bool false, .bool false] 31)
  obtain ⟨w5, hw5⟩ : ∃ w5, w5 = (w4.alloc (.cells #[.int .u8 0, .int .u16 0, .int .u64 0, .bool false, .int .i64 0, .int .i64 0, .bool false, .bool false] 31)) := ⟨_, rfl⟩
  rw [← hw5] at M5 r3a r4a
  replace hw5 := hide hw5; replace M5 := hide M5; replace r3a := hide r3a; replace r4a := hide r4a
  clear haw hs1 hs2 hp hp3 m1 m2 m3 m4 r3 r4
  go_loopw [16] (fun u wr => ∃ i : Nat, 8 ≤ i ∧ i ≤ 40 ∧ u = .int .i64 i ∧ Hid (∃ m, wr = w5.drewN m)) (fun u _ => 40 - (intOf u).toNat)
  case atStart => exact ⟨8, by omega, by omega, rfl, hide ⟨0, by rw [hw5.out]; rfl⟩⟩
  case round =>
    obtain ⟨i, hi4, hiN, rfl, hR⟩ := hrel
    obtain ⟨q, rfl⟩ := hR.out
    by_cases hlt : i < 40
    · have x1 := (r3a.out.num i (by rw [n1.out]; exact hlt)).1
      have x2 := (r4a.out.num i (by rw [n2.out]; exact hlt)).1
      obtain ⟨b0, b1⟩ := hb1.out i hlt
      obtain ⟨b2, b3⟩ := hb2.out i hlt
      have hfi := hf.out i hlt hi4
      go_wp2_with fail
      go_quiet (fail)
      go_wp2_with fail
      go_roundw
      case rel => exact ⟨i + 1, by omega, by omega, by go_num, hide ⟨_, rfl⟩⟩
      case measure => simp [intOf]; omega
    · obtain rfl : i = 40 := by omega
      have y0 : w5.cell? ⟨g3, 0, none⟩ = some (.int .u8 0) := by rw [← hz.out.1]; exact (r3a.out.num 0 (by rw [n1.out]; decide)).1
      have y1 : w5.cell? ⟨g3, 1, none⟩ = some (.int .u8 38) := by rw [← hz.out.2]; exact (r3a.out.num 1 (by rw [n1.out]; decide)).1
      go_wp2_with fail
      go_quiet (fail)
      go_wp2_with fail
      go_ret
      exact ⟨rfl, below_drewN (M5.out.below (Nat.le_refl _) (by simp)) _⟩
theorem walk0 (v : V) (page : Int) (long : Bool) (w : World) (h0 : 0 ≤ page ∧ page ≤ 255) :
    Calls Try.prog 3 #[vv v, .int .u8 page, .bool long] w fun e w' => e = .returned (.bool true) ∧ Below w.heap.size w w' := by
  have hcase : (page.tmod 3 = 0) ∨ (page.tmod 3 = 1) ∨ (page.tmod 3 = 2) := by rw [Int.tmod_eq_emod_of_nonneg h0.1]; omega
  rcases hcase with q2 | q2 | q2 <;> cases long
  · refine go_8_false v page w h0 q2 _ _ rfl rfl ?_ ?_ ?_ ?_ ?_ ?_ <;> obtain ⟨a, b, c⟩ := v <;> cases a <;> cases b <;> cases c <;> decide +kernel
  · refine go_8_true v page w h0 q2 _ _ rfl rfl ?_ ?_ ?_ ?_ ?_ ?_ <;> obtain ⟨a, b, c⟩ := v <;> cases a <;> cases b <;> cases c <;> decide +kernel
  · refine go_10_false v page w h0 q2 _ _ rfl rfl ?_ ?_ ?_ ?_ ?_ ?_ <;> obtain ⟨a, b, c⟩ := v <;> cases a <;> cases b <;> cases c <;> decide +kernel
  · refine go_10_true v page w h0 q2 _ _ rfl rfl ?_ ?_ ?_ ?_ ?_ ?_ <;> obtain ⟨a, b, c⟩ := v <;> cases a <;> cases b <;> cases c <;> decide +kernel
  · refine go_63_false v page w h0 q2 _ _ rfl rfl ?_ ?_ ?_ ?_ ?_ ?_ <;> obtain ⟨a, b, c⟩ := v <;> cases a <;> cases b <;> cases c <;> decide +kernel
  · refine go_63_true v page w h0 q2 _ _ rfl rfl ?_ ?_ ?_ ?_ ?_ ?_ <;> obtain ⟨a, b, c⟩ := v <;> cases a <;> cases b <;> cases c <;> decide +kernel
end Go.Proofs.Ytieieinaijopnaa.modeTells
