/-
  The walk of the reference's Sense where the page is one of the three, case 1 of the values that are asked. Condition: the reference's pages in a block of their own.
-/
import Derived.Test.YtieieinaijopnaaRWord
set_option linter.unusedSimpArgs false
namespace Go.Proofs.Ytieieinaijopnaa
open Go.RowKit
set_option maxRecDepth 100000 in
set_option maxHeartbeats 2000000 in
theorem rsense_1_8_FF (p : Nat) (c : C) (n s : V) (w : World) (hpg : RG w p (bitsV n) (bitsV s)) (hc : c.control = 1) (hp : c.page = 8) (hl : c.long = false) (hd : n.c = false) :
    Calls Try.prog 17 #[.pointer (some ⟨p, 0, none⟩), cv c] w (Told c n s w) := by
  have hsl : senseL c n s = headL false 16 20 ++ bodyL 8 ⟨true, true, true⟩ := by
    simp [senseL, hp, hl, hd, devB, hc, bodyL, vOf, cachL, ctlL]
  have hq := dev_of n
  rw [hd] at hq
  replace hq : Int.tdiv (bitsV n) 4 = 0 := hq
  obtain ⟨kind, long, lba, blocks, alloc, fua, prot, unmap, evpd, page, control, save, service, type, bytes⟩ := c
  replace hp : page = 8 := hp
  replace hl : long = false := hl
  subst hp; subst hl
  replace hc : control = 1 := hc
  subst hc
  have m0 : Mod (fun _ => False) w ((w.alloc (.cells (cc ⟨kind, false, lba, blocks, alloc, fua, prot, unmap, evpd, 8, 1, save, service, type, bytes⟩) 36)).alloc (.cells #[.int .u8 0, .int .u16 0, .int .u64 0, .bool false, .int .i64 0, .int .i64 0, .bool false, .bool false] 31)) := ((Mod.refl _ w).alloc _).alloc _
  have E0 : REnv ((w.alloc (.cells (cc ⟨kind, false, lba, blocks, alloc, fua, prot, unmap, evpd, 8, 1, save, service, type, bytes⟩) 36)).alloc (.cells #[.int .u8 0, .int .u16 0, .int .u64 0, .bool false, .int .i64 0, .int .i64 0, .bool false, .bool false] 31)) w.heap.size ⟨kind, false, lba, blocks, alloc, fua, prot, unmap, evpd, 8, 1, save, service, type, bytes⟩ p (bitsV n) (bitsV s) := ⟨heap_alloc2_old _ _ _, heap_alloc2_new _ _ _, hpg.mod m0 (by simp)⟩
  have hp0 : p < w.heap.size := hpg.lt
  have hp1 : p < w.heap.size + 1 := by omega
  obtain ⟨y0, y1⟩ := hpg.cells
  obtain ⟨xn, hxn⟩ : ∃ xn, xn = bitsV n := ⟨_, rfl⟩
  obtain ⟨xs, hxs⟩ : ∃ xs, xs = bitsV s := ⟨_, rfl⟩
  rw [← hxn] at hq y0
  rw [← hxs] at y1
  clear hpg
  replace m0 := hide m0; replace E0 := hide E0; replace hsl := hide hsl; replace hxn := hide hxn; replace hxs := hide hxs
  go_enter Try.func17, Try.ntmps17
  go_wp2_with (first
    | (go_at_call 23; (with_reducible refine (rpage8x ⟨true, true, true⟩ 7 rfl _).mono ?_); rintro e w4 ⟨g4, rfl, r4, m4, o4⟩
       have E4 := E0.out.q m4
       have M4 := m0.out.trans m4 (by simp)
       have z4 := E4.size
       have za4 : w.heap.size < w4.heap.size := by omega
       have zb4 : w.heap.size < w4.heap.size + 1 := by omega
       have zc4 : w.heap.size + 1 < w4.heap.size + 1 := by omega
       have zp4 : p < w4.heap.size := by omega
       obtain ⟨x14, x94, x104⟩ := E4.cells
       obtain ⟨y04, y14⟩ := E4.rg.cells
       rw [← hxn.out] at y04
       replace r4 := hide r4; replace E4 := hide E4; replace m4 := hide m4; replace M4 := hide M4)
    | (at_builtin; refine list_app (.tmp 66) (.tmp 67) 25 5 _ 1 1 (ic .u8) rfl rfl (ic_len _) (ic_one _) Try.underlying25 elem5 (.slice (some ⟨w4.heap.size, 0, none⟩) 4 4) [23, 0, 16, 0] (some ⟨g4, 0, none⟩) 20 20 (cachL ⟨true, true, true⟩) rfl rfl (row_lit (l := [23, 0, 16, 0]) (heap_alloc_new _ _) (by simp)) (((r4.out.mod (((Mod.refl (fun _ => False) w4).alloc (.cells #[.int .u8 23, .int .u8 0, .int .u8 16, .int .u8 0] 5))) (by simp))).rd (ic_len _) rfl) (by simp [maxLen]) (by simp) ?_
       intro v9 w9 h9 g9 a9
       have mal := ((Mod.refl (fun _ => False) w4).alloc (.cells #[.int .u8 23, .int .u8 0, .int .u8 16, .int .u8 0] 5))
       have g9m : Mod (fun j => some (w4.heap.size) = some j) (w4.alloc (.cells #[.int .u8 23, .int .u8 0, .int .u8 16, .int .u8 0] 5)) w9 := grown_mod g9
       obtain ⟨b9, c9, e9, -⟩ := h9.some_ (by simp)
       replace e9 : v9 = .slice (some ⟨b9, 0, none⟩) 24 c9 := e9
       have o9 : w4.heap.size ≤ b9 := own_new a9 e9 (fun j hj => by have e : w4.heap.size = j := Option.some.inj hj; omega) (by simp <;> omega)
       have E9 := (E4.out.q mal).mod g9m (fun h => by have e := Option.some.inj h; omega) (fun h => by have e := Option.some.inj h; omega) (fun h => by have e := Option.some.inj h; omega)
       have M9 := (M4.out.trans mal (by simp)).trans g9m (fun i hi e => by have e := Option.some.inj e; omega)
       have hb9 := E9.2.1
       subst e9
       clear g9 a9 g9m mal
       replace E9 := hide E9; replace M9 := hide M9; obtain ⟨u0, u1, u2, u3, u4, u5, u6, u7⟩ := eights hb9
       have hx9 : w.heap.size + 1 < w9.heap.size := (Array.getElem?_eq_some_iff.1 hb9).1
       have fz : ∀ j, w9.frozen? ⟨w.heap.size + 1, j, none⟩ = false := fun j => frozen_of_row _ _ _ _ _ hb9
       have f0 := fz 0; have f1 := fz 1; have f2 := fz 2; have f3 := fz 3; have f4 := fz 4; have f5 := fz 5; have f6 := fz 6; have f7 := fz 7
       clear fz
       replace h9 := hide h9; replace hb9 := hide hb9))
  obtain ⟨hg10, hm10⟩ := set8 hb9.out (.int .u8 0) (.int .u16 0) (.int .u64 0) (.bool false) (.int .i64 0) (.int .i64 0) (.bool false) (.bool false)
  generalize ((((((((w9.setCell ⟨w.heap.size + 1, 0, none⟩ (.int .u8 0)).setCell ⟨w.heap.size + 1, 1, none⟩ (.int .u16 0)).setCell ⟨w.heap.size + 1, 2, none⟩ (.int .u64 0)).setCell ⟨w.heap.size + 1, 3, none⟩ (.bool false)).setCell ⟨w.heap.size + 1, 4, none⟩ (.int .i64 0)).setCell ⟨w.heap.size + 1, 5, none⟩ (.int .i64 0)).setCell ⟨w.heap.size + 1, 6, none⟩ (.bool false)).setCell ⟨w.heap.size + 1, 7, none⟩ (.bool false)) = w10 at *
  obtain ⟨c0, c1, c2, c3, c4, c5, c6, c7⟩ := eights hg10
  have M10 := M9.out.trans hm10 (fun i hi e => by omega)
  have hne : b9 ≠ w.heap.size + 1 := by omega
  have h10 := h9.out.mod hm10 (fun k hk e => hne ((Option.some.inj hk).trans e))
  exact bodyPost_ret (v := .tuple #[.slice (some ⟨b9, 0, none⟩) 24 c9, .agg #[.int .u8 0, .int .u16 0, .int .u64 0, .bool false, .int .i64 0, .int .i64 0, .bool false, .bool false], .bool true]) (by simp [results, Try.results17, go_sem, c0, c1, c2, c3, c4, c5, c6, c7]) rfl
    ⟨b9, c9, by rw [hsl.out]; rfl, by rw [hsl.out]; exact h10, M10, by omega⟩
set_option maxRecDepth 100000 in
set_option maxHeartbeats 2000000 in
theorem rsense_1_8_FT (p : Nat) (c : C) (n s : V) (w : World) (hpg : RG w p (bitsV n) (bitsV s)) (hc : c.control = 1) (hp : c.page = 8) (hl : c.long = false) (hd : n.c = true) :
    Calls Try.prog 17 #[.pointer (some ⟨p, 0, none⟩), cv c] w (Told c n s w) := by
  have hsl : senseL c n s = headL false 144 20 ++ bodyL 8 ⟨true, true, true⟩ := by
    simp [senseL, hp, hl, hd, devB, hc, bodyL, vOf, cachL, ctlL]
  have hq := dev_of n
  rw [hd] at hq
  replace hq : Int.tdiv (bitsV n) 4 = 1 := hq
  obtain ⟨kind, long, lba, blocks, alloc, fua, prot, unmap, evpd, page, control, save, service, type, bytes⟩ := c
  replace hp : page = 8 := hp
  replace hl : long = false := hl
  subst hp; subst hl
  replace hc : control = 1 := hc
  subst hc
  have m0 : Mod (fun _ => False) w ((w.alloc (.cells (cc ⟨kind, false, lba, blocks, alloc, fua, prot, unmap, evpd, 8, 1, save, service, type, bytes⟩) 36)).alloc (.cells #[.int .u8 0, .int .u16 0, .int .u64 0, .bool false, .int .i64 0, .int .i64 0, .bool false, .bool false] 31)) := ((Mod.refl _ w).alloc _).alloc _
  have E0 : REnv ((w.alloc (.cells (cc ⟨kind, false, lba, blocks, alloc, fua, prot, unmap, evpd, 8, 1, save, service, type, bytes⟩) 36)).alloc (.cells #[.int .u8 0, .int .u16 0, .int .u64 0, .bool false, .int .i64 0, .int .i64 0, .bool false, .bool false] 31)) w.heap.size ⟨kind, false, lba, blocks, alloc, fua, prot, unmap, evpd, 8, 1, save, service, type, bytes⟩ p (bitsV n) (bitsV s) := ⟨heap_alloc2_old _ _ _, heap_alloc2_new _ _ _, hpg.mod m0 (by simp)⟩
  have hp0 : p < w.heap.size := hpg.lt
  have hp1 : p < w.heap.size + 1 := by omega
  obtain ⟨y0, y1⟩ := hpg.cells
  obtain ⟨xn, hxn⟩ : ∃ xn, xn = bitsV n := ⟨_, rfl⟩
  obtain ⟨xs, hxs⟩ : ∃ xs, xs = bitsV s := ⟨_, rfl⟩
  rw [← hxn] at hq y0
  rw [← hxs] at y1
  clear hpg
  replace m0 := hide m0; replace E0 := hide E0; replace hsl := hide hsl; replace hxn := hide hxn; replace hxs := hide hxs
  go_enter Try.func17, Try.ntmps17
  go_wp2_with (first
    | (go_at_call 23; (with_reducible refine (rpage8x ⟨true, true, true⟩ 7 rfl _).mono ?_); rintro e w4 ⟨g4, rfl, r4, m4, o4⟩
       have E4 := E0.out.q m4
       have M4 := m0.out.trans m4 (by simp)
       have z4 := E4.size
       have za4 : w.heap.size < w4.heap.size := by omega
       have zb4 : w.heap.size < w4.heap.size + 1 := by omega
       have zc4 : w.heap.size + 1 < w4.heap.size + 1 := by omega
       have zp4 : p < w4.heap.size := by omega
       obtain ⟨x14, x94, x104⟩ := E4.cells
       obtain ⟨y04, y14⟩ := E4.rg.cells
       rw [← hxn.out] at y04
       replace r4 := hide r4; replace E4 := hide E4; replace m4 := hide m4; replace M4 := hide M4)
    | (at_builtin; refine list_app (.tmp 66) (.tmp 67) 25 5 _ 1 1 (ic .u8) rfl rfl (ic_len _) (ic_one _) Try.underlying25 elem5 (.slice (some ⟨w4.heap.size, 0, none⟩) 4 4) [23, 0, 144, 0] (some ⟨g4, 0, none⟩) 20 20 (cachL ⟨true, true, true⟩) rfl rfl (row_lit (l := [23, 0, 144, 0]) (heap_alloc_new _ _) (by simp)) (((r4.out.mod (((Mod.refl (fun _ => False) w4).alloc (.cells #[.int .u8 23, .int .u8 0, .int .u8 144, .int .u8 0] 5))) (by simp))).rd (ic_len _) rfl) (by simp [maxLen]) (by simp) ?_
       intro v9 w9 h9 g9 a9
       have mal := ((Mod.refl (fun _ => False) w4).alloc (.cells #[.int .u8 23, .int .u8 0, .int .u8 144, .int .u8 0] 5))
       have g9m : Mod (fun j => some (w4.heap.size) = some j) (w4.alloc (.cells #[.int .u8 23, .int .u8 0, .int .u8 144, .int .u8 0] 5)) w9 := grown_mod g9
       obtain ⟨b9, c9, e9, -⟩ := h9.some_ (by simp)
       replace e9 : v9 = .slice (some ⟨b9, 0, none⟩) 24 c9 := e9
       have o9 : w4.heap.size ≤ b9 := own_new a9 e9 (fun j hj => by have e : w4.heap.size = j := Option.some.inj hj; omega) (by simp <;> omega)
       have E9 := (E4.out.q mal).mod g9m (fun h => by have e := Option.some.inj h; omega) (fun h => by have e := Option.some.inj h; omega) (fun h => by have e := Option.some.inj h; omega)
       have M9 := (M4.out.trans mal (by simp)).trans g9m (fun i hi e => by have e := Option.some.inj e; omega)
       have hb9 := E9.2.1
       subst e9
       clear g9 a9 g9m mal
       replace E9 := hide E9; replace M9 := hide M9; obtain ⟨u0, u1, u2, u3, u4, u5, u6, u7⟩ := eights hb9
       have hx9 : w.heap.size + 1 < w9.heap.size := (Array.getElem?_eq_some_iff.1 hb9).1
       have fz : ∀ j, w9.frozen? ⟨w.heap.size + 1, j, none⟩ = false := fun j => frozen_of_row _ _ _ _ _ hb9
       have f0 := fz 0; have f1 := fz 1; have f2 := fz 2; have f3 := fz 3; have f4 := fz 4; have f5 := fz 5; have f6 := fz 6; have f7 := fz 7
       clear fz
       replace h9 := hide h9; replace hb9 := hide hb9))
  obtain ⟨hg10, hm10⟩ := set8 hb9.out (.int .u8 0) (.int .u16 0) (.int .u64 0) (.bool false) (.int .i64 0) (.int .i64 0) (.bool false) (.bool false)
  generalize ((((((((w9.setCell ⟨w.heap.size + 1, 0, none⟩ (.int .u8 0)).setCell ⟨w.heap.size + 1, 1, none⟩ (.int .u16 0)).setCell ⟨w.heap.size + 1, 2, none⟩ (.int .u64 0)).setCell ⟨w.heap.size + 1, 3, none⟩ (.bool false)).setCell ⟨w.heap.size + 1, 4, none⟩ (.int .i64 0)).setCell ⟨w.heap.size + 1, 5, none⟩ (.int .i64 0)).setCell ⟨w.heap.size + 1, 6, none⟩ (.bool false)).setCell ⟨w.heap.size + 1, 7, none⟩ (.bool false)) = w10 at *
  obtain ⟨c0, c1, c2, c3, c4, c5, c6, c7⟩ := eights hg10
  have M10 := M9.out.trans hm10 (fun i hi e => by omega)
  have hne : b9 ≠ w.heap.size + 1 := by omega
  have h10 := h9.out.mod hm10 (fun k hk e => hne ((Option.some.inj hk).trans e))
  exact bodyPost_ret (v := .tuple #[.slice (some ⟨b9, 0, none⟩) 24 c9, .agg #[.int .u8 0, .int .u16 0, .int .u64 0, .bool false, .int .i64 0, .int .i64 0, .bool false, .bool false], .bool true]) (by simp [results, Try.results17, go_sem, c0, c1, c2, c3, c4, c5, c6, c7]) rfl
    ⟨b9, c9, by rw [hsl.out]; rfl, by rw [hsl.out]; exact h10, M10, by omega⟩
set_option maxRecDepth 100000 in
set_option maxHeartbeats 2000000 in
theorem rsense_1_8_TF (p : Nat) (c : C) (n s : V) (w : World) (hpg : RG w p (bitsV n) (bitsV s)) (hc : c.control = 1) (hp : c.page = 8) (hl : c.long = true) (hd : n.c = false) :
    Calls Try.prog 17 #[.pointer (some ⟨p, 0, none⟩), cv c] w (Told c n s w) := by
  have hsl : senseL c n s = headL true 16 20 ++ bodyL 8 ⟨true, true, true⟩ := by
    simp [senseL, hp, hl, hd, devB, hc, bodyL, vOf, cachL, ctlL]
  have hq := dev_of n
  rw [hd] at hq
  replace hq : Int.tdiv (bitsV n) 4 = 0 := hq
  obtain ⟨kind, long, lba, blocks, alloc, fua, prot, unmap, evpd, page, control, save, service, type, bytes⟩ := c
  replace hp : page = 8 := hp
  replace hl : long = true := hl
  subst hp; subst hl
  replace hc : control = 1 := hc
  subst hc
  have m0 : Mod (fun _ => False) w ((w.alloc (.cells (cc ⟨kind, true, lba, blocks, alloc, fua, prot, unmap, evpd, 8, 1, save, service, type, bytes⟩) 36)).alloc (.cells #[.int .u8 0, .int .u16 0, .int .u64 0, .bool false, .int .i64 0, .int .i64 0, .bool false, .bool false] 31)) := ((Mod.refl _ w).alloc _).alloc _
  have E0 : REnv ((w.alloc (.cells (cc ⟨kind, true, lba, blocks, alloc, fua, prot, unmap, evpd, 8, 1, save, service, type, bytes⟩) 36)).alloc (.cells #[.int .u8 0, .int .u16 0, .int .u64 0, .bool false, .int .i64 0, .int .i64 0, .bool false, .bool false] 31)) w.heap.size ⟨kind, true, lba, blocks, alloc, fua, prot, unmap, evpd, 8, 1, save, service, type, bytes⟩ p (bitsV n) (bitsV s) := ⟨heap_alloc2_old _ _ _, heap_alloc2_new _ _ _, hpg.mod m0 (by simp)⟩
  have hp0 : p < w.heap.size := hpg.lt
  have hp1 : p < w.heap.size + 1 := by omega
  obtain ⟨y0, y1⟩ := hpg.cells
  obtain ⟨xn, hxn⟩ : ∃ xn, xn = bitsV n := ⟨_, rfl⟩
  obtain ⟨xs, hxs⟩ : ∃ xs, xs = bitsV s := ⟨_, rfl⟩
  rw [← hxn] at hq y0
  rw [← hxs] at y1
  clear hpg
  replace m0 := hide m0; replace E0 := hide E0; replace hsl := hide hsl; replace hxn := hide hxn; replace hxs := hide hxs
  go_enter Try.func17, Try.ntmps17
  go_wp2_with (first
    | (go_at_call 23; (with_reducible refine (rpage8x ⟨true, true, true⟩ 7 rfl _).mono ?_); rintro e w4 ⟨g4, rfl, r4, m4, o4⟩
       have E4 := E0.out.q m4
       have M4 := m0.out.trans m4 (by simp)
       have z4 := E4.size
       have za4 : w.heap.size < w4.heap.size := by omega
       have zb4 : w.heap.size < w4.heap.size + 1 := by omega
       have zc4 : w.heap.size + 1 < w4.heap.size + 1 := by omega
       have zp4 : p < w4.heap.size := by omega
       obtain ⟨x14, x94, x104⟩ := E4.cells
       obtain ⟨y04, y14⟩ := E4.rg.cells
       rw [← hxn.out] at y04
       replace r4 := hide r4; replace E4 := hide E4; replace m4 := hide m4; replace M4 := hide M4)
    | (at_builtin; refine list_app (.tmp 66) (.tmp 67) 25 5 _ 1 1 (ic .u8) rfl rfl (ic_len _) (ic_one _) Try.underlying25 elem5 (.slice (some ⟨w4.heap.size + 1, 0, none⟩) 8 8) [0, 26, 0, 16, 0, 0, 0, 0] (some ⟨g4, 0, none⟩) 20 20 (cachL ⟨true, true, true⟩) rfl rfl (row_lit (l := [0, 26, 0, 16, 0, 0, 0, 0]) (alloc2 _ _ _) (by simp)) (((r4.out.mod (((Mod.refl (fun _ => False) w4).alloc (.cells #[.int .u8 23, .int .u8 0, .int .u8 16, .int .u8 0] 5)).alloc (.cells #[.int .u8 0, .int .u8 26, .int .u8 0, .int .u8 16, .int .u8 0, .int .u8 0, .int .u8 0, .int .u8 0] 5)) (by simp))).rd (ic_len _) rfl) (by simp [maxLen]) (by simp) ?_
       intro v9 w9 h9 g9 a9
       have mal := ((Mod.refl (fun _ => False) w4).alloc (.cells #[.int .u8 23, .int .u8 0, .int .u8 16, .int .u8 0] 5)).alloc (.cells #[.int .u8 0, .int .u8 26, .int .u8 0, .int .u8 16, .int .u8 0, .int .u8 0, .int .u8 0, .int .u8 0] 5)
       have g9m : Mod (fun j => some (w4.heap.size + 1) = some j) ((w4.alloc (.cells #[.int .u8 23, .int .u8 0, .int .u8 16, .int .u8 0] 5)).alloc (.cells #[.int .u8 0, .int .u8 26, .int .u8 0, .int .u8 16, .int .u8 0, .int .u8 0, .int .u8 0, .int .u8 0] 5)) w9 := grown_mod g9
       obtain ⟨b9, c9, e9, -⟩ := h9.some_ (by simp)
       replace e9 : v9 = .slice (some ⟨b9, 0, none⟩) 28 c9 := e9
       have o9 : w4.heap.size ≤ b9 := own_new a9 e9 (fun j hj => by have e : w4.heap.size + 1 = j := Option.some.inj hj; omega) (by simp <;> omega)
       have E9 := (E4.out.q mal).mod g9m (fun h => by have e := Option.some.inj h; omega) (fun h => by have e := Option.some.inj h; omega) (fun h => by have e := Option.some.inj h; omega)
       have M9 := (M4.out.trans mal (by simp)).trans g9m (fun i hi e => by have e := Option.some.inj e; omega)
       have hb9 := E9.2.1
       subst e9
       clear g9 a9 g9m mal
       replace E9 := hide E9; replace M9 := hide M9; obtain ⟨u0, u1, u2, u3, u4, u5, u6, u7⟩ := eights hb9
       have hx9 : w.heap.size + 1 < w9.heap.size := (Array.getElem?_eq_some_iff.1 hb9).1
       have fz : ∀ j, w9.frozen? ⟨w.heap.size + 1, j, none⟩ = false := fun j => frozen_of_row _ _ _ _ _ hb9
       have f0 := fz 0; have f1 := fz 1; have f2 := fz 2; have f3 := fz 3; have f4 := fz 4; have f5 := fz 5; have f6 := fz 6; have f7 := fz 7
       clear fz
       replace h9 := hide h9; replace hb9 := hide hb9))
  obtain ⟨hg10, hm10⟩ := set8 hb9.out (.int .u8 0) (.int .u16 0) (.int .u64 0) (.bool false) (.int .i64 0) (.int .i64 0) (.bool false) (.bool false)
  generalize ((((((((w9.setCell ⟨w.heap.size + 1, 0, none⟩ (.int .u8 0)).setCell ⟨w.heap.size + 1, 1, none⟩ (.int .u16 0)).setCell ⟨w.heap.size + 1, 2, none⟩ (.int .u64 0)).setCell ⟨w.heap.size + 1, 3, none⟩ (.bool false)).setCell ⟨w.heap.size + 1, 4, none⟩ (.int .i64 0)).setCell ⟨w.heap.size + 1, 5, none⟩ (.int .i64 0)).setCell ⟨w.heap.size + 1, 6, none⟩ (.bool false)).setCell ⟨w.heap.size + 1, 7, none⟩ (.bool false)) = w10 at *
  obtain ⟨c0, c1, c2, c3, c4, c5, c6, c7⟩ := eights hg10
  have M10 := M9.out.trans hm10 (fun i hi e => by omega)
  have hne : b9 ≠ w.heap.size + 1 := by omega
  have h10 := h9.out.mod hm10 (fun k hk e => hne ((Option.some.inj hk).trans e))
  exact bodyPost_ret (v := .tuple #[.slice (some ⟨b9, 0, none⟩) 28 c9, .agg #[.int .u8 0, .int .u16 0, .int .u64 0, .bool false, .int .i64 0, .int .i64 0, .bool false, .bool false], .bool true]) (by simp [results, Try.results17, go_sem, c0, c1, c2, c3, c4, c5, c6, c7]) rfl
    ⟨b9, c9, by rw [hsl.out]; rfl, by rw [hsl.out]; exact h10, M10, by omega⟩
set_option maxRecDepth 100000 in
set_option maxHeartbeats 2000000 in
theorem rsense_1_8_TT (p : Nat) (c : C) (n s : V) (w : World) (hpg : RG w p (bitsV n) (bitsV s)) (hc : c.control = 1) (hp : c.page = 8) (hl : c.long = true) (hd : n.c = true) :
    Calls Try.prog 17 #[.pointer (some ⟨p, 0, none⟩), cv c] w (Told c n s w) := by
  have hsl : senseL c n s = headL true 144 20 ++ bodyL 8 ⟨true, true, true⟩ := by
    simp [senseL, hp, hl, hd, devB, hc, bodyL, vOf, cachL, ctlL]
  have hq := dev_of n
  rw [hd] at hq
  replace hq : Int.tdiv (bitsV n) 4 = 1 := hq
  obtain ⟨kind, long, lba, blocks, alloc, fua, prot, unmap, evpd, page, control, save, service, type, bytes⟩ := c
  replace hp : page = 8 := hp
  replace hl : long = true := hl
  subst hp; subst hl
  replace hc : control = 1 := hc
  subst hc
  have m0 : Mod (fun _ => False) w ((w.alloc (.cells (cc ⟨kind, true, lba, blocks, alloc, fua, prot, unmap, evpd, 8, 1, save, service, type, bytes⟩) 36)).alloc (.cells #[.int .u8 0, .int .u16 0, .int .u64 0, .bool false, .int .i64 0, .int .i64 0, .bool false, .bool false] 31)) := ((Mod.refl _ w).alloc _).alloc _
  have E0 : REnv ((w.alloc (.cells (cc ⟨kind, true, lba, blocks, alloc, fua, prot, unmap, evpd, 8, 1, save, service, type, bytes⟩) 36)).alloc (.cells #[.int .u8 0, .int .u16 0, .int .u64 0, .bool false, .int .i64 0, .int .i64 0, .bool false, .bool false] 31)) w.heap.size ⟨kind, true, lba, blocks, alloc, fua, prot, unmap, evpd, 8, 1, save, service, type, bytes⟩ p (bitsV n) (bitsV s) := ⟨heap_alloc2_old _ _ _, heap_alloc2_new _ _ _, hpg.mod m0 (by simp)⟩
  have hp0 : p < w.heap.size := hpg.lt
  have hp1 : p < w.heap.size + 1 := by omega
  obtain ⟨y0, y1⟩ := hpg.cells
  obtain ⟨xn, hxn⟩ : ∃ xn, xn = bitsV n := ⟨_, rfl⟩
  obtain ⟨xs, hxs⟩ : ∃ xs, xs = bitsV s := ⟨_, rfl⟩
  rw [← hxn] at hq y0
  rw [← hxs] at y1
  clear hpg
  replace m0 := hide m0; replace E0 := hide E0; replace hsl := hide hsl; replace hxn := hide hxn; replace hxs := hide hxs
  go_enter Try.func17, Try.ntmps17
  go_wp2_with (first
    | (go_at_call 23; (with_reducible refine (rpage8x ⟨true, true, true⟩ 7 rfl _).mono ?_); rintro e w4 ⟨g4, rfl, r4, m4, o4⟩
       have E4 := E0.out.q m4
       have M4 := m0.out.trans m4 (by simp)
       have z4 := E4.size
       have za4 : w.heap.size < w4.heap.size := by omega
       have zb4 : w.heap.size < w4.heap.size + 1 := by omega
       have zc4 : w.heap.size + 1 < w4.heap.size + 1 := by omega
       have zp4 : p < w4.heap.size := by omega
       obtain ⟨x14, x94, x104⟩ := E4.cells
       obtain ⟨y04, y14⟩ := E4.rg.cells
       rw [← hxn.out] at y04
       replace r4 := hide r4; replace E4 := hide E4; replace m4 := hide m4; replace M4 := hide M4)
    | (at_builtin; refine list_app (.tmp 66) (.tmp 67) 25 5 _ 1 1 (ic .u8) rfl rfl (ic_len _) (ic_one _) Try.underlying25 elem5 (.slice (some ⟨w4.heap.size + 1, 0, none⟩) 8 8) [0, 26, 0, 144, 0, 0, 0, 0] (some ⟨g4, 0, none⟩) 20 20 (cachL ⟨true, true, true⟩) rfl rfl (row_lit (l := [0, 26, 0, 144, 0, 0, 0, 0]) (alloc2 _ _ _) (by simp)) (((r4.out.mod (((Mod.refl (fun _ => False) w4).alloc (.cells #[.int .u8 23, .int .u8 0, .int .u8 144, .int .u8 0] 5)).alloc (.cells #[.int .u8 0, .int .u8 26, .int .u8 0, .int .u8 144, .int .u8 0, .int .u8 0, .int .u8 0, .int .u8 0] 5)) (by simp))).rd (ic_len _) rfl) (by simp [maxLen]) (by simp) ?_
       intro v9 w9 h9 g9 a9
       have mal := ((Mod.refl (fun _ => False) w4).alloc (.cells #[.int .u8 23, .int .u8 0, .int .u8 144, .int .u8 0] 5)).alloc (.cells #[.int .u8 0, .int .u8 26, .int .u8 0, .int .u8 144, .int .u8 0, .int .u8 0, .int .u8 0, .int .u8 0] 5)
       have g9m : Mod (fun j => some (w4.heap.size + 1) = some j) ((w4.alloc (.cells #[.int .u8 23, .int .u8 0, .int .u8 144, .int .u8 0] 5)).alloc (.cells #[.int .u8 0, .int .u8 26, .int .u8 0, .int .u8 144, .int .u8 0, .int .u8 0, .int .u8 0, .int .u8 0] 5)) w9 := grown_mod g9
       obtain ⟨b9, c9, e9, -⟩ := h9.some_ (by simp)
       replace e9 : v9 = .slice (some ⟨b9, 0, none⟩) 28 c9 := e9
       have o9 : w4.heap.size ≤ b9 := own_new a9 e9 (fun j hj => by have e : w4.heap.size + 1 = j := Option.some.inj hj; omega) (by simp <;> omega)
       have E9 := (E4.out.q mal).mod g9m (fun h => by have e := Option.some.inj h; omega) (fun h => by have e := Option.some.inj h; omega) (fun h => by have e := Option.some.inj h; omega)
       have M9 := (M4.out.trans mal (by simp)).trans g9m (fun i hi e => by have e := Option.some.inj e; omega)
       have hb9 := E9.2.1
       subst e9
       clear g9 a9 g9m mal
       replace E9 := hide E9; replace M9 := hide M9; obtain ⟨u0, u1, u2, u3, u4, u5, u6, u7⟩ := eights hb9
       have hx9 : w.heap.size + 1 < w9.heap.size := (Array.getElem?_eq_some_iff.1 hb9).1
       have fz : ∀ j, w9.frozen? ⟨w.heap.size + 1, j, none⟩ = false := fun j => frozen_of_row _ _ _ _ _ hb9
       have f0 := fz 0; have f1 := fz 1; have f2 := fz 2; have f3 := fz 3; have f4 := fz 4; have f5 := fz 5; have f6 := fz 6; have f7 := fz 7
       clear fz
       replace h9 := hide h9; replace hb9 := hide hb9))
  obtain ⟨hg10, hm10⟩ := set8 hb9.out (.int .u8 0) (.int .u16 0) (.int .u64 0) (.bool false) (.int .i64 0) (.int .i64 0) (.bool false) (.bool false)
  generalize ((((((((w9.setCell ⟨w.heap.size + 1, 0, none⟩ (.int .u8 0)).setCell ⟨w.heap.size + 1, 1, none⟩ (.int .u16 0)).setCell ⟨w.heap.size + 1, 2, none⟩ (.int .u64 0)).setCell ⟨w.heap.size + 1, 3, none⟩ (.bool false)).setCell ⟨w.heap.size + 1, 4, none⟩ (.int .i64 0)).setCell ⟨w.heap.size + 1, 5, none⟩ (.int .i64 0)).setCell ⟨w.heap.size + 1, 6, none⟩ (.bool false)).setCell ⟨w.heap.size + 1, 7, none⟩ (.bool false)) = w10 at *
  obtain ⟨c0, c1, c2, c3, c4, c5, c6, c7⟩ := eights hg10
  have M10 := M9.out.trans hm10 (fun i hi e => by omega)
  have hne : b9 ≠ w.heap.size + 1 := by omega
  have h10 := h9.out.mod hm10 (fun k hk e => hne ((Option.some.inj hk).trans e))
  exact bodyPost_ret (v := .tuple #[.slice (some ⟨b9, 0, none⟩) 28 c9, .agg #[.int .u8 0, .int .u16 0, .int .u64 0, .bool false, .int .i64 0, .int .i64 0, .bool false, .bool false], .bool true]) (by simp [results, Try.results17, go_sem, c0, c1, c2, c3, c4, c5, c6, c7]) rfl
    ⟨b9, c9, by rw [hsl.out]; rfl, by rw [hsl.out]; exact h10, M10, by omega⟩
set_option maxRecDepth 100000 in
set_option maxHeartbeats 2000000 in
theorem rsense_1_10_FF (p : Nat) (c : C) (n s : V) (w : World) (hpg : RG w p (bitsV n) (bitsV s)) (hc : c.control = 1) (hp : c.page = 10) (hl : c.long = false) (hd : n.c = false) :
    Calls Try.prog 17 #[.pointer (some ⟨p, 0, none⟩), cv c] w (Told c n s w) := by
  have hsl : senseL c n s = headL false 16 12 ++ bodyL 10 ⟨true, true, true⟩ := by
    simp [senseL, hp, hl, hd, devB, hc, bodyL, vOf, cachL, ctlL]
  have hq := dev_of n
  rw [hd] at hq
  replace hq : Int.tdiv (bitsV n) 4 = 0 := hq
  obtain ⟨kind, long, lba, blocks, alloc, fua, prot, unmap, evpd, page, control, save, service, type, bytes⟩ := c
  replace hp : page = 10 := hp
  replace hl : long = false := hl
  subst hp; subst hl
  replace hc : control = 1 := hc
  subst hc
  have m0 : Mod (fun _ => False) w ((w.alloc (.cells (cc ⟨kind, false, lba, blocks, alloc, fua, prot, unmap, evpd, 10, 1, save, service, type, bytes⟩) 36)).alloc (.cells #[.int .u8 0, .int .u16 0, .int .u64 0, .bool false, .int .i64 0, .int .i64 0, .bool false, .bool false] 31)) := ((Mod.refl _ w).alloc _).alloc _
  have E0 : REnv ((w.alloc (.cells (cc ⟨kind, false, lba, blocks, alloc, fua, prot, unmap, evpd, 10, 1, save, service, type, bytes⟩) 36)).alloc (.cells #[.int .u8 0, .int .u16 0, .int .u64 0, .bool false, .int .i64 0, .int .i64 0, .bool false, .bool false] 31)) w.heap.size ⟨kind, false, lba, blocks, alloc, fua, prot, unmap, evpd, 10, 1, save, service, type, bytes⟩ p (bitsV n) (bitsV s) := ⟨heap_alloc2_old _ _ _, heap_alloc2_new _ _ _, hpg.mod m0 (by simp)⟩
  have hp0 : p < w.heap.size := hpg.lt
  have hp1 : p < w.heap.size + 1 := by omega
  obtain ⟨y0, y1⟩ := hpg.cells
  obtain ⟨xn, hxn⟩ : ∃ xn, xn = bitsV n := ⟨_, rfl⟩
  obtain ⟨xs, hxs⟩ : ∃ xs, xs = bitsV s := ⟨_, rfl⟩
  rw [← hxn] at hq y0
  rw [← hxs] at y1
  clear hpg
  replace m0 := hide m0; replace E0 := hide E0; replace hsl := hide hsl; replace hxn := hide hxn; replace hxs := hide hxs
  go_enter Try.func17, Try.ntmps17
  go_wp2_with (first
    | (go_at_call 23; (with_reducible refine (rpage10x ⟨true, true, true⟩ 7 rfl _).mono ?_); rintro e w4 ⟨g4, rfl, r4, m4, o4⟩
       have E4 := E0.out.q m4
       have M4 := m0.out.trans m4 (by simp)
       have z4 := E4.size
       have za4 : w.heap.size < w4.heap.size := by omega
       have zb4 : w.heap.size < w4.heap.size + 1 := by omega
       have zc4 : w.heap.size + 1 < w4.heap.size + 1 := by omega
       have zp4 : p < w4.heap.size := by omega
       obtain ⟨x14, x94, x104⟩ := E4.cells
       obtain ⟨y04, y14⟩ := E4.rg.cells
       rw [← hxn.out] at y04
       replace r4 := hide r4; replace E4 := hide E4; replace m4 := hide m4; replace M4 := hide M4)
    | (at_builtin; refine list_app (.tmp 66) (.tmp 67) 25 5 _ 1 1 (ic .u8) rfl rfl (ic_len _) (ic_one _) Try.underlying25 elem5 (.slice (some ⟨w4.heap.size, 0, none⟩) 4 4) [15, 0, 16, 0] (some ⟨g4, 0, none⟩) 12 12 (ctlL ⟨true, true, true⟩) rfl rfl (row_lit (l := [15, 0, 16, 0]) (heap_alloc_new _ _) (by simp)) (((r4.out.mod (((Mod.refl (fun _ => False) w4).alloc (.cells #[.int .u8 15, .int .u8 0, .int .u8 16, .int .u8 0] 5))) (by simp))).rd (ic_len _) rfl) (by simp [maxLen]) (by simp) ?_
       intro v9 w9 h9 g9 a9
       have mal := ((Mod.refl (fun _ => False) w4).alloc (.cells #[.int .u8 15, .int .u8 0, .int .u8 16, .int .u8 0] 5))
       have g9m : Mod (fun j => some (w4.heap.size) = some j) (w4.alloc (.cells #[.int .u8 15, .int .u8 0, .int .u8 16, .int .u8 0] 5)) w9 := grown_mod g9
       obtain ⟨b9, c9, e9, -⟩ := h9.some_ (by simp)
       replace e9 : v9 = .slice (some ⟨b9, 0, none⟩) 16 c9 := e9
       have o9 : w4.heap.size ≤ b9 := own_new a9 e9 (fun j hj => by have e : w4.heap.size = j := Option.some.inj hj; omega) (by simp <;> omega)
       have E9 := (E4.out.q mal).mod g9m (fun h => by have e := Option.some.inj h; omega) (fun h => by have e := Option.some.inj h; omega) (fun h => by have e := Option.some.inj h; omega)
       have M9 := (M4.out.trans mal (by simp)).trans g9m (fun i hi e => by have e := Option.some.inj e; omega)
       have hb9 := E9.2.1
       subst e9
       clear g9 a9 g9m mal
       replace E9 := hide E9; replace M9 := hide M9; obtain ⟨u0, u1, u2, u3, u4, u5, u6, u7⟩ := eights hb9
       have hx9 : w.heap.size + 1 < w9.heap.size := (Array.getElem?_eq_some_iff.1 hb9).1
       have fz : ∀ j, w9.frozen? ⟨w.heap.size + 1, j, none⟩ = false := fun j => frozen_of_row _ _ _ _ _ hb9
       have f0 := fz 0; have f1 := fz 1; have f2 := fz 2; have f3 := fz 3; have f4 := fz 4; have f5 := fz 5; have f6 := fz 6; have f7 := fz 7
       clear fz
       replace h9 := hide h9; replace hb9 := hide hb9))
  obtain ⟨hg10, hm10⟩ := set8 hb9.out (.int .u8 0) (.int .u16 0) (.int .u64 0) (.bool false) (.int .i64 0) (.int .i64 0) (.bool false) (.bool false)
  generalize ((((((((w9.setCell ⟨w.heap.size + 1, 0, none⟩ (.int .u8 0)).setCell ⟨w.heap.size + 1, 1, none⟩ (.int .u16 0)).setCell ⟨w.heap.size + 1, 2, none⟩ (.int .u64 0)).setCell ⟨w.heap.size + 1, 3, none⟩ (.bool false)).setCell ⟨w.heap.size + 1, 4, none⟩ (.int .i64 0)).setCell ⟨w.heap.size + 1, 5, none⟩ (.int .i64 0)).setCell ⟨w.heap.size + 1, 6, none⟩ (.bool false)).setCell ⟨w.heap.size + 1, 7, none⟩ (.bool false)) = w10 at *
  obtain ⟨c0, c1, c2, c3, c4, c5, c6, c7⟩ := eights hg10
  have M10 := M9.out.trans hm10 (fun i hi e => by omega)
  have hne : b9 ≠ w.heap.size + 1 := by omega
  have h10 := h9.out.mod hm10 (fun k hk e => hne ((Option.some.inj hk).trans e))
  exact bodyPost_ret (v := .tuple #[.slice (some ⟨b9, 0, none⟩) 16 c9, .agg #[.int .u8 0, .int .u16 0, .int .u64 0, .bool false, .int .i64 0, .int .i64 0, .bool false, .bool false], .bool true]) (by simp [results, Try.results17, go_sem, c0, c1, c2, c3, c4, c5, c6, c7]) rfl
    ⟨b9, c9, by rw [hsl.out]; rfl, by rw [hsl.out]; exact h10, M10, by omega⟩
set_option maxRecDepth 100000 in
set_option maxHeartbeats 2000000 in
theorem rsense_1_10_FT (p : Nat) (c : C) (n s : V) (w : World) (hpg : RG w p (bitsV n) (bitsV s)) (hc : c.control = 1) (hp : c.page = 10) (hl : c.long = false) (hd : n.c = true) :
    Calls Try.prog 17 #[.pointer (some ⟨p, 0, none⟩), cv c] w (Told c n s w) := by
  have hsl : senseL c n s = headL false 144 12 ++ bodyL 10 ⟨true, true, true⟩ := by
    simp [senseL, hp, hl, hd, devB, hc, bodyL, vOf, cachL, ctlL]
  have hq := dev_of n
  rw [hd] at hq
  replace hq : Int.tdiv (bitsV n) 4 = 1 := hq
  obtain ⟨kind, long, lba, blocks, alloc, fua, prot, unmap, evpd, page, control, save, service, type, bytes⟩ := c
  replace hp : page = 10 := hp
  replace hl : long = false := hl
  subst hp; subst hl
  replace hc : control = 1 := hc
  subst hc
  have m0 : Mod (fun _ => False) w ((w.alloc (.cells (cc ⟨kind, false, lba, blocks, alloc, fua, prot, unmap, evpd, 10, 1, save, service, type, bytes⟩) 36)).alloc (.cells #[.int .u8 0, .int .u16 0, .int .u64 0, .bool false, .int .i64 0, .int .i64 0, .bool false, .bool false] 31)) := ((Mod.refl _ w).alloc _).alloc _
  have E0 : REnv ((w.alloc (.cells (cc ⟨kind, false, lba, blocks, alloc, fua, prot, unmap, evpd, 10, 1, save, service, type, bytes⟩) 36)).alloc (.cells #[.int .u8 0, .int .u16 0, .int .u64 0, .bool false, .int .i64 0, .int .i64 0, .bool false, .bool false] 31)) w.heap.size ⟨kind, false, lba, blocks, alloc, fua, prot, unmap, evpd, 10, 1, save, service, type, bytes⟩ p (bitsV n) (bitsV s) := ⟨heap_alloc2_old _ _ _, heap_alloc2_new _ _ _, hpg.mod m0 (by simp)⟩
  have hp0 : p < w.heap.size := hpg.lt
  have hp1 : p < w.heap.size + 1 := by omega
  obtain ⟨y0, y1⟩ := hpg.cells
  obtain ⟨xn, hxn⟩ : ∃ xn, xn = bitsV n := ⟨_, rfl⟩
  obtain ⟨xs, hxs⟩ : ∃ xs, xs = bitsV s := ⟨_, rfl⟩
  rw [← hxn] at hq y0
  rw [← hxs] at y1
  clear hpg
  replace m0 := hide m0; replace E0 := hide E0; replace hsl := hide hsl; replace hxn := hide hxn; replace hxs := hide hxs
  go_enter Try.func17, Try.ntmps17
  go_wp2_with (first
    | (go_at_call 23; (with_reducible refine (rpage10x ⟨true, true, true⟩ 7 rfl _).mono ?_); rintro e w4 ⟨g4, rfl, r4, m4, o4⟩
       have E4 := E0.out.q m4
       have M4 := m0.out.trans m4 (by simp)
       have z4 := E4.size
       have za4 : w.heap.size < w4.heap.size := by omega
       have zb4 : w.heap.size < w4.heap.size + 1 := by omega
       have zc4 : w.heap.size + 1 < w4.heap.size + 1 := by omega
       have zp4 : p < w4.heap.size := by omega
       obtain ⟨x14, x94, x104⟩ := E4.cells
       obtain ⟨y04, y14⟩ := E4.rg.cells
       rw [← hxn.out] at y04
       replace r4 := hide r4; replace E4 := hide E4; replace m4 := hide m4; replace M4 := hide M4)
    | (at_builtin; refine list_app (.tmp 66) (.tmp 67) 25 5 _ 1 1 (ic .u8) rfl rfl (ic_len _) (ic_one _) Try.underlying25 elem5 (.slice (some ⟨w4.heap.size, 0, none⟩) 4 4) [15, 0, 144, 0] (some ⟨g4, 0, none⟩) 12 12 (ctlL ⟨true, true, true⟩) rfl rfl (row_lit (l := [15, 0, 144, 0]) (heap_alloc_new _ _) (by simp)) (((r4.out.mod (((Mod.refl (fun _ => False) w4).alloc (.cells #[.int .u8 15, .int .u8 0, .int .u8 144, .int .u8 0] 5))) (by simp))).rd (ic_len _) rfl) (by simp [maxLen]) (by simp) ?_
       intro v9 w9 h9 g9 a9
       have mal := ((Mod.refl (fun _ => False) w4).alloc (.cells #[.int .u8 15, .int .u8 0, .int .u8 144, .int .u8 0] 5))
       have g9m : Mod (fun j => some (w4.heap.size) = some j) (w4.alloc (.cells #[.int .u8 15, .int .u8 0, .int .u8 144, .int .u8 0] 5)) w9 := grown_mod g9
       obtain ⟨b9, c9, e9, -⟩ := h9.some_ (by simp)
       replace e9 : v9 = .slice (some ⟨b9, 0, none⟩) 16 c9 := e9
       have o9 : w4.heap.size ≤ b9 := own_new a9 e9 (fun j hj => by have e : w4.heap.size = j := Option.some.inj hj; omega) (by simp <;> omega)
       have E9 := (E4.out.q mal).mod g9m (fun h => by have e := Option.some.inj h; omega) (fun h => by have e := Option.some.inj h; omega) (fun h => by have e := Option.some.inj h; omega)
       have M9 := (M4.out.trans mal (by simp)).trans g9m (fun i hi e => by have e := Option.some.inj e; omega)
       have hb9 := E9.2.1
       subst e9
       clear g9 a9 g9m mal
       replace E9 := hide E9; replace M9 := hide M9; obtain ⟨u0, u1, u2, u3, u4, u5, u6, u7⟩ := eights hb9
       have hx9 : w.heap.size + 1 < w9.heap.size := (Array.getElem?_eq_some_iff.1 hb9).1
       have fz : ∀ j, w9.frozen? ⟨w.heap.size + 1, j, none⟩ = false := fun j => frozen_of_row _ _ _ _ _ hb9
       have f0 := fz 0; have f1 := fz 1; have f2 := fz 2; have f3 := fz 3; have f4 := fz 4; have f5 := fz 5; have f6 := fz 6; have f7 := fz 7
       clear fz
       replace h9 := hide h9; replace hb9 := hide hb9))
  obtain ⟨hg10, hm10⟩ := set8 hb9.out (.int .u8 0) (.int .u16 0) (.int .u64 0) (.bool false) (.int .i64 0) (.int .i64 0) (.bool false) (.bool false)
  generalize ((((((((w9.setCell ⟨w.heap.size + 1, 0, none⟩ (.int .u8 0)).setCell ⟨w.heap.size + 1, 1, none⟩ (.int .u16 0)).setCell ⟨w.heap.size + 1, 2, none⟩ (.int .u64 0)).setCell ⟨w.heap.size + 1, 3, none⟩ (.bool false)).setCell ⟨w.heap.size + 1, 4, none⟩ (.int .i64 0)).setCell ⟨w.heap.size + 1, 5, none⟩ (.int .i64 0)).setCell ⟨w.heap.size + 1, 6, none⟩ (.bool false)).setCell ⟨w.heap.size + 1, 7, none⟩ (.bool false)) = w10 at *
  obtain ⟨c0, c1, c2, c3, c4, c5, c6, c7⟩ := eights hg10
  have M10 := M9.out.trans hm10 (fun i hi e => by omega)
  have hne : b9 ≠ w.heap.size + 1 := by omega
  have h10 := h9.out.mod hm10 (fun k hk e => hne ((Option.some.inj hk).trans e))
  exact bodyPost_ret (v := .tuple #[.slice (some ⟨b9, 0, none⟩) 16 c9, .agg #[.int .u8 0, .int .u16 0, .int .u64 0, .bool false, .int .i64 0, .int .i64 0, .bool false, .bool false], .bool true]) (by simp [results, Try.results17, go_sem, c0, c1, c2, c3, c4, c5, c6, c7]) rfl
    ⟨b9, c9, by rw [hsl.out]; rfl, by rw [hsl.out]; exact h10, M10, by omega⟩
set_option maxRecDepth 100000 in
set_option maxHeartbeats 2000000 in
theorem rsense_1_10_TF (p : Nat) (c : C) (n s : V) (w : World) (hpg : RG w p (bitsV n) (bitsV s)) (hc : c.control = 1) (hp : c.page = 10) (hl : c.long = true) (hd : n.c = false) :
    Calls Try.prog 17 #[.pointer (some ⟨p, 0, none⟩), cv c] w (Told c n s w) := by
  have hsl : senseL c n s = headL true 16 12 ++ bodyL 10 ⟨true, true, true⟩ := by
    simp [senseL, hp, hl, hd, devB, hc, bodyL, vOf, cachL, ctlL]
  have hq := dev_of n
  rw [hd] at hq
  replace hq : Int.tdiv (bitsV n) 4 = 0 := hq
  obtain ⟨kind, long, lba, blocks, alloc, fua, prot, unmap, evpd, page, control, save, service, type, bytes⟩ := c
  replace hp : page = 10 := hp
  replace hl : long = true := hl
  subst hp; subst hl
  replace hc : control = 1 := hc
  subst hc
  have m0 : Mod (fun _ => False) w ((w.alloc (.cells (cc ⟨kind, true, lba, blocks, alloc, fua, prot, unmap, evpd, 10, 1, save, service, type, bytes⟩) 36)).alloc (.cells #[.int .u8 0, .int .u16 0, .int .u64 0, .bool false, .int .i64 0, .int .i64 0, .bool false, .bool false] 31)) := ((Mod.refl _ w).alloc _).alloc _
  have E0 : REnv ((w.alloc (.cells (cc ⟨kind, true, lba, blocks, alloc, fua, prot, unmap, evpd, 10, 1, save, service, type, bytes⟩) 36)).alloc (.cells #[.int .u8 0, .int .u16 0, .int .u64 0, .bool false, .int .i64 0, .int .i64 0, .bool false, .bool false] 31)) w.heap.size ⟨kind, true, lba, blocks, alloc, fua, prot, unmap, evpd, 10, 1, save, service, type, bytes⟩ p (bitsV n) (bitsV s) := ⟨heap_alloc2_old _ _ _, heap_alloc2_new _ _ _, hpg.mod m0 (by simp)⟩
  have hp0 : p < w.heap.size := hpg.lt
  have hp1 : p < w.heap.size + 1 := by omega
  obtain ⟨y0, y1⟩ := hpg.cells
  obtain ⟨xn, hxn⟩ : ∃ xn, xn = bitsV n := ⟨_, rfl⟩
  obtain ⟨xs, hxs⟩ : ∃ xs, xs = bitsV s := ⟨_, rfl⟩
  rw [← hxn] at hq y0
  rw [← hxs] at y1
  clear hpg
  replace m0 := hide m0; replace E0 := hide E0; replace hsl := hide hsl; replace hxn := hide hxn; replace hxs := hide hxs
  go_enter Try.func17, Try.ntmps17
  go_wp2_with (first
    | (go_at_call 23; (with_reducible refine (rpage10x ⟨true, true, true⟩ 7 rfl _).mono ?_); rintro e w4 ⟨g4, rfl, r4, m4, o4⟩
       have E4 := E0.out.q m4
       have M4 := m0.out.trans m4 (by simp)
       have z4 := E4.size
       have za4 : w.heap.size < w4.heap.size := by omega
       have zb4 : w.heap.size < w4.heap.size + 1 := by omega
       have zc4 : w.heap.size + 1 < w4.heap.size + 1 := by omega
       have zp4 : p < w4.heap.size := by omega
       obtain ⟨x14, x94, x104⟩ := E4.cells
       obtain ⟨y04, y14⟩ := E4.rg.cells
       rw [← hxn.out] at y04
       replace r4 := hide r4; replace E4 := hide E4; replace m4 := hide m4; replace M4 := hide M4)
    | (at_builtin; refine list_app (.tmp 66) (.tmp 67) 25 5 _ 1 1 (ic .u8) rfl rfl (ic_len _) (ic_one _) Try.underlying25 elem5 (.slice (some ⟨w4.heap.size + 1, 0, none⟩) 8 8) [0, 18, 0, 16, 0, 0, 0, 0] (some ⟨g4, 0, none⟩) 12 12 (ctlL ⟨true, true, true⟩) rfl rfl (row_lit (l := [0, 18, 0, 16, 0, 0, 0, 0]) (alloc2 _ _ _) (by simp)) (((r4.out.mod (((Mod.refl (fun _ => False) w4).alloc (.cells #[.int .u8 15, .int .u8 0, .int .u8 16, .int .u8 0] 5)).alloc (.cells #[.int .u8 0, .int .u8 18, .int .u8 0, .int .u8 16, .int .u8 0, .int .u8 0, .int .u8 0, .int .u8 0] 5)) (by simp))).rd (ic_len _) rfl) (by simp [maxLen]) (by simp) ?_
       intro v9 w9 h9 g9 a9
       have mal := ((Mod.refl (fun _ => False) w4).alloc (.cells #[.int .u8 15, .int .u8 0, .int .u8 16, .int .u8 0] 5)).alloc (.cells #[.int .u8 0, .int .u8 18, .int .u8 0, .int .u8 16, .int .u8 0, .int .u8 0, .int .u8 0, .int .u8 0] 5)
       have g9m : Mod (fun j => some (w4.heap.size + 1) = some j) ((w4.alloc (.cells #[.int .u8 15, .int .u8 0, .int .u8 16, .int .u8 0] 5)).alloc (.cells #[.int .u8 0, .int .u8 18, .int .u8 0, .int .u8 16, .int .u8 0, .int .u8 0, .int .u8 0, .int .u8 0] 5)) w9 := grown_mod g9
       obtain ⟨b9, c9, e9, -⟩ := h9.some_ (by simp)
       replace e9 : v9 = .slice (some ⟨b9, 0, none⟩) 20 c9 := e9
       have o9 : w4.heap.size ≤ b9 := own_new a9 e9 (fun j hj => by have e : w4.heap.size + 1 = j := Option.some.inj hj; omega) (by simp <;> omega)
       have E9 := (E4.out.q mal).mod g9m (fun h => by have e := Option.some.inj h; omega) (fun h => by have e := Option.some.inj h; omega) (fun h => by have e := Option.some.inj h; omega)
       have M9 := (M4.out.trans mal (by simp)).trans g9m (fun i hi e => by have e := Option.some.inj e; omega)
       have hb9 := E9.2.1
       subst e9
       clear g9 a9 g9m mal
       replace E9 := hide E9; replace M9 := hide M9; obtain ⟨u0, u1, u2, u3, u4, u5, u6, u7⟩ := eights hb9
       have hx9 : w.heap.size + 1 < w9.heap.size := (Array.getElem?_eq_some_iff.1 hb9).1
       have fz : ∀ j, w9.frozen? ⟨w.heap.size + 1, j, none⟩ = false := fun j => frozen_of_row _ _ _ _ _ hb9
       have f0 := fz 0; have f1 := fz 1; have f2 := fz 2; have f3 := fz 3; have f4 := fz 4; have f5 := fz 5; have f6 := fz 6; have f7 := fz 7
       clear fz
       replace h9 := hide h9; replace hb9 := hide hb9))
  obtain ⟨hg10, hm10⟩ := set8 hb9.out (.int .u8 0) (.int .u16 0) (.int .u64 0) (.bool false) (.int .i64 0) (.int .i64 0) (.bool false) (.bool false)
  generalize ((((((((w9.setCell ⟨w.heap.size + 1, 0, none⟩ (.int .u8 0)).setCell ⟨w.heap.size + 1, 1, none⟩ (.int .u16 0)).setCell ⟨w.heap.size + 1, 2, none⟩ (.int .u64 0)).setCell ⟨w.heap.size + 1, 3, none⟩ (.bool false)).setCell ⟨w.heap.size + 1, 4, none⟩ (.int .i64 0)).setCell ⟨w.heap.size + 1, 5, none⟩ (.int .i64 0)).setCell ⟨w.heap.size + 1, 6, none⟩ (.bool false)).setCell ⟨w.heap.size + 1, 7, none⟩ (.bool false)) = w10 at *
  obtain ⟨c0, c1, c2, c3, c4, c5, c6, c7⟩ := eights hg10
  have M10 := M9.out.trans hm10 (fun i hi e => by omega)
  have hne : b9 ≠ w.heap.size + 1 := by omega
  have h10 := h9.out.mod hm10 (fun k hk e => hne ((Option.some.inj hk).trans e))
  exact bodyPost_ret (v := .tuple #[.slice (some ⟨b9, 0, none⟩) 20 c9, .agg #[.int .u8 0, .int .u16 0, .int .u64 0, .bool false, .int .i64 0, .int .i64 0, .bool false, .bool false], .bool true]) (by simp [results, Try.results17, go_sem, c0, c1, c2, c3, c4, c5, c6, c7]) rfl
    ⟨b9, c9, by rw [hsl.out]; rfl, by rw [hsl.out]; exact h10, M10, by omega⟩
set_option maxRecDepth 100000 in
set_option maxHeartbeats 2000000 in
theorem rsense_1_10_TT (p : Nat) (c : C) (n s : V) (w : World) (hpg : RG w p (bitsV n) (bitsV s)) (hc : c.control = 1) (hp : c.page = 10) (hl : c.long = true) (hd : n.c = true) :
    Calls Try.prog 17 #[.pointer (some ⟨p, 0, none⟩), cv c] w (Told c n s w) := by
  have hsl : senseL c n s = headL true 144 12 ++ bodyL 10 ⟨true, true, true⟩ := by
    simp [senseL, hp, hl, hd, devB, hc, bodyL, vOf, cachL, ctlL]
  have hq := dev_of n
  rw [hd] at hq
  replace hq : Int.tdiv (bitsV n) 4 = 1 := hq
  obtain ⟨kind, long, lba, blocks, alloc, fua, prot, unmap, evpd, page, control, save, service, type, bytes⟩ := c
  replace hp : page = 10 := hp
  replace hl : long = true := hl
  subst hp; subst hl
  replace hc : control = 1 := hc
  subst hc
  have m0 : Mod (fun _ => False) w ((w.alloc (.cells (cc ⟨kind, true, lba, blocks, alloc, fua, prot, unmap, evpd, 10, 1, save, service, type, bytes⟩) 36)).alloc (.cells #[.int .u8 0, .int .u16 0, .int .u64 0, .bool false, .int .i64 0, .int .i64 0, .bool false, .bool false] 31)) := ((Mod.refl _ w).alloc _).alloc _
  have E0 : REnv ((w.alloc (.cells (cc ⟨kind, true, lba, blocks, alloc, fua, prot, unmap, evpd, 10, 1, save, service, type, bytes⟩) 36)).alloc (.cells #[.int .u8 0, .int .u16 0, .int .u64 0, .bool false, .int .i64 0, .int .i64 0, .bool false, .bool false] 31)) w.heap.size ⟨kind, true, lba, blocks, alloc, fua, prot, unmap, evpd, 10, 1, save, service, type, bytes⟩ p (bitsV n) (bitsV s) := ⟨heap_alloc2_old _ _ _, heap_alloc2_new _ _ _, hpg.mod m0 (by simp)⟩
  have hp0 : p < w.heap.size := hpg.lt
  have hp1 : p < w.heap.size + 1 := by omega
  obtain ⟨y0, y1⟩ := hpg.cells
  obtain ⟨xn, hxn⟩ : ∃ xn, xn = bitsV n := ⟨_, rfl⟩
  obtain ⟨xs, hxs⟩ : ∃ xs, xs = bitsV s := ⟨_, rfl⟩
  rw [← hxn] at hq y0
  rw [← hxs] at y1
  clear hpg
  replace m0 := hide m0; replace E0 := hide E0; replace hsl := hide hsl; replace hxn := hide hxn; replace hxs := hide hxs
  go_enter Try.func17, Try.ntmps17
  go_wp2_with (first
    | (go_at_call 23; (with_reducible refine (rpage10x ⟨true, true, true⟩ 7 rfl _).mono ?_); rintro e w4 ⟨g4, rfl, r4, m4, o4⟩
       have E4 := E0.out.q m4
       have M4 := m0.out.trans m4 (by simp)
       have z4 := E4.size
       have za4 : w.heap.size < w4.heap.size := by omega
       have zb4 : w.heap.size < w4.heap.size + 1 := by omega
       have zc4 : w.heap.size + 1 < w4.heap.size + 1 := by omega
       have zp4 : p < w4.heap.size := by omega
       obtain ⟨x14, x94, x104⟩ := E4.cells
       obtain ⟨y04, y14⟩ := E4.rg.cells
       rw [← hxn.out] at y04
       replace r4 := hide r4; replace E4 := hide E4; replace m4 := hide m4; replace M4 := hide M4)
    | (at_builtin; refine list_app (.tmp 66) (.tmp 67) 25 5 _ 1 1 (ic .u8) rfl rfl (ic_len _) (ic_one _) Try.underlying25 elem5 (.slice (some ⟨w4.heap.size + 1, 0, none⟩) 8 8) [0, 18, 0, 144, 0, 0, 0, 0] (some ⟨g4, 0, none⟩) 12 12 (ctlL ⟨true, true, true⟩) rfl rfl (row_lit (l := [0, 18, 0, 144, 0, 0, 0, 0]) (alloc2 _ _ _) (by simp)) (((r4.out.mod (((Mod.refl (fun _ => False) w4).alloc (.cells #[.int .u8 15, .int .u8 0, .int .u8 144, .int .u8 0] 5)).alloc (.cells #[.int .u8 0, .int .u8 18, .int .u8 0, .int .u8 144, .int .u8 0, .int .u8 0, .int .u8 0, .int .u8 0] 5)) (by simp))).rd (ic_len _) rfl) (by simp [maxLen]) (by simp) ?_
       intro v9 w9 h9 g9 a9
       have mal := ((Mod.refl (fun _ => False) w4).alloc (.cells #[.int .u8 15, .int .u8 0, .int .u8 144, .int .u8 0] 5)).alloc (.cells #[.int .u8 0, .int .u8 18, .int .u8 0, .int .u8 144, .int .u8 0, .int .u8 0, .int .u8 0, .int .u8 0] 5)
       have g9m : Mod (fun j => some (w4.heap.size + 1) = some j) ((w4.alloc (.cells #[.int .u8 15, .int .u8 0, .int .u8 144, .int .u8 0] 5)).alloc (.cells #[.int .u8 0, .int .u8 18, .int .u8 0, .int .u8 144, .int .u8 0, .int .u8 0, .int .u8 0, .int .u8 0] 5)) w9 := grown_mod g9
       obtain ⟨b9, c9, e9, -⟩ := h9.some_ (by simp)
       replace e9 : v9 = .slice (some ⟨b9, 0, none⟩) 20 c9 := e9
       have o9 : w4.heap.size ≤ b9 := own_new a9 e9 (fun j hj => by have e : w4.heap.size + 1 = j := Option.some.inj hj; omega) (by simp <;> omega)
       have E9 := (E4.out.q mal).mod g9m (fun h => by have e := Option.some.inj h; omega) (fun h => by have e := Option.some.inj h; omega) (fun h => by have e := Option.some.inj h; omega)
       have M9 := (M4.out.trans mal (by simp)).trans g9m (fun i hi e => by have e := Option.some.inj e; omega)
       have hb9 := E9.2.1
       subst e9
       clear g9 a9 g9m mal
       replace E9 := hide E9; replace M9 := hide M9; obtain ⟨u0, u1, u2, u3, u4, u5, u6, u7⟩ := eights hb9
       have hx9 : w.heap.size + 1 < w9.heap.size := (Array.getElem?_eq_some_iff.1 hb9).1
       have fz : ∀ j, w9.frozen? ⟨w.heap.size + 1, j, none⟩ = false := fun j => frozen_of_row _ _ _ _ _ hb9
       have f0 := fz 0; have f1 := fz 1; have f2 := fz 2; have f3 := fz 3; have f4 := fz 4; have f5 := fz 5; have f6 := fz 6; have f7 := fz 7
       clear fz
       replace h9 := hide h9; replace hb9 := hide hb9))
  obtain ⟨hg10, hm10⟩ := set8 hb9.out (.int .u8 0) (.int .u16 0) (.int .u64 0) (.bool false) (.int .i64 0) (.int .i64 0) (.bool false) (.bool false)
  generalize ((((((((w9.setCell ⟨w.heap.size + 1, 0, none⟩ (.int .u8 0)).setCell ⟨w.heap.size + 1, 1, none⟩ (.int .u16 0)).setCell ⟨w.heap.size + 1, 2, none⟩ (.int .u64 0)).setCell ⟨w.heap.size + 1, 3, none⟩ (.bool false)).setCell ⟨w.heap.size + 1, 4, none⟩ (.int .i64 0)).setCell ⟨w.heap.size + 1, 5, none⟩ (.int .i64 0)).setCell ⟨w.heap.size + 1, 6, none⟩ (.bool false)).setCell ⟨w.heap.size + 1, 7, none⟩ (.bool false)) = w10 at *
  obtain ⟨c0, c1, c2, c3, c4, c5, c6, c7⟩ := eights hg10
  have M10 := M9.out.trans hm10 (fun i hi e => by omega)
  have hne : b9 ≠ w.heap.size + 1 := by omega
  have h10 := h9.out.mod hm10 (fun k hk e => hne ((Option.some.inj hk).trans e))
  exact bodyPost_ret (v := .tuple #[.slice (some ⟨b9, 0, none⟩) 20 c9, .agg #[.int .u8 0, .int .u16 0, .int .u64 0, .bool false, .int .i64 0, .int .i64 0, .bool false, .bool false], .bool true]) (by simp [results, Try.results17, go_sem, c0, c1, c2, c3, c4, c5, c6, c7]) rfl
    ⟨b9, c9, by rw [hsl.out]; rfl, by rw [hsl.out]; exact h10, M10, by omega⟩
set_option maxRecDepth 100000 in
set_option maxHeartbeats 2000000 in
theorem rsense_1_63_FF (p : Nat) (c : C) (n s : V) (w : World) (hpg : RG w p (bitsV n) (bitsV s)) (hc : c.control = 1) (hp : c.page = 63) (hl : c.long = false) (hd : n.c = false) :
    Calls Try.prog 17 #[.pointer (some ⟨p, 0, none⟩), cv c] w (Told c n s w) := by
  have hsl : senseL c n s = headL false 16 32 ++ bodyL 63 ⟨true, true, true⟩ := by
    simp [senseL, hp, hl, hd, devB, hc, bodyL, vOf, cachL, ctlL]
  have hq := dev_of n
  rw [hd] at hq
  replace hq : Int.tdiv (bitsV n) 4 = 0 := hq
  obtain ⟨kind, long, lba, blocks, alloc, fua, prot, unmap, evpd, page, control, save, service, type, bytes⟩ := c
  replace hp : page = 63 := hp
  replace hl : long = false := hl
  subst hp; subst hl
  replace hc : control = 1 := hc
  subst hc
  have m0 : Mod (fun _ => False) w ((w.alloc (.cells (cc ⟨kind, false, lba, blocks, alloc, fua, prot, unmap, evpd, 63, 1, save, service, type, bytes⟩) 36)).alloc (.cells #[.int .u8 0, .int .u16 0, .int .u64 0, .bool false, .int .i64 0, .int .i64 0, .bool false, .bool false] 31)) := ((Mod.refl _ w).alloc _).alloc _
  have E0 : REnv ((w.alloc (.cells (cc ⟨kind, false, lba, blocks, alloc, fua, prot, unmap, evpd, 63, 1, save, service, type, bytes⟩) 36)).alloc (.cells #[.int .u8 0, .int .u16 0, .int .u64 0, .bool false, .int .i64 0, .int .i64 0, .bool false, .bool false] 31)) w.heap.size ⟨kind, false, lba, blocks, alloc, fua, prot, unmap, evpd, 63, 1, save, service, type, bytes⟩ p (bitsV n) (bitsV s) := ⟨heap_alloc2_old _ _ _, heap_alloc2_new _ _ _, hpg.mod m0 (by simp)⟩
  have hp0 : p < w.heap.size := hpg.lt
  have hp1 : p < w.heap.size + 1 := by omega
  obtain ⟨y0, y1⟩ := hpg.cells
  obtain ⟨xn, hxn⟩ : ∃ xn, xn = bitsV n := ⟨_, rfl⟩
  obtain ⟨xs, hxs⟩ : ∃ xs, xs = bitsV s := ⟨_, rfl⟩
  rw [← hxn] at hq y0
  rw [← hxs] at y1
  clear hpg
  replace m0 := hide m0; replace E0 := hide E0; replace hsl := hide hsl; replace hxn := hide hxn; replace hxs := hide hxs
  go_enter Try.func17, Try.ntmps17
  go_wp2_with (first
    | (go_at_call 23; (with_reducible refine (rpage8x ⟨true, true, true⟩ 7 rfl _).mono ?_); rintro e w4 ⟨g4, rfl, r4, m4, o4⟩
       have E4 := E0.out.q m4
       have M4 := m0.out.trans m4 (by simp)
       have z4 := E4.size
       have za4 : w.heap.size < w4.heap.size := by omega
       have zb4 : w.heap.size < w4.heap.size + 1 := by omega
       have zc4 : w.heap.size + 1 < w4.heap.size + 1 := by omega
       have zp4 : p < w4.heap.size := by omega
       obtain ⟨x14, x94, x104⟩ := E4.cells
       obtain ⟨y04, y14⟩ := E4.rg.cells
       rw [← hxn.out] at y04
       replace r4 := hide r4; replace E4 := hide E4; replace m4 := hide m4; replace M4 := hide M4)
    | (go_at_call 23; (with_reducible refine (rpage10x ⟨true, true, true⟩ 7 rfl _).mono ?_); rintro e w5 ⟨g5, rfl, r5, m5, o5⟩
       have E5 := E4.out.q m5
       have M5 := M4.out.trans m5 (by simp)
       have z5 := E5.size
       have za5 : w.heap.size < w5.heap.size := by omega
       have zb5 : w.heap.size < w5.heap.size + 1 := by omega
       have zc5 : w.heap.size + 1 < w5.heap.size + 1 := by omega
       have zp5 : p < w5.heap.size := by omega
       obtain ⟨x15, x95, x105⟩ := E5.cells
       obtain ⟨y05, y15⟩ := E5.rg.cells
       rw [← hxn.out] at y05
       replace r5 := hide r5; replace E5 := hide E5; replace m5 := hide m5; replace M5 := hide M5)
    | (at_builtin; refine list_app (.tmp 42) (.tmp 44) 25 5 _ 1 1 (ic .u8) rfl rfl (ic_len _) (ic_one _) Try.underlying25 elem5 (.slice (some ⟨g4, 0, none⟩) 20 20) (cachL ⟨true, true, true⟩) (some ⟨g5, 0, none⟩) 12 12 (ctlL ⟨true, true, true⟩) rfl rfl (r4.out.mod m5.out (by simp)) (r5.out.rd (ic_len _) rfl) (by simp [maxLen, cachL]) (by simp [cachL]) ?_
       intro v6 w6 h6 q6 a6
       have o4b := o4
       simp at o4b
       have g6m : Mod (fun j => some g4 = some j) w5 w6 := grown_mod q6
       obtain ⟨b7, c7, e6, -⟩ := h6.some_ (by simp [cachL])
       replace e6 : v6 = .slice (some ⟨b7, 0, none⟩) 32 c7 := e6
       have o6 : w.heap.size + 1 + 1 ≤ b7 := own_new a6 e6 (fun j hj => by have e : g4 = j := Option.some.inj hj; omega) (by omega)
       have E6 := E5.out.mod g6m (fun h => by have e := Option.some.inj h; omega) (fun h => by have e := Option.some.inj h; omega) (fun h => by have e := Option.some.inj h; omega)
       have M6 := M5.out.trans g6m (fun i hi e => by have e := Option.some.inj e; omega)
       subst e6
       have z6 := E6.size
       have za6 : w.heap.size < w6.heap.size := by omega
       have zb6 : w.heap.size < w6.heap.size + 1 := by omega
       have zc6 : w.heap.size + 1 < w6.heap.size + 1 := by omega
       have zp6 : p < w6.heap.size := by omega
       obtain ⟨x16, x96, x106⟩ := E6.cells
       obtain ⟨y06, y16⟩ := E6.rg.cells
       rw [← hxn.out] at y06
       replace h6 : Row w6 5 1 (ic .u8) (.slice (some ⟨b7, 0, none⟩) 32 c7) (cachL ⟨true, true, true⟩ ++ ctlL ⟨true, true, true⟩) := h6
       clear q6 a6 g6m
       have r6 := hide h6
       clear h6
       replace E6 := hide E6; replace M6 := hide M6)
    | (at_builtin; refine list_app (.tmp 66) (.tmp 67) 25 5 _ 1 1 (ic .u8) rfl rfl (ic_len _) (ic_one _) Try.underlying25 elem5 (.slice (some ⟨w6.heap.size, 0, none⟩) 4 4) [35, 0, 16, 0] (some ⟨b7, 0, none⟩) 32 c7 (cachL ⟨true, true, true⟩ ++ ctlL ⟨true, true, true⟩) rfl rfl (row_lit (l := [35, 0, 16, 0]) (heap_alloc_new _ _) (by simp)) (((r6.out.mod (((Mod.refl (fun _ => False) w6).alloc (.cells #[.int .u8 35, .int .u8 0, .int .u8 16, .int .u8 0] 5))) (by simp))).rd (ic_len _) rfl) (by simp [maxLen]) (by simp) ?_
       intro v9 w9 h9 g9 a9
       have mal := ((Mod.refl (fun _ => False) w6).alloc (.cells #[.int .u8 35, .int .u8 0, .int .u8 16, .int .u8 0] 5))
       have g9m : Mod (fun j => some (w6.heap.size) = some j) (w6.alloc (.cells #[.int .u8 35, .int .u8 0, .int .u8 16, .int .u8 0] 5)) w9 := grown_mod g9
       obtain ⟨b9, c9, e9, -⟩ := h9.some_ (by simp)
       replace e9 : v9 = .slice (some ⟨b9, 0, none⟩) 36 c9 := e9
       have o9 : w6.heap.size ≤ b9 := own_new a9 e9 (fun j hj => by have e : w6.heap.size = j := Option.some.inj hj; omega) (by simp <;> omega)
       have E9 := (E6.out.q mal).mod g9m (fun h => by have e := Option.some.inj h; omega) (fun h => by have e := Option.some.inj h; omega) (fun h => by have e := Option.some.inj h; omega)
       have M9 := (M6.out.trans mal (by simp)).trans g9m (fun i hi e => by have e := Option.some.inj e; omega)
       have hb9 := E9.2.1
       subst e9
       clear g9 a9 g9m mal
       replace E9 := hide E9; replace M9 := hide M9; obtain ⟨u0, u1, u2, u3, u4, u5, u6, u7⟩ := eights hb9
       have hx9 : w.heap.size + 1 < w9.heap.size := (Array.getElem?_eq_some_iff.1 hb9).1
       have fz : ∀ j, w9.frozen? ⟨w.heap.size + 1, j, none⟩ = false := fun j => frozen_of_row _ _ _ _ _ hb9
       have f0 := fz 0; have f1 := fz 1; have f2 := fz 2; have f3 := fz 3; have f4 := fz 4; have f5 := fz 5; have f6 := fz 6; have f7 := fz 7
       clear fz
       replace h9 := hide h9; replace hb9 := hide hb9))
  obtain ⟨hg10, hm10⟩ := set8 hb9.out (.int .u8 0) (.int .u16 0) (.int .u64 0) (.bool false) (.int .i64 0) (.int .i64 0) (.bool false) (.bool false)
  generalize ((((((((w9.setCell ⟨w.heap.size + 1, 0, none⟩ (.int .u8 0)).setCell ⟨w.heap.size + 1, 1, none⟩ (.int .u16 0)).setCell ⟨w.heap.size + 1, 2, none⟩ (.int .u64 0)).setCell ⟨w.heap.size + 1, 3, none⟩ (.bool false)).setCell ⟨w.heap.size + 1, 4, none⟩ (.int .i64 0)).setCell ⟨w.heap.size + 1, 5, none⟩ (.int .i64 0)).setCell ⟨w.heap.size + 1, 6, none⟩ (.bool false)).setCell ⟨w.heap.size + 1, 7, none⟩ (.bool false)) = w10 at *
  obtain ⟨c0, c1, c2, c3, c4, c5, c6, c7⟩ := eights hg10
  have M10 := M9.out.trans hm10 (fun i hi e => by omega)
  have hne : b9 ≠ w.heap.size + 1 := by omega
  have h10 := h9.out.mod hm10 (fun k hk e => hne ((Option.some.inj hk).trans e))
  exact bodyPost_ret (v := .tuple #[.slice (some ⟨b9, 0, none⟩) 36 c9, .agg #[.int .u8 0, .int .u16 0, .int .u64 0, .bool false, .int .i64 0, .int .i64 0, .bool false, .bool false], .bool true]) (by simp [results, Try.results17, go_sem, c0, c1, c2, c3, c4, c5, c6, c7]) rfl
    ⟨b9, c9, by rw [hsl.out]; rfl, by rw [hsl.out]; exact h10, M10, by omega⟩
set_option maxRecDepth 100000 in
set_option maxHeartbeats 2000000 in
theorem rsense_1_63_FT (p : Nat) (c : C) (n s : V) (w : World) (hpg : RG w p (bitsV n) (bitsV s)) (hc : c.control = 1) (hp : c.page = 63) (hl : c.long = false) (hd : n.c = true) :
    Calls Try.prog 17 #[.pointer (some ⟨p, 0, none⟩), cv c] w (Told c n s w) := by
  have hsl : senseL c n s = headL false 144 32 ++ bodyL 63 ⟨true, true, true⟩ := by
    simp [senseL, hp, hl, hd, devB, hc, bodyL, vOf, cachL, ctlL]
  have hq := dev_of n
  rw [hd] at hq
  replace hq : Int.tdiv (bitsV n) 4 = 1 := hq
  obtain ⟨kind, long, lba, blocks, alloc, fua, prot, unmap, evpd, page, control, save, service, type, bytes⟩ := c
  replace hp : page = 63 := hp
  replace hl : long = false := hl
  subst hp; subst hl
  replace hc : control = 1 := hc
  subst hc
  have m0 : Mod (fun _ => False) w ((w.alloc (.cells (cc ⟨kind, false, lba, blocks, alloc, fua, prot, unmap, evpd, 63, 1, save, service, type, bytes⟩) 36)).alloc (.cells #[.int .u8 0, .int .u16 0, .int .u64 0, .bool false, .int .i64 0, .int .i64 0, .bool false, .bool false] 31)) := ((Mod.refl _ w).alloc _).alloc _
  have E0 : REnv ((w.alloc (.cells (cc ⟨kind, false, lba, blocks, alloc, fua, prot, unmap, evpd, 63, 1, save, service, type, bytes⟩) 36)).alloc (.cells #[.int .u8 0, .int .u16 0, .int .u64 0, .bool false, .int .i64 0, .int .i64 0, .bool false, .bool false] 31)) w.heap.size ⟨kind, false, lba, blocks, alloc, fua, prot, unmap, evpd, 63, 1, save, service, type, bytes⟩ p (bitsV n) (bitsV s) := ⟨heap_alloc2_old _ _ _, heap_alloc2_new _ _ _, hpg.mod m0 (by simp)⟩
  have hp0 : p < w.heap.size := hpg.lt
  have hp1 : p < w.heap.size + 1 := by omega
  obtain ⟨y0, y1⟩ := hpg.cells
  obtain ⟨xn, hxn⟩ : ∃ xn, xn = bitsV n := ⟨_, rfl⟩
  obtain ⟨xs, hxs⟩ : ∃ xs, xs = bitsV s := ⟨_, rfl⟩
  rw [← hxn] at hq y0
  rw [← hxs] at y1
  clear hpg
  replace m0 := hide m0; replace E0 := hide E0; replace hsl := hide hsl; replace hxn := hide hxn; replace hxs := hide hxs
  go_enter Try.func17, Try.ntmps17
  go_wp2_with (first
    | (go_at_call 23; (with_reducible refine (rpage8x ⟨true, true, true⟩ 7 rfl _).mono ?_); rintro e w4 ⟨g4, rfl, r4, m4, o4⟩
       have E4 := E0.out.q m4
       have M4 := m0.out.trans m4 (by simp)
       have z4 := E4.size
       have za4 : w.heap.size < w4.heap.size := by omega
       have zb4 : w.heap.size < w4.heap.size + 1 := by omega
       have zc4 : w.heap.size + 1 < w4.heap.size + 1 := by omega
       have zp4 : p < w4.heap.size := by omega
       obtain ⟨x14, x94, x104⟩ := E4.cells
       obtain ⟨y04, y14⟩ := E4.rg.cells
       rw [← hxn.out] at y04
       replace r4 := hide r4; replace E4 := hide E4; replace m4 := hide m4; replace M4 := hide M4)
    | (go_at_call 23; (with_reducible refine (rpage10x ⟨true, true, true⟩ 7 rfl _).mono ?_); rintro e w5 ⟨g5, rfl, r5, m5, o5⟩
       have E5 := E4.out.q m5
       have M5 := M4.out.trans m5 (by simp)
       have z5 := E5.size
       have za5 : w.heap.size < w5.heap.size := by omega
       have zb5 : w.heap.size < w5.heap.size + 1 := by omega
       have zc5 : w.heap.size + 1 < w5.heap.size + 1 := by omega
       have zp5 : p < w5.heap.size := by omega
       obtain ⟨x15, x95, x105⟩ := E5.cells
       obtain ⟨y05, y15⟩ := E5.rg.cells
       rw [← hxn.out] at y05
       replace r5 := hide r5; replace E5 := hide E5; replace m5 := hide m5; replace M5 := hide M5)
    | (at_builtin; refine list_app (.tmp 42) (.tmp 44) 25 5 _ 1 1 (ic .u8) rfl rfl (ic_len _) (ic_one _) Try.underlying25 elem5 (.slice (some ⟨g4, 0, none⟩) 20 20) (cachL ⟨true, true, true⟩) (some ⟨g5, 0, none⟩) 12 12 (ctlL ⟨true, true, true⟩) rfl rfl (r4.out.mod m5.out (by simp)) (r5.out.rd (ic_len _) rfl) (by simp [maxLen, cachL]) (by simp [cachL]) ?_
       intro v6 w6 h6 q6 a6
       have o4b := o4
       simp at o4b
       have g6m : Mod (fun j => some g4 = some j) w5 w6 := grown_mod q6
       obtain ⟨b7, c7, e6, -⟩ := h6.some_ (by simp [cachL])
       replace e6 : v6 = .slice (some ⟨b7, 0, none⟩) 32 c7 := e6
       have o6 : w.heap.size + 1 + 1 ≤ b7 := own_new a6 e6 (fun j hj => by have e : g4 = j := Option.some.inj hj; omega) (by omega)
       have E6 := E5.out.mod g6m (fun h => by have e := Option.some.inj h; omega) (fun h => by have e := Option.some.inj h; omega) (fun h => by have e := Option.some.inj h; omega)
       have M6 := M5.out.trans g6m (fun i hi e => by have e := Option.some.inj e; omega)
       subst e6
       have z6 := E6.size
       have za6 : w.heap.size < w6.heap.size := by omega
       have zb6 : w.heap.size < w6.heap.size + 1 := by omega
       have zc6 : w.heap.size + 1 < w6.heap.size + 1 := by omega
       have zp6 : p < w6.heap.size := by omega
       obtain ⟨x16, x96, x106⟩ := E6.cells
       obtain ⟨y06, y16⟩ := E6.rg.cells
       rw [← hxn.out] at y06
       replace h6 : Row w6 5 1 (ic .u8) (.slice (some ⟨b7, 0, none⟩) 32 c7) (cachL ⟨true, true, true⟩ ++ ctlL ⟨true, true, true⟩) := h6
       clear q6 a6 g6m
       have r6 := hide h6
       clear h6
       replace E6 := hide E6; replace M6 := hide M6)
    | (at_builtin; refine list_app (.tmp 66) (.tmp 67) 25 5 _ 1 1 (ic .u8) rfl rfl (ic_len _) (ic_one _) Try.underlying25 elem5 (.slice (some ⟨w6.heap.size, 0, none⟩) 4 4) [35, 0, 144, 0] (some ⟨b7, 0, none⟩) 32 c7 (cachL ⟨true, true, true⟩ ++ ctlL ⟨true, true, true⟩) rfl rfl (row_lit (l := [35, 0, 144, 0]) (heap_alloc_new _ _) (by simp)) (((r6.out.mod (((Mod.refl (fun _ => False) w6).alloc (.cells #[.int .u8 35, .int .u8 0, .int .u8 144, .int .u8 0] 5))) (by simp))).rd (ic_len _) rfl) (by simp [maxLen]) (by simp) ?_
       intro v9 w9 h9 g9 a9
       have mal := ((Mod.refl (fun _ => False) w6).alloc (.cells #[.int .u8 35, .int .u8 0, .int .u8 144, .int .u8 0] 5))
       have g9m : Mod (fun j => some (w6.heap.size) = some j) (w6.alloc (.cells #[.int .u8 35, .int .u8 0, .int .u8 144, .int .u8 0] 5)) w9 := grown_mod g9
       obtain ⟨b9, c9, e9, -⟩ := h9.some_ (by simp)
       replace e9 : v9 = .slice (some ⟨b9, 0, none⟩) 36 c9 := e9
       have o9 : w6.heap.size ≤ b9 := own_new a9 e9 (fun j hj => by have e : w6.heap.size = j := Option.some.inj hj; omega) (by simp <;> omega)
       have E9 := (E6.out.q mal).mod g9m (fun h => by have e := Option.some.inj h; omega) (fun h => by have e := Option.some.inj h; omega) (fun h => by have e := Option.some.inj h; omega)
       have M9 := (M6.out.trans mal (by simp)).trans g9m (fun i hi e => by have e := Option.some.inj e; omega)
       have hb9 := E9.2.1
       subst e9
       clear g9 a9 g9m mal
       replace E9 := hide E9; replace M9 := hide M9; obtain ⟨u0, u1, u2, u3, u4, u5, u6, u7⟩ := eights hb9
       have hx9 : w.heap.size + 1 < w9.heap.size := (Array.getElem?_eq_some_iff.1 hb9).1
       have fz : ∀ j, w9.frozen? ⟨w.heap.size + 1, j, none⟩ = false := fun j => frozen_of_row _ _ _ _ _ hb9
       have f0 := fz 0; have f1 := fz 1; have f2 := fz 2; have f3 := fz 3; have f4 := fz 4; have f5 := fz 5; have f6 := fz 6; have f7 := fz 7
       clear fz
       replace h9 := hide h9; replace hb9 := hide hb9))
  obtain ⟨hg10, hm10⟩ := set8 hb9.out (.int .u8 0) (.int .u16 0) (.int .u64 0) (.bool false) (.int .i64 0) (.int .i64 0) (.bool false) (.bool false)
  generalize ((((((((w9.setCell ⟨w.heap.size + 1, 0, none⟩ (.int .u8 0)).setCell ⟨w.heap.size + 1, 1, none⟩ (.int .u16 0)).setCell ⟨w.heap.size + 1, 2, none⟩ (.int .u64 0)).setCell ⟨w.heap.size + 1, 3, none⟩ (.bool false)).setCell ⟨w.heap.size + 1, 4, none⟩ (.int .i64 0)).setCell ⟨w.heap.size + 1, 5, none⟩ (.int .i64 0)).setCell ⟨w.heap.size + 1, 6, none⟩ (.bool false)).setCell ⟨w.heap.size + 1, 7, none⟩ (.bool false)) = w10 at *
  obtain ⟨c0, c1, c2, c3, c4, c5, c6, c7⟩ := eights hg10
  have M10 := M9.out.trans hm10 (fun i hi e => by omega)
  have hne : b9 ≠ w.heap.size + 1 := by omega
  have h10 := h9.out.mod hm10 (fun k hk e => hne ((Option.some.inj hk).trans e))
  exact bodyPost_ret (v := .tuple #[.slice (some ⟨b9, 0, none⟩) 36 c9, .agg #[.int .u8 0, .int .u16 0, .int .u64 0, .bool false, .int .i64 0, .int .i64 0, .bool false, .bool false], .bool true]) (by simp [results, Try.results17, go_sem, c0, c1, c2, c3, c4, c5, c6, c7]) rfl
    ⟨b9, c9, by rw [hsl.out]; rfl, by rw [hsl.out]; exact h10, M10, by omega⟩
set_option maxRecDepth 100000 in
set_option maxHeartbeats 2000000 in
theorem rsense_1_63_TF (p : Nat) (c : C) (n s : V) (w : World) (hpg : RG w p (bitsV n) (bitsV s)) (hc : c.control = 1) (hp : c.page = 63) (hl : c.long = true) (hd : n.c = false) :
    Calls Try.prog 17 #[.pointer (some ⟨p, 0, none⟩), cv c] w (Told c n s w) := by
  have hsl : senseL c n s = headL true 16 32 ++ bodyL 63 ⟨true, true, true⟩ := by
    simp [senseL, hp, hl, hd, devB, hc, bodyL, vOf, cachL, ctlL]
  have hq := dev_of n
  rw [hd] at hq
  replace hq : Int.tdiv (bitsV n) 4 = 0 := hq
  obtain ⟨kind, long, lba, blocks, alloc, fua, prot, unmap, evpd, page, control, save, service, type, bytes⟩ := c
  replace hp : page = 63 := hp
  replace hl : long = true := hl
  subst hp; subst hl
  replace hc : control = 1 := hc
  subst hc
  have m0 : Mod (fun _ => False) w ((w.alloc (.cells (cc ⟨kind, true, lba, blocks, alloc, fua, prot, unmap, evpd, 63, 1, save, service, type, bytes⟩) 36)).alloc (.cells #[.int .u8 0, .int .u16 0, .int .u64 0, .bool false, .int .i64 0, .int .i64 0, .bool false, .bool false] 31)) := ((Mod.refl _ w).alloc _).alloc _
  have E0 : REnv ((w.alloc (.cells (cc ⟨kind, true, lba, blocks, alloc, fua, prot, unmap, evpd, 63, 1, save, service, type, bytes⟩) 36)).alloc (.cells #[.int .u8 0, .int .u16 0, .int .u64 0, .bool false, .int .i64 0, .int .i64 0, .bool false, .bool false] 31)) w.heap.size ⟨kind, true, lba, blocks, alloc, fua, prot, unmap, evpd, 63, 1, save, service, type, bytes⟩ p (bitsV n) (bitsV s) := ⟨heap_alloc2_old _ _ _, heap_alloc2_new _ _ _, hpg.mod m0 (by simp)⟩
  have hp0 : p < w.heap.size := hpg.lt
  have hp1 : p < w.heap.size + 1 := by omega
  obtain ⟨y0, y1⟩ := hpg.cells
  obtain ⟨xn, hxn⟩ : ∃ xn, xn = bitsV n := ⟨_, rfl⟩
  obtain ⟨xs, hxs⟩ : ∃ xs, xs = bitsV s := ⟨_, rfl⟩
  rw [← hxn] at hq y0
  rw [← hxs] at y1
  clear hpg
  replace m0 := hide m0; replace E0 := hide E0; replace hsl := hide hsl; replace hxn := hide hxn; replace hxs := hide hxs
  go_enter Try.func17, Try.ntmps17
  go_wp2_with (first
    | (go_at_call 23; (with_reducible refine (rpage8x ⟨true, true, true⟩ 7 rfl _).mono ?_); rintro e w4 ⟨g4, rfl, r4, m4, o4⟩
       have E4 := E0.out.q m4
       have M4 := m0.out.trans m4 (by simp)
       have z4 := E4.size
       have za4 : w.heap.size < w4.heap.size := by omega
       have zb4 : w.heap.size < w4.heap.size + 1 := by omega
       have zc4 : w.heap.size + 1 < w4.heap.size + 1 := by omega
       have zp4 : p < w4.heap.size := by omega
       obtain ⟨x14, x94, x104⟩ := E4.cells
       obtain ⟨y04, y14⟩ := E4.rg.cells
       rw [← hxn.out] at y04
       replace r4 := hide r4; replace E4 := hide E4; replace m4 := hide m4; replace M4 := hide M4)
    | (go_at_call 23; (with_reducible refine (rpage10x ⟨true, true, true⟩ 7 rfl _).mono ?_); rintro e w5 ⟨g5, rfl, r5, m5, o5⟩
       have E5 := E4.out.q m5
       have M5 := M4.out.trans m5 (by simp)
       have z5 := E5.size
       have za5 : w.heap.size < w5.heap.size := by omega
       have zb5 : w.heap.size < w5.heap.size + 1 := by omega
       have zc5 : w.heap.size + 1 < w5.heap.size + 1 := by omega
       have zp5 : p < w5.heap.size := by omega
       obtain ⟨x15, x95, x105⟩ := E5.cells
       obtain ⟨y05, y15⟩ := E5.rg.cells
       rw [← hxn.out] at y05
       replace r5 := hide r5; replace E5 := hide E5; replace m5 := hide m5; replace M5 := hide M5)
    | (at_builtin; refine list_app (.tmp 42) (.tmp 44) 25 5 _ 1 1 (ic .u8) rfl rfl (ic_len _) (ic_one _) Try.underlying25 elem5 (.slice (some ⟨g4, 0, none⟩) 20 20) (cachL ⟨true, true, true⟩) (some ⟨g5, 0, none⟩) 12 12 (ctlL ⟨true, true, true⟩) rfl rfl (r4.out.mod m5.out (by simp)) (r5.out.rd (ic_len _) rfl) (by simp [maxLen, cachL]) (by simp [cachL]) ?_
       intro v6 w6 h6 q6 a6
       have o4b := o4
       simp at o4b
       have g6m : Mod (fun j => some g4 = some j) w5 w6 := grown_mod q6
       obtain ⟨b7, c7, e6, -⟩ := h6.some_ (by simp [cachL])
       replace e6 : v6 = .slice (some ⟨b7, 0, none⟩) 32 c7 := e6
       have o6 : w.heap.size + 1 + 1 ≤ b7 := own_new a6 e6 (fun j hj => by have e : g4 = j := Option.some.inj hj; omega) (by omega)
       have E6 := E5.out.mod g6m (fun h => by have e := Option.some.inj h; omega) (fun h => by have e := Option.some.inj h; omega) (fun h => by have e := Option.some.inj h; omega)
       have M6 := M5.out.trans g6m (fun i hi e => by have e := Option.some.inj e; omega)
       subst e6
       have z6 := E6.size
       have za6 : w.heap.size < w6.heap.size := by omega
       have zb6 : w.heap.size < w6.heap.size + 1 := by omega
       have zc6 : w.heap.size + 1 < w6.heap.size + 1 := by omega
       have zp6 : p < w6.heap.size := by omega
       obtain ⟨x16, x96, x106⟩ := E6.cells
       obtain ⟨y06, y16⟩ := E6.rg.cells
       rw [← hxn.out] at y06
       replace h6 : Row w6 5 1 (ic .u8) (.slice (some ⟨b7, 0, none⟩) 32 c7) (cachL ⟨true, true, true⟩ ++ ctlL ⟨true, true, true⟩) := h6
       clear q6 a6 g6m
       have r6 := hide h6
       clear h6
       replace E6 := hide E6; replace M6 := hide M6)
    | (at_builtin; refine list_app (.tmp 66) (.tmp 67) 25 5 _ 1 1 (ic .u8) rfl rfl (ic_len _) (ic_one _) Try.underlying25 elem5 (.slice (some ⟨w6.heap.size + 1, 0, none⟩) 8 8) [0, 38, 0, 16, 0, 0, 0, 0] (some ⟨b7, 0, none⟩) 32 c7 (cachL ⟨true, true, true⟩ ++ ctlL ⟨true, true, true⟩) rfl rfl (row_lit (l := [0, 38, 0, 16, 0, 0, 0, 0]) (alloc2 _ _ _) (by simp)) (((r6.out.mod (((Mod.refl (fun _ => False) w6).alloc (.cells #[.int .u8 35, .int .u8 0, .int .u8 16, .int .u8 0] 5)).alloc (.cells #[.int .u8 0, .int .u8 38, .int .u8 0, .int .u8 16, .int .u8 0, .int .u8 0, .int .u8 0, .int .u8 0] 5)) (by simp))).rd (ic_len _) rfl) (by simp [maxLen]) (by simp) ?_
       intro v9 w9 h9 g9 a9
       have mal := ((Mod.refl (fun _ => False) w6).alloc (.cells #[.int .u8 35, .int .u8 0, .int .u8 16, .int .u8 0] 5)).alloc (.cells #[.int .u8 0, .int .u8 38, .int .u8 0, .int .u8 16, .int .u8 0, .int .u8 0, .int .u8 0, .int .u8 0] 5)
       have g9m : Mod (fun j => some (w6.heap.size + 1) = some j) ((w6.alloc (.cells #[.int .u8 35, .int .u8 0, .int .u8 16, .int .u8 0] 5)).alloc (.cells #[.int .u8 0, .int .u8 38, .int .u8 0, .int .u8 16, .int .u8 0, .int .u8 0, .int .u8 0, .int .u8 0] 5)) w9 := grown_mod g9
       obtain ⟨b9, c9, e9, -⟩ := h9.some_ (by simp)
       replace e9 : v9 = .slice (some ⟨b9, 0, none⟩) 40 c9 := e9
       have o9 : w6.heap.size ≤ b9 := own_new a9 e9 (fun j hj => by have e : w6.heap.size + 1 = j := Option.some.inj hj; omega) (by simp <;> omega)
       have E9 := (E6.out.q mal).mod g9m (fun h => by have e := Option.some.inj h; omega) (fun h => by have e := Option.some.inj h; omega) (fun h => by have e := Option.some.inj h; omega)
       have M9 := (M6.out.trans mal (by simp)).trans g9m (fun i hi e => by have e := Option.some.inj e; omega)
       have hb9 := E9.2.1
       subst e9
       clear g9 a9 g9m mal
       replace E9 := hide E9; replace M9 := hide M9; obtain ⟨u0, u1, u2, u3, u4, u5, u6, u7⟩ := eights hb9
       have hx9 : w.heap.size + 1 < w9.heap.size := (Array.getElem?_eq_some_iff.1 hb9).1
       have fz : ∀ j, w9.frozen? ⟨w.heap.size + 1, j, none⟩ = false := fun j => frozen_of_row _ _ _ _ _ hb9
       have f0 := fz 0; have f1 := fz 1; have f2 := fz 2; have f3 := fz 3; have f4 := fz 4; have f5 := fz 5; have f6 := fz 6; have f7 := fz 7
       clear fz
       replace h9 := hide h9; replace hb9 := hide hb9))
  obtain ⟨hg10, hm10⟩ := set8 hb9.out (.int .u8 0) (.int .u16 0) (.int .u64 0) (.bool false) (.int .i64 0) (.int .i64 0) (.bool false) (.bool false)
  generalize ((((((((w9.setCell ⟨w.heap.size + 1, 0, none⟩ (.int .u8 0)).setCell ⟨w.heap.size + 1, 1, none⟩ (.int .u16 0)).setCell ⟨w.heap.size + 1, 2, none⟩ (.int .u64 0)).setCell ⟨w.heap.size + 1, 3, none⟩ (.bool false)).setCell ⟨w.heap.size + 1, 4, none⟩ (.int .i64 0)).setCell ⟨w.heap.size + 1, 5, none⟩ (.int .i64 0)).setCell ⟨w.heap.size + 1, 6, none⟩ (.bool false)).setCell ⟨w.heap.size + 1, 7, none⟩ (.bool false)) = w10 at *
  obtain ⟨c0, c1, c2, c3, c4, c5, c6, c7⟩ := eights hg10
  have M10 := M9.out.trans hm10 (fun i hi e => by omega)
  have hne : b9 ≠ w.heap.size + 1 := by omega
  have h10 := h9.out.mod hm10 (fun k hk e => hne ((Option.some.inj hk).trans e))
  exact bodyPost_ret (v := .tuple #[.slice (some ⟨b9, 0, none⟩) 40 c9, .agg #[.int .u8 0, .int .u16 0, .int .u64 0, .bool false, .int .i64 0, .int .i64 0, .bool false, .bool false], .bool true]) (by simp [results, Try.results17, go_sem, c0, c1, c2, c3, c4, c5, c6, c7]) rfl
    ⟨b9, c9, by rw [hsl.out]; rfl, by rw [hsl.out]; exact h10, M10, by omega⟩
set_option maxRecDepth 100000 in
set_option maxHeartbeats 2000000 in
theorem rsense_1_63_TT (p : Nat) (c : C) (n s : V) (w : World) (hpg : RG w p (bitsV n) (bitsV s)) (hc : c.control = 1) (hp : c.page = 63) (hl : c.long = true) (hd : n.c = true) :
    Calls Try.prog 17 #[.pointer (some ⟨p, 0, none⟩), cv c] w (Told c n s w) := by
  have hsl : senseL c n s = headL true 144 32 ++ bodyL 63 ⟨true, true, true⟩ := by
    simp [senseL, hp, hl, hd, devB, hc, bodyL, vOf, cachL, ctlL]
  have hq := dev_of n
  rw [hd] at hq
  replace hq : Int.tdiv (bitsV n) 4 = 1 := hq
  obtain ⟨kind, long, lba, blocks, alloc, fua, prot, unmap, evpd, page, control, save, service, type, bytes⟩ := c
  replace hp : page = 63 := hp
  replace hl : long = true := hl
  subst hp; subst hl
  replace hc : control = 1 := hc
  subst hc
  have m0 : Mod (fun _ => False) w ((w.alloc (.cells (cc ⟨kind, true, lba, blocks, alloc, fua, prot, unmap, evpd, 63, 1, save, service, type, bytes⟩) 36)).alloc (.cells #[.int .u8 0, .int .u16 0, .int .u64 0, .bool false, .int .i64 0, .int .i64 0, .bool false, .bool false] 31)) := ((Mod.refl _ w).alloc _).alloc _
  have E0 : REnv ((w.alloc (.cells (cc ⟨kind, true, lba, blocks, alloc, fua, prot, unmap, evpd, 63, 1, save, service, type, bytes⟩) 36)).alloc (.cells #[.int .u8 0, .int .u16 0, .int .u64 0, .bool false, .int .i64 0, .int .i64 0, .bool false, .bool false] 31)) w.heap.size ⟨kind, true, lba, blocks, alloc, fua, prot, unmap, evpd, 63, 1, save, service, type, bytes⟩ p (bitsV n) (bitsV s) := ⟨heap_alloc2_old _ _ _, heap_alloc2_new _ _ _, hpg.mod m0 (by simp)⟩
  have hp0 : p < w.heap.size := hpg.lt
  have hp1 : p < w.heap.size + 1 := by omega
  obtain ⟨y0, y1⟩ := hpg.cells
  obtain ⟨xn, hxn⟩ : ∃ xn, xn = bitsV n := ⟨_, rfl⟩
  obtain ⟨xs, hxs⟩ : ∃ xs, xs = bitsV s := ⟨_, rfl⟩
  rw [← hxn] at hq y0
  rw [← hxs] at y1
  clear hpg
  replace m0 := hide m0; replace E0 := hide E0; replace hsl := hide hsl; replace hxn := hide hxn; replace hxs := hide hxs
  go_enter Try.func17, Try.ntmps17
  go_wp2_with (first
    | (go_at_call 23; (with_reducible refine (rpage8x ⟨true, true, true⟩ 7 rfl _).mono ?_); rintro e w4 ⟨g4, rfl, r4, m4, o4⟩
       have E4 := E0.out.q m4
       have M4 := m0.out.trans m4 (by simp)
       have z4 := E4.size
       have za4 : w.heap.size < w4.heap.size := by omega
       have zb4 : w.heap.size < w4.heap.size + 1 := by omega
       have zc4 : w.heap.size + 1 < w4.heap.size + 1 := by omega
       have zp4 : p < w4.heap.size := by omega
       obtain ⟨x14, x94, x104⟩ := E4.cells
       obtain ⟨y04, y14⟩ := E4.rg.cells
       rw [← hxn.out] at y04
       replace r4 := hide r4; replace E4 := hide E4; replace m4 := hide m4; replace M4 := hide M4)
    | (go_at_call 23; (with_reducible refine (rpage10x ⟨true, true, true⟩ 7 rfl _).mono ?_); rintro e w5 ⟨g5, rfl, r5, m5, o5⟩
       have E5 := E4.out.q m5
       have M5 := M4.out.trans m5 (by simp)
       have z5 := E5.size
       have za5 : w.heap.size < w5.heap.size := by omega
       have zb5 : w.heap.size < w5.heap.size + 1 := by omega
       have zc5 : w.heap.size + 1 < w5.heap.size + 1 := by omega
       have zp5 : p < w5.heap.size := by omega
       obtain ⟨x15, x95, x105⟩ := E5.cells
       obtain ⟨y05, y15⟩ := E5.rg.cells
       rw [← hxn.out] at y05
       replace r5 := hide r5; replace E5 := hide E5; replace m5 := hide m5; replace M5 := hide M5)
    | (at_builtin; refine list_app (.tmp 42) (.tmp 44) 25 5 _ 1 1 (ic .u8) rfl rfl (ic_len _) (ic_one _) Try.underlying25 elem5 (.slice (some ⟨g4, 0, none⟩) 20 20) (cachL ⟨true, true, true⟩) (some ⟨g5, 0, none⟩) 12 12 (ctlL ⟨true, true, true⟩) rfl rfl (r4.out.mod m5.out (by simp)) (r5.out.rd (ic_len _) rfl) (by simp [maxLen, cachL]) (by simp [cachL]) ?_
       intro v6 w6 h6 q6 a6
       have o4b := o4
       simp at o4b
       have g6m : Mod (fun j => some g4 = some j) w5 w6 := grown_mod q6
       obtain ⟨b7, c7, e6, -⟩ := h6.some_ (by simp [cachL])
       replace e6 : v6 = .slice (some ⟨b7, 0, none⟩) 32 c7 := e6
       have o6 : w.heap.size + 1 + 1 ≤ b7 := own_new a6 e6 (fun j hj => by have e : g4 = j := Option.some.inj hj; omega) (by omega)
       have E6 := E5.out.mod g6m (fun h => by have e := Option.some.inj h; omega) (fun h => by have e := Option.some.inj h; omega) (fun h => by have e := Option.some.inj h; omega)
       have M6 := M5.out.trans g6m (fun i hi e => by have e := Option.some.inj e; omega)
       subst e6
       have z6 := E6.size
       have za6 : w.heap.size < w6.heap.size := by omega
       have zb6 : w.heap.size < w6.heap.size + 1 := by omega
       have zc6 : w.heap.size + 1 < w6.heap.size + 1 := by omega
       have zp6 : p < w6.heap.size := by omega
       obtain ⟨x16, x96, x106⟩ := E6.cells
       obtain ⟨y06, y16⟩ := E6.rg.cells
       rw [← hxn.out] at y06
       replace h6 : Row w6 5 1 (ic .u8) (.slice (some ⟨b7, 0, none⟩) 32 c7) (cachL ⟨true, true, true⟩ ++ ctlL ⟨true, true, true⟩) := h6
       clear q6 a6 g6m
       have r6 := hide h6
       clear h6
       replace E6 := hide E6; replace M6 := hide M6)
    | (at_builtin; refine list_app (.tmp 66) (.tmp 67) 25 5 _ 1 1 (ic .u8) rfl rfl (ic_len _) (ic_one _) Try.underlying25 elem5 (.slice (some ⟨w6.heap.size + 1, 0, none⟩) 8 8) [0, 38, 0, 144, 0, 0, 0, 0] (some ⟨b7, 0, none⟩) 32 c7 (cachL ⟨true, true, true⟩ ++ ctlL ⟨true, true, true⟩) rfl rfl (row_lit (l := [0, 38, 0, 144, 0, 0, 0, 0]) (alloc2 _ _ _) (by simp)) (((r6.out.mod (((Mod.refl (fun _ => False) w6).alloc (.cells #[.int .u8 35, .int .u8 0, .int .u8 144, .int .u8 0] 5)).alloc (.cells #[.int .u8 0, .int .u8 38, .int .u8 0, .int .u8 144, .int .u8 0, .int .u8 0, .int .u8 0, .int .u8 0] 5)) (by simp))).rd (ic_len _) rfl) (by simp [maxLen]) (by simp) ?_
       intro v9 w9 h9 g9 a9
       have mal := ((Mod.refl (fun _ => False) w6).alloc (.cells #[.int .u8 35, .int .u8 0, .int .u8 144, .int .u8 0] 5)).alloc (.cells #[.int .u8 0, .int .u8 38, .int .u8 0, .int .u8 144, .int .u8 0, .int .u8 0, .int .u8 0, .int .u8 0] 5)
       have g9m : Mod (fun j => some (w6.heap.size + 1) = some j) ((w6.alloc (.cells #[.int .u8 35, .int .u8 0, .int .u8 144, .int .u8 0] 5)).alloc (.cells #[.int .u8 0, .int .u8 38, .int .u8 0, .int .u8 144, .int .u8 0, .int .u8 0, .int .u8 0, .int .u8 0] 5)) w9 := grown_mod g9
       obtain ⟨b9, c9, e9, -⟩ := h9.some_ (by simp)
       replace e9 : v9 = .slice (some ⟨b9, 0, none⟩) 40 c9 := e9
       have o9 : w6.heap.size ≤ b9 := own_new a9 e9 (fun j hj => by have e : w6.heap.size + 1 = j := Option.some.inj hj; omega) (by simp <;> omega)
       have E9 := (E6.out.q mal).mod g9m (fun h => by have e := Option.some.inj h; omega) (fun h => by have e := Option.some.inj h; omega) (fun h => by have e := Option.some.inj h; omega)
       have M9 := (M6.out.trans mal (by simp)).trans g9m (fun i hi e => by have e := Option.some.inj e; omega)
       have hb9 := E9.2.1
       subst e9
       clear g9 a9 g9m mal
       replace E9 := hide E9; replace M9 := hide M9; obtain ⟨u0, u1, u2, u3, u4, u5, u6, u7⟩ := eights hb9
       have hx9 : w.heap.size + 1 < w9.heap.size := (Array.getElem?_eq_some_iff.1 hb9).1
       have fz : ∀ j, w9.frozen? ⟨w.heap.size + 1, j, none⟩ = false := fun j => frozen_of_row _ _ _ _ _ hb9
       have f0 := fz 0; have f1 := fz 1; have f2 := fz 2; have f3 := fz 3; have f4 := fz 4; have f5 := fz 5; have f6 := fz 6; have f7 := fz 7
       clear fz
       replace h9 := hide h9; replace hb9 := hide hb9))
  obtain ⟨hg10, hm10⟩ := set8 hb9.out (.int .u8 0) (.int .u16 0) (.int .u64 0) (.bool false) (.int .i64 0) (.int .i64 0) (.bool false) (.bool false)
  generalize ((((((((w9.setCell ⟨w.heap.size + 1, 0, none⟩ (.int .u8 0)).setCell ⟨w.heap.size + 1, 1, none⟩ (.int .u16 0)).setCell ⟨w.heap.size + 1, 2, none⟩ (.int .u64 0)).setCell ⟨w.heap.size + 1, 3, none⟩ (.bool false)).setCell ⟨w.heap.size + 1, 4, none⟩ (.int .i64 0)).setCell ⟨w.heap.size + 1, 5, none⟩ (.int .i64 0)).setCell ⟨w.heap.size + 1, 6, none⟩ (.bool false)).setCell ⟨w.heap.size + 1, 7, none⟩ (.bool false)) = w10 at *
  obtain ⟨c0, c1, c2, c3, c4, c5, c6, c7⟩ := eights hg10
  have M10 := M9.out.trans hm10 (fun i hi e => by omega)
  have hne : b9 ≠ w.heap.size + 1 := by omega
  have h10 := h9.out.mod hm10 (fun k hk e => hne ((Option.some.inj hk).trans e))
  exact bodyPost_ret (v := .tuple #[.slice (some ⟨b9, 0, none⟩) 40 c9, .agg #[.int .u8 0, .int .u16 0, .int .u64 0, .bool false, .int .i64 0, .int .i64 0, .bool false, .bool false], .bool true]) (by simp [results, Try.results17, go_sem, c0, c1, c2, c3, c4, c5, c6, c7]) rfl
    ⟨b9, c9, by rw [hsl.out]; rfl, by rw [hsl.out]; exact h10, M10, by omega⟩
end Go.Proofs.Ytieieinaijopnaa
