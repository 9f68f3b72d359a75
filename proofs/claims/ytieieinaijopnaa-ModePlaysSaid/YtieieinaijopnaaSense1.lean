/-
  The walk of (*mode.Pages).Sense where the page is one of the three, case 1 of the values that are asked. Condition: pages in a block of their own.
-/
import Derived.Test.YtieieinaijopnaaSense
namespace Go.Proofs.Ytieieinaijopnaa
open Go.RowKit
set_option maxRecDepth 100000 in
set_option maxHeartbeats 2000000 in
theorem sense_1_8 (p : Nat) (c : C) (n s : V) (w : World) (hpg : PG w p n s) (hc : c.control = 1) (hp : c.page = 8) :
    Calls Try.prog 10 #[.pointer (some ⟨p, 0, none⟩), cv c] w (Told c n s w) := by
  have hsl : senseL c n s = headL c.long (devB n) 20 ++ bodyL 8 ⟨true, true, true⟩ := by
    simp [senseL, hp, hc, bodyL, vOf, cachL]
  obtain ⟨kind, long, lba, blocks, alloc, fua, prot, unmap, evpd, page, control, save, service, type, bytes⟩ := c
  replace hp : page = 8 := hp
  subst hp
  replace hc : control = 1 := hc
  subst hc
  have m0 : Mod (fun _ => False) w ((w.alloc (.cells (cc ⟨kind, long, lba, blocks, alloc, fua, prot, unmap, evpd, 8, 1, save, service, type, bytes⟩) 36)).alloc (.cells #[.int .u8 0, .int .u16 0, .int .u64 0, .bool false, .int .i64 0, .int .i64 0, .bool false, .bool false] 31)) := ((Mod.refl _ w).alloc _).alloc _
  have E0 : Env ((w.alloc (.cells (cc ⟨kind, long, lba, blocks, alloc, fua, prot, unmap, evpd, 8, 1, save, service, type, bytes⟩) 36)).alloc (.cells #[.int .u8 0, .int .u16 0, .int .u64 0, .bool false, .int .i64 0, .int .i64 0, .bool false, .bool false] 31)) w.heap.size (w.heap.size + 1) ⟨kind, long, lba, blocks, alloc, fua, prot, unmap, evpd, 8, 1, save, service, type, bytes⟩ p n s := ⟨heap_alloc2_old _ _ _, heap_alloc2_new _ _ _, hpg.mod m0 (by simp)⟩
  have hz0 : w.heap.size + 1 < ((w.alloc (.cells (cc ⟨kind, long, lba, blocks, alloc, fua, prot, unmap, evpd, 8, 1, save, service, type, bytes⟩) 36)).alloc (.cells #[.int .u8 0, .int .u16 0, .int .u64 0, .bool false, .int .i64 0, .int .i64 0, .bool false, .bool false] 31)).heap.size := by simp
  generalize hW0 : (w.alloc (.cells (cc ⟨kind, long, lba, blocks, alloc, fua, prot, unmap, evpd, 8, 1, save, service, type, bytes⟩) 36)).alloc (.cells #[.int .u8 0, .int .u16 0, .int .u64 0, .bool false, .int .i64 0, .int .i64 0, .bool false, .bool false] 31) = W0 at *
  obtain ⟨cb, hcb⟩ : ∃ cb, cb = w.heap.size := ⟨_, rfl⟩
  have hp1 : p < cb := by rw [hcb]; exact hpg.lt
  clear hpg
  have hf2 := field2
  have hsn : ∀ (w : World) (a : Option Addr) (n c n' c' : Nat), (binOp .eql 25 (.slice a n c) (.slice none n' c')).run Try.prog w = .ok (.bool a.isNone) w := fun w a n c n' c' => Lib.run_eql_slice_nil w 25 5 a n c n' c' Try.underlying25
  obtain ⟨na, nb, nc⟩ := n
  replace m0 := hide m0; replace E0 := hide E0; replace hW0 := hide hW0; replace hsl := hide hsl; replace hcb := hide hcb
  cases nc
  · cases long
    · skip
      go_enter Try.func10, Try.ntmps10
      go_wp2_with (first
        | (go_at_call 12; rw [hW0.out]; (with_reducible refine (now_some p _ s _ E0.out.pg).mono ?_); rintro e w1 ⟨rfl, m1⟩
           have E1 := E0.out.q m1
           obtain ⟨f11, f12, f13⟩ := E1.cells
           have hz1 : w.heap.size + 1 < w1.heap.size := Nat.lt_of_lt_of_le hz0 m1.size
           have hx1 : w.heap.size < w1.heap.size := by have := hz1; omega
           have Ma := (Mod.refl (fun _ => False) w1).alloc (.cells #[.bool true, .bool true, .bool true] 23)
           have E2 := E1.q Ma
           have hv2 : (w1.alloc (.cells #[.bool true, .bool true, .bool true] 23)).heap[w1.heap.size]? = some (.cells #[.bool true, .bool true, .bool true] 23 (0, 0)) := heap_alloc_new _ _
           have M2 := (m0.out.trans m1 (by simp)).trans Ma (by simp)
           replace hv2 := hide hv2; replace E2 := hide E2; replace m1 := hide m1; replace E1 := hide E1; replace Ma := hide Ma; replace M2 := hide M2)
        | (go_at_call 18; (with_reducible refine (caching_any ⟨true, true, true⟩ _).mono ?_); rintro e w4 ⟨g4, rfl, r4, m4, o4⟩
           have E4 := E2.out.q m4
           obtain ⟨f41, f42, f43⟩ := E4.cells
           have hv4 := m4.heap hv2.out (by simp)
           obtain ⟨v40, v41, v42⟩ := vals (v := ⟨true, true, true⟩) hv4
           have M4 := M2.out.trans m4 (by simp)
           have hz4 : w1.heap.size < w4.heap.size := (Array.getElem?_eq_some_iff.1 hv4).1
           have hy4 : w.heap.size + 1 < w4.heap.size := by have := hz1; omega
           have hx4 : w.heap.size < w4.heap.size := by have := hz1; omega
           replace E4 := hide E4; replace hv4 := hide hv4; replace M4 := hide M4
           replace r4 := hide r4; replace m4 := hide m4)
        | (at_builtin; refine list_app (.tmp 33) (.tmp 35) 25 5 _ 1 1 (ic .u8) rfl rfl (ic_len _) (ic_one _) Try.underlying25 elem5 (.slice none 0 0) [] (some ⟨g4, 0, none⟩) 20 20 (cachL ⟨true, true, true⟩) rfl rfl (Row.nil _ _ _ _) (r4.out.rd (ic_len _) rfl) (by simp [maxLen]) (by simp) ?_
           intro v5 w5 h5 g5 a5
           have n5 := none_mod g5
           obtain ⟨b5, c5, e5, -⟩ := h5.some_ (by simp [cachL])
           replace e5 : v5 = .slice (some ⟨b5, 0, none⟩) 20 c5 := e5
           have o5 : w1.heap.size ≤ b5 := own_new a5 e5 (by simp [Value.ownBlock]) (Nat.le_of_lt hz4)
           subst e5
           have E5 := E4.out.q n5
           obtain ⟨f51, f52, f53⟩ := E5.cells
           have hv5 := n5.heap hv4.out (by simp)
           obtain ⟨v50, v51, v52⟩ := vals (v := ⟨true, true, true⟩) hv5
           have M5 := M4.out.trans n5 (by simp)
           have hz5 : w1.heap.size < w5.heap.size := (Array.getElem?_eq_some_iff.1 hv5).1
           have hy5 : w.heap.size + 1 < w5.heap.size := by have := hz1; omega
           have hx5 : w.heap.size < w5.heap.size := by have := hz1; omega
           replace E5 := hide E5; replace hv5 := hide hv5; replace M5 := hide M5
           replace h5 : Row w5 5 1 (ic .u8) (.slice (some ⟨b5, 0, none⟩) 20 c5) (cachL ⟨true, true, true⟩) := h5
           clear g5 a5
           replace h5 := hide h5; replace n5 := hide n5)
        | (go_at_call 12; (with_reducible refine (now_some p _ s _ E5.out.pg).mono ?_); rintro e w8 ⟨rfl, m8⟩
           have E8 := E5.out.q m8
           obtain ⟨f81, f82, f83⟩ := E8.cells
           have M8 := M5.out.trans m8 (by simp)
           have hy8 : w.heap.size + 1 < w8.heap.size := by have := m8.size; omega
           have hx8 : w.heap.size < w8.heap.size := by have := m8.size; omega
           have h8 := hide (h5.out.mod m8 (by simp))
           replace E8 := hide E8; replace M8 := hide M8; replace m8 := hide m8)
        | (at_builtin; refine list_app (.tmp 71) (.tmp 72) 25 5 _ 1 1 (ic .u8) rfl rfl (ic_len _) (ic_one _) Try.underlying25 elem5 (.slice (some ⟨w8.heap.size, 0, none⟩) 4 4) [23, 0, 16, 0] (some ⟨b5, 0, none⟩) 20 c5 (cachL ⟨true, true, true⟩) rfl rfl (row_lit (l := [23, 0, 16, 0]) (heap_alloc_new _ _) (by simp)) ((h8.out.alloc _).rd (ic_len _) rfl) (by simp [maxLen]) (by simp) ?_
           intro v9 w9 h9 g9 a9
           have mal : Mod (fun _ => False) w8 (w8.alloc (.cells #[.int .u8 23, .int .u8 0, .int .u8 16, .int .u8 0] 5)) := (Mod.refl (fun _ => False) w8).alloc _
           have g9m : Mod (fun k => some (w8.heap.size) = some k) (w8.alloc (.cells #[.int .u8 23, .int .u8 0, .int .u8 16, .int .u8 0] 5)) w9 := grown_mod g9
           obtain ⟨b9, c9, e9, -⟩ := h9.some_ (by simp)
           replace e9 : v9 = .slice (some ⟨b9, 0, none⟩) 24 c9 := e9
           have o9 : w8.heap.size ≤ b9 := own_new a9 e9 (fun k hk => by have e : w8.heap.size = k := Option.some.inj hk; omega) (by simp <;> omega)
           have hplt := E8.out.pg.lt
           have E9 := (E8.out.q mal).mod g9m (by simp; omega) (by simp; omega) (by simp; omega)
           have M9 := (M8.out.trans mal (by simp)).trans g9m (fun i hi e => by have e := Option.some.inj e; omega)
           have hb9 := E9.2.1
           subst e9
           clear g9 a9 g9m mal hplt
           replace E9 := hide E9; replace M9 := hide M9; obtain ⟨y0, y1, y2, y3, y4, y5, y6, y7⟩ := eights hb9
           have hx9 : w.heap.size + 1 < w9.heap.size := (Array.getElem?_eq_some_iff.1 hb9).1
           have fz : ∀ j, w9.frozen? ⟨w.heap.size + 1, j, none⟩ = false := fun j => frozen_of_row _ _ _ _ _ hb9
           have z0 := fz 0; have z1 := fz 1; have z2 := fz 2; have z3 := fz 3; have z4 := fz 4; have z5 := fz 5; have z6 := fz 6; have z7 := fz 7
           clear fz
           replace h9 := hide h9; replace hb9 := hide hb9))
      obtain ⟨hg10, hm10⟩ := set8 hb9.out (.int .u8 0) (.int .u16 0) (.int .u64 0) (.bool false) (.int .i64 0) (.int .i64 0) (.bool false) (.bool false)
      generalize ((((((((w9.setCell ⟨w.heap.size + 1, 0, none⟩ (.int .u8 0)).setCell ⟨w.heap.size + 1, 1, none⟩ (.int .u16 0)).setCell ⟨w.heap.size + 1, 2, none⟩ (.int .u64 0)).setCell ⟨w.heap.size + 1, 3, none⟩ (.bool false)).setCell ⟨w.heap.size + 1, 4, none⟩ (.int .i64 0)).setCell ⟨w.heap.size + 1, 5, none⟩ (.int .i64 0)).setCell ⟨w.heap.size + 1, 6, none⟩ (.bool false)).setCell ⟨w.heap.size + 1, 7, none⟩ (.bool false)) = w10 at *
      obtain ⟨c0, c1, c2, c3, c4, c5, c6, c7⟩ := eights hg10
      have M10 := M9.out.trans hm10 (fun i hi e => by omega)
      have hne : b9 ≠ w.heap.size + 1 := by omega
      have h10 := h9.out.mod hm10 (fun k hk e => hne ((Option.some.inj hk).trans e))
      exact bodyPost_ret (v := .tuple #[.slice (some ⟨b9, 0, none⟩) 24 c9, .agg #[.int .u8 0, .int .u16 0, .int .u64 0, .bool false, .int .i64 0, .int .i64 0, .bool false, .bool false], .bool true]) (by simp [results, Try.results10, go_sem, c0, c1, c2, c3, c4, c5, c6, c7]) rfl
        ⟨b9, c9, by rw [hsl.out]; rfl, by rw [hsl.out]; exact h10, M10, by omega⟩
    · skip
      go_enter Try.func10, Try.ntmps10
      go_wp2_with (first
        | (go_at_call 12; rw [hW0.out]; (with_reducible refine (now_some p _ s _ E0.out.pg).mono ?_); rintro e w1 ⟨rfl, m1⟩
           have E1 := E0.out.q m1
           obtain ⟨f11, f12, f13⟩ := E1.cells
           have hz1 : w.heap.size + 1 < w1.heap.size := Nat.lt_of_lt_of_le hz0 m1.size
           have hx1 : w.heap.size < w1.heap.size := by have := hz1; omega
           have Ma := (Mod.refl (fun _ => False) w1).alloc (.cells #[.bool true, .bool true, .bool true] 23)
           have E2 := E1.q Ma
           have hv2 : (w1.alloc (.cells #[.bool true, .bool true, .bool true] 23)).heap[w1.heap.size]? = some (.cells #[.bool true, .bool true, .bool true] 23 (0, 0)) := heap_alloc_new _ _
           have M2 := (m0.out.trans m1 (by simp)).trans Ma (by simp)
           replace hv2 := hide hv2; replace E2 := hide E2; replace m1 := hide m1; replace E1 := hide E1; replace Ma := hide Ma; replace M2 := hide M2)
        | (go_at_call 18; (with_reducible refine (caching_any ⟨true, true, true⟩ _).mono ?_); rintro e w4 ⟨g4, rfl, r4, m4, o4⟩
           have E4 := E2.out.q m4
           obtain ⟨f41, f42, f43⟩ := E4.cells
           have hv4 := m4.heap hv2.out (by simp)
           obtain ⟨v40, v41, v42⟩ := vals (v := ⟨true, true, true⟩) hv4
           have M4 := M2.out.trans m4 (by simp)
           have hz4 : w1.heap.size < w4.heap.size := (Array.getElem?_eq_some_iff.1 hv4).1
           have hy4 : w.heap.size + 1 < w4.heap.size := by have := hz1; omega
           have hx4 : w.heap.size < w4.heap.size := by have := hz1; omega
           replace E4 := hide E4; replace hv4 := hide hv4; replace M4 := hide M4
           replace r4 := hide r4; replace m4 := hide m4)
        | (at_builtin; refine list_app (.tmp 33) (.tmp 35) 25 5 _ 1 1 (ic .u8) rfl rfl (ic_len _) (ic_one _) Try.underlying25 elem5 (.slice none 0 0) [] (some ⟨g4, 0, none⟩) 20 20 (cachL ⟨true, true, true⟩) rfl rfl (Row.nil _ _ _ _) (r4.out.rd (ic_len _) rfl) (by simp [maxLen]) (by simp) ?_
           intro v5 w5 h5 g5 a5
           have n5 := none_mod g5
           obtain ⟨b5, c5, e5, -⟩ := h5.some_ (by simp [cachL])
           replace e5 : v5 = .slice (some ⟨b5, 0, none⟩) 20 c5 := e5
           have o5 : w1.heap.size ≤ b5 := own_new a5 e5 (by simp [Value.ownBlock]) (Nat.le_of_lt hz4)
           subst e5
           have E5 := E4.out.q n5
           obtain ⟨f51, f52, f53⟩ := E5.cells
           have hv5 := n5.heap hv4.out (by simp)
           obtain ⟨v50, v51, v52⟩ := vals (v := ⟨true, true, true⟩) hv5
           have M5 := M4.out.trans n5 (by simp)
           have hz5 : w1.heap.size < w5.heap.size := (Array.getElem?_eq_some_iff.1 hv5).1
           have hy5 : w.heap.size + 1 < w5.heap.size := by have := hz1; omega
           have hx5 : w.heap.size < w5.heap.size := by have := hz1; omega
           replace E5 := hide E5; replace hv5 := hide hv5; replace M5 := hide M5
           replace h5 : Row w5 5 1 (ic .u8) (.slice (some ⟨b5, 0, none⟩) 20 c5) (cachL ⟨true, true, true⟩) := h5
           clear g5 a5
           replace h5 := hide h5; replace n5 := hide n5)
        | (go_at_call 12; (with_reducible refine (now_some p _ s _ E5.out.pg).mono ?_); rintro e w8 ⟨rfl, m8⟩
           have E8 := E5.out.q m8
           obtain ⟨f81, f82, f83⟩ := E8.cells
           have M8 := M5.out.trans m8 (by simp)
           have hy8 : w.heap.size + 1 < w8.heap.size := by have := m8.size; omega
           have hx8 : w.heap.size < w8.heap.size := by have := m8.size; omega
           have h8 := hide (h5.out.mod m8 (by simp))
           replace E8 := hide E8; replace M8 := hide M8; replace m8 := hide m8)
        | (at_builtin; refine list_app (.tmp 71) (.tmp 72) 25 5 _ 1 1 (ic .u8) rfl rfl (ic_len _) (ic_one _) Try.underlying25 elem5 (.slice (some ⟨w8.heap.size + 1, 0, none⟩) 8 8) [0, 26, 0, 16, 0, 0, 0, 0] (some ⟨b5, 0, none⟩) 20 c5 (cachL ⟨true, true, true⟩) rfl rfl (row_lit (l := [0, 26, 0, 16, 0, 0, 0, 0]) (alloc2 _ _ _) (by simp)) (((h8.out.alloc _).alloc _).rd (ic_len _) rfl) (by simp [maxLen]) (by simp) ?_
           intro v9 w9 h9 g9 a9
           have mal : Mod (fun _ => False) w8 ((w8.alloc (.cells #[.int .u8 23, .int .u8 0, .int .u8 16, .int .u8 0] 5)).alloc (.cells #[.int .u8 0, .int .u8 26, .int .u8 0, .int .u8 16, .int .u8 0, .int .u8 0, .int .u8 0, .int .u8 0] 5)) := ((Mod.refl (fun _ => False) w8).alloc _).alloc _
           have g9m : Mod (fun k => some (w8.heap.size + 1) = some k) ((w8.alloc (.cells #[.int .u8 23, .int .u8 0, .int .u8 16, .int .u8 0] 5)).alloc (.cells #[.int .u8 0, .int .u8 26, .int .u8 0, .int .u8 16, .int .u8 0, .int .u8 0, .int .u8 0, .int .u8 0] 5)) w9 := grown_mod g9
           obtain ⟨b9, c9, e9, -⟩ := h9.some_ (by simp)
           replace e9 : v9 = .slice (some ⟨b9, 0, none⟩) 28 c9 := e9
           have o9 : w8.heap.size ≤ b9 := own_new a9 e9 (fun k hk => by have e : w8.heap.size + 1 = k := Option.some.inj hk; omega) (by simp <;> omega)
           have hplt := E8.out.pg.lt
           have E9 := (E8.out.q mal).mod g9m (by simp; omega) (by simp; omega) (by simp; omega)
           have M9 := (M8.out.trans mal (by simp)).trans g9m (fun i hi e => by have e := Option.some.inj e; omega)
           have hb9 := E9.2.1
           subst e9
           clear g9 a9 g9m mal hplt
           replace E9 := hide E9; replace M9 := hide M9; obtain ⟨y0, y1, y2, y3, y4, y5, y6, y7⟩ := eights hb9
           have hx9 : w.heap.size + 1 < w9.heap.size := (Array.getElem?_eq_some_iff.1 hb9).1
           have fz : ∀ j, w9.frozen? ⟨w.heap.size + 1, j, none⟩ = false := fun j => frozen_of_row _ _ _ _ _ hb9
           have z0 := fz 0; have z1 := fz 1; have z2 := fz 2; have z3 := fz 3; have z4 := fz 4; have z5 := fz 5; have z6 := fz 6; have z7 := fz 7
           clear fz
           replace h9 := hide h9; replace hb9 := hide hb9))
      obtain ⟨hg10, hm10⟩ := set8 hb9.out (.int .u8 0) (.int .u16 0) (.int .u64 0) (.bool false) (.int .i64 0) (.int .i64 0) (.bool false) (.bool false)
      generalize ((((((((w9.setCell ⟨w.heap.size + 1, 0, none⟩ (.int .u8 0)).setCell ⟨w.heap.size + 1, 1, none⟩ (.int .u16 0)).setCell ⟨w.heap.size + 1, 2, none⟩ (.int .u64 0)).setCell ⟨w.heap.size + 1, 3, none⟩ (.bool false)).setCell ⟨w.heap.size + 1, 4, none⟩ (.int .i64 0)).setCell ⟨w.heap.size + 1, 5, none⟩ (.int .i64 0)).setCell ⟨w.heap.size + 1, 6, none⟩ (.bool false)).setCell ⟨w.heap.size + 1, 7, none⟩ (.bool false)) = w10 at *
      obtain ⟨c0, c1, c2, c3, c4, c5, c6, c7⟩ := eights hg10
      have M10 := M9.out.trans hm10 (fun i hi e => by omega)
      have hne : b9 ≠ w.heap.size + 1 := by omega
      have h10 := h9.out.mod hm10 (fun k hk e => hne ((Option.some.inj hk).trans e))
      exact bodyPost_ret (v := .tuple #[.slice (some ⟨b9, 0, none⟩) 28 c9, .agg #[.int .u8 0, .int .u16 0, .int .u64 0, .bool false, .int .i64 0, .int .i64 0, .bool false, .bool false], .bool true]) (by simp [results, Try.results10, go_sem, c0, c1, c2, c3, c4, c5, c6, c7]) rfl
        ⟨b9, c9, by rw [hsl.out]; rfl, by rw [hsl.out]; exact h10, M10, by omega⟩
  · cases long
    · skip
      go_enter Try.func10, Try.ntmps10
      go_wp2_with (first
        | (go_at_call 12; rw [hW0.out]; (with_reducible refine (now_some p _ s _ E0.out.pg).mono ?_); rintro e w1 ⟨rfl, m1⟩
           have E1 := E0.out.q m1
           obtain ⟨f11, f12, f13⟩ := E1.cells
           have hz1 : w.heap.size + 1 < w1.heap.size := Nat.lt_of_lt_of_le hz0 m1.size
           have hx1 : w.heap.size < w1.heap.size := by have := hz1; omega
           have Ma := (Mod.refl (fun _ => False) w1).alloc (.cells #[.bool true, .bool true, .bool true] 23)
           have E2 := E1.q Ma
           have hv2 : (w1.alloc (.cells #[.bool true, .bool true, .bool true] 23)).heap[w1.heap.size]? = some (.cells #[.bool true, .bool true, .bool true] 23 (0, 0)) := heap_alloc_new _ _
           have M2 := (m0.out.trans m1 (by simp)).trans Ma (by simp)
           replace hv2 := hide hv2; replace E2 := hide E2; replace m1 := hide m1; replace E1 := hide E1; replace Ma := hide Ma; replace M2 := hide M2)
        | (go_at_call 18; (with_reducible refine (caching_any ⟨true, true, true⟩ _).mono ?_); rintro e w4 ⟨g4, rfl, r4, m4, o4⟩
           have E4 := E2.out.q m4
           obtain ⟨f41, f42, f43⟩ := E4.cells
           have hv4 := m4.heap hv2.out (by simp)
           obtain ⟨v40, v41, v42⟩ := vals (v := ⟨true, true, true⟩) hv4
           have M4 := M2.out.trans m4 (by simp)
           have hz4 : w1.heap.size < w4.heap.size := (Array.getElem?_eq_some_iff.1 hv4).1
           have hy4 : w.heap.size + 1 < w4.heap.size := by have := hz1; omega
           have hx4 : w.heap.size < w4.heap.size := by have := hz1; omega
           replace E4 := hide E4; replace hv4 := hide hv4; replace M4 := hide M4
           replace r4 := hide r4; replace m4 := hide m4)
        | (at_builtin; refine list_app (.tmp 33) (.tmp 35) 25 5 _ 1 1 (ic .u8) rfl rfl (ic_len _) (ic_one _) Try.underlying25 elem5 (.slice none 0 0) [] (some ⟨g4, 0, none⟩) 20 20 (cachL ⟨true, true, true⟩) rfl rfl (Row.nil _ _ _ _) (r4.out.rd (ic_len _) rfl) (by simp [maxLen]) (by simp) ?_
           intro v5 w5 h5 g5 a5
           have n5 := none_mod g5
           obtain ⟨b5, c5, e5, -⟩ := h5.some_ (by simp [cachL])
           replace e5 : v5 = .slice (some ⟨b5, 0, none⟩) 20 c5 := e5
           have o5 : w1.heap.size ≤ b5 := own_new a5 e5 (by simp [Value.ownBlock]) (Nat.le_of_lt hz4)
           subst e5
           have E5 := E4.out.q n5
           obtain ⟨f51, f52, f53⟩ := E5.cells
           have hv5 := n5.heap hv4.out (by simp)
           obtain ⟨v50, v51, v52⟩ := vals (v := ⟨true, true, true⟩) hv5
           have M5 := M4.out.trans n5 (by simp)
           have hz5 : w1.heap.size < w5.heap.size := (Array.getElem?_eq_some_iff.1 hv5).1
           have hy5 : w.heap.size + 1 < w5.heap.size := by have := hz1; omega
           have hx5 : w.heap.size < w5.heap.size := by have := hz1; omega
           replace E5 := hide E5; replace hv5 := hide hv5; replace M5 := hide M5
           replace h5 : Row w5 5 1 (ic .u8) (.slice (some ⟨b5, 0, none⟩) 20 c5) (cachL ⟨true, true, true⟩) := h5
           clear g5 a5
           replace h5 := hide h5; replace n5 := hide n5)
        | (go_at_call 12; (with_reducible refine (now_some p _ s _ E5.out.pg).mono ?_); rintro e w8 ⟨rfl, m8⟩
           have E8 := E5.out.q m8
           obtain ⟨f81, f82, f83⟩ := E8.cells
           have M8 := M5.out.trans m8 (by simp)
           have hy8 : w.heap.size + 1 < w8.heap.size := by have := m8.size; omega
           have hx8 : w.heap.size < w8.heap.size := by have := m8.size; omega
           have h8 := hide (h5.out.mod m8 (by simp))
           replace E8 := hide E8; replace M8 := hide M8; replace m8 := hide m8)
        | (at_builtin; refine list_app (.tmp 71) (.tmp 72) 25 5 _ 1 1 (ic .u8) rfl rfl (ic_len _) (ic_one _) Try.underlying25 elem5 (.slice (some ⟨w8.heap.size, 0, none⟩) 4 4) [23, 0, 144, 0] (some ⟨b5, 0, none⟩) 20 c5 (cachL ⟨true, true, true⟩) rfl rfl (row_lit (l := [23, 0, 144, 0]) (heap_alloc_new _ _) (by simp)) ((h8.out.alloc _).rd (ic_len _) rfl) (by simp [maxLen]) (by simp) ?_
           intro v9 w9 h9 g9 a9
           have mal : Mod (fun _ => False) w8 (w8.alloc (.cells #[.int .u8 23, .int .u8 0, .int .u8 144, .int .u8 0] 5)) := (Mod.refl (fun _ => False) w8).alloc _
           have g9m : Mod (fun k => some (w8.heap.size) = some k) (w8.alloc (.cells #[.int .u8 23, .int .u8 0, .int .u8 144, .int .u8 0] 5)) w9 := grown_mod g9
           obtain ⟨b9, c9, e9, -⟩ := h9.some_ (by simp)
           replace e9 : v9 = .slice (some ⟨b9, 0, none⟩) 24 c9 := e9
           have o9 : w8.heap.size ≤ b9 := own_new a9 e9 (fun k hk => by have e : w8.heap.size = k := Option.some.inj hk; omega) (by simp <;> omega)
           have hplt := E8.out.pg.lt
           have E9 := (E8.out.q mal).mod g9m (by simp; omega) (by simp; omega) (by simp; omega)
           have M9 := (M8.out.trans mal (by simp)).trans g9m (fun i hi e => by have e := Option.some.inj e; omega)
           have hb9 := E9.2.1
           subst e9
           clear g9 a9 g9m mal hplt
           replace E9 := hide E9; replace M9 := hide M9; obtain ⟨y0, y1, y2, y3, y4, y5, y6, y7⟩ := eights hb9
           have hx9 : w.heap.size + 1 < w9.heap.size := (Array.getElem?_eq_some_iff.1 hb9).1
           have fz : ∀ j, w9.frozen? ⟨w.heap.size + 1, j, none⟩ = false := fun j => frozen_of_row _ _ _ _ _ hb9
           have z0 := fz 0; have z1 := fz 1; have z2 := fz 2; have z3 := fz 3; have z4 := fz 4; have z5 := fz 5; have z6 := fz 6; have z7 := fz 7
           clear fz
           replace h9 := hide h9; replace hb9 := hide hb9))
      obtain ⟨hg10, hm10⟩ := set8 hb9.out (.int .u8 0) (.int .u16 0) (.int .u64 0) (.bool false) (.int .i64 0) (.int .i64 0) (.bool false) (.bool false)
      generalize ((((((((w9.setCell ⟨w.heap.size + 1, 0, none⟩ (.int .u8 0)).setCell ⟨w.heap.size + 1, 1, none⟩ (.int .u16 0)).setCell ⟨w.heap.size + 1, 2, none⟩ (.int .u64 0)).setCell ⟨w.heap.size + 1, 3, none⟩ (.bool false)).setCell ⟨w.heap.size + 1, 4, none⟩ (.int .i64 0)).setCell ⟨w.heap.size + 1, 5, none⟩ (.int .i64 0)).setCell ⟨w.heap.size + 1, 6, none⟩ (.bool false)).setCell ⟨w.heap.size + 1, 7, none⟩ (.bool false)) = w10 at *
      obtain ⟨c0, c1, c2, c3, c4, c5, c6, c7⟩ := eights hg10
      have M10 := M9.out.trans hm10 (fun i hi e => by omega)
      have hne : b9 ≠ w.heap.size + 1 := by omega
      have h10 := h9.out.mod hm10 (fun k hk e => hne ((Option.some.inj hk).trans e))
      exact bodyPost_ret (v := .tuple #[.slice (some ⟨b9, 0, none⟩) 24 c9, .agg #[.int .u8 0, .int .u16 0, .int .u64 0, .bool false, .int .i64 0, .int .i64 0, .bool false, .bool false], .bool true]) (by simp [results, Try.results10, go_sem, c0, c1, c2, c3, c4, c5, c6, c7]) rfl
        ⟨b9, c9, by rw [hsl.out]; rfl, by rw [hsl.out]; exact h10, M10, by omega⟩
    · skip
      go_enter Try.func10, Try.ntmps10
      go_wp2_with (first
        | (go_at_call 12; rw [hW0.out]; (with_reducible refine (now_some p _ s _ E0.out.pg).mono ?_); rintro e w1 ⟨rfl, m1⟩
           have E1 := E0.out.q m1
           obtain ⟨f11, f12, f13⟩ := E1.cells
           have hz1 : w.heap.size + 1 < w1.heap.size := Nat.lt_of_lt_of_le hz0 m1.size
           have hx1 : w.heap.size < w1.heap.size := by have := hz1; omega
           have Ma := (Mod.refl (fun _ => False) w1).alloc (.cells #[.bool true, .bool true, .bool true] 23)
           have E2 := E1.q Ma
           have hv2 : (w1.alloc (.cells #[.bool true, .bool true, .bool true] 23)).heap[w1.heap.size]? = some (.cells #[.bool true, .bool true, .bool true] 23 (0, 0)) := heap_alloc_new _ _
           have M2 := (m0.out.trans m1 (by simp)).trans Ma (by simp)
           replace hv2 := hide hv2; replace E2 := hide E2; replace m1 := hide m1; replace E1 := hide E1; replace Ma := hide Ma; replace M2 := hide M2)
        | (go_at_call 18; (with_reducible refine (caching_any ⟨true, true, true⟩ _).mono ?_); rintro e w4 ⟨g4, rfl, r4, m4, o4⟩
           have E4 := E2.out.q m4
           obtain ⟨f41, f42, f43⟩ := E4.cells
           have hv4 := m4.heap hv2.out (by simp)
           obtain ⟨v40, v41, v42⟩ := vals (v := ⟨true, true, true⟩) hv4
           have M4 := M2.out.trans m4 (by simp)
           have hz4 : w1.heap.size < w4.heap.size := (Array.getElem?_eq_some_iff.1 hv4).1
           have hy4 : w.heap.size + 1 < w4.heap.size := by have := hz1; omega
           have hx4 : w.heap.size < w4.heap.size := by have := hz1; omega
           replace E4 := hide E4; replace hv4 := hide hv4; replace M4 := hide M4
           replace r4 := hide r4; replace m4 := hide m4)
        | (at_builtin; refine list_app (.tmp 33) (.tmp 35) 25 5 _ 1 1 (ic .u8) rfl rfl (ic_len _) (ic_one _) Try.underlying25 elem5 (.slice none 0 0) [] (some ⟨g4, 0, none⟩) 20 20 (cachL ⟨true, true, true⟩) rfl rfl (Row.nil _ _ _ _) (r4.out.rd (ic_len _) rfl) (by simp [maxLen]) (by simp) ?_
           intro v5 w5 h5 g5 a5
           have n5 := none_mod g5
           obtain ⟨b5, c5, e5, -⟩ := h5.some_ (by simp [cachL])
           replace e5 : v5 = .slice (some ⟨b5, 0, none⟩) 20 c5 := e5
           have o5 : w1.heap.size ≤ b5 := own_new a5 e5 (by simp [Value.ownBlock]) (Nat.le_of_lt hz4)
           subst e5
           have E5 := E4.out.q n5
           obtain ⟨f51, f52, f53⟩ := E5.cells
           have hv5 := n5.heap hv4.out (by simp)
           obtain ⟨v50, v51, v52⟩ := vals (v := ⟨true, true, true⟩) hv5
           have M5 := M4.out.trans n5 (by simp)
           have hz5 : w1.heap.size < w5.heap.size := (Array.getElem?_eq_some_iff.1 hv5).1
           have hy5 : w.heap.size + 1 < w5.heap.size := by have := hz1; omega
           have hx5 : w.heap.size < w5.heap.size := by have := hz1; omega
           replace E5 := hide E5; replace hv5 := hide hv5; replace M5 := hide M5
           replace h5 : Row w5 5 1 (ic .u8) (.slice (some ⟨b5, 0, none⟩) 20 c5) (cachL ⟨true, true, true⟩) := h5
           clear g5 a5
           replace h5 := hide h5; replace n5 := hide n5)
        | (go_at_call 12; (with_reducible refine (now_some p _ s _ E5.out.pg).mono ?_); rintro e w8 ⟨rfl, m8⟩
           have E8 := E5.out.q m8
           obtain ⟨f81, f82, f83⟩ := E8.cells
           have M8 := M5.out.trans m8 (by simp)
           have hy8 : w.heap.size + 1 < w8.heap.size := by have := m8.size; omega
           have hx8 : w.heap.size < w8.heap.size := by have := m8.size; omega
           have h8 := hide (h5.out.mod m8 (by simp))
           replace E8 := hide E8; replace M8 := hide M8; replace m8 := hide m8)
        | (at_builtin; refine list_app (.tmp 71) (.tmp 72) 25 5 _ 1 1 (ic .u8) rfl rfl (ic_len _) (ic_one _) Try.underlying25 elem5 (.slice (some ⟨w8.heap.size + 1, 0, none⟩) 8 8) [0, 26, 0, 144, 0, 0, 0, 0] (some ⟨b5, 0, none⟩) 20 c5 (cachL ⟨true, true, true⟩) rfl rfl (row_lit (l := [0, 26, 0, 144, 0, 0, 0, 0]) (alloc2 _ _ _) (by simp)) (((h8.out.alloc _).alloc _).rd (ic_len _) rfl) (by simp [maxLen]) (by simp) ?_
           intro v9 w9 h9 g9 a9
           have mal : Mod (fun _ => False) w8 ((w8.alloc (.cells #[.int .u8 23, .int .u8 0, .int .u8 144, .int .u8 0] 5)).alloc (.cells #[.int .u8 0, .int .u8 26, .int .u8 0, .int .u8 144, .int .u8 0, .int .u8 0, .int .u8 0, .int .u8 0] 5)) := ((Mod.refl (fun _ => False) w8).alloc _).alloc _
           have g9m : Mod (fun k => some (w8.heap.size + 1) = some k) ((w8.alloc (.cells #[.int .u8 23, .int .u8 0, .int .u8 144, .int .u8 0] 5)).alloc (.cells #[.int .u8 0, .int .u8 26, .int .u8 0, .int .u8 144, .int .u8 0, .int .u8 0, .int .u8 0, .int .u8 0] 5)) w9 := grown_mod g9
           obtain ⟨b9, c9, e9, -⟩ := h9.some_ (by simp)
           replace e9 : v9 = .slice (some ⟨b9, 0, none⟩) 28 c9 := e9
           have o9 : w8.heap.size ≤ b9 := own_new a9 e9 (fun k hk => by have e : w8.heap.size + 1 = k := Option.some.inj hk; omega) (by simp <;> omega)
           have hplt := E8.out.pg.lt
           have E9 := (E8.out.q mal).mod g9m (by simp; omega) (by simp; omega) (by simp; omega)
           have M9 := (M8.out.trans mal (by simp)).trans g9m (fun i hi e => by have e := Option.some.inj e; omega)
           have hb9 := E9.2.1
           subst e9
           clear g9 a9 g9m mal hplt
           replace E9 := hide E9; replace M9 := hide M9; obtain ⟨y0, y1, y2, y3, y4, y5, y6, y7⟩ := eights hb9
           have hx9 : w.heap.size + 1 < w9.heap.size := (Array.getElem?_eq_some_iff.1 hb9).1
           have fz : ∀ j, w9.frozen? ⟨w.heap.size + 1, j, none⟩ = false := fun j => frozen_of_row _ _ _ _ _ hb9
           have z0 := fz 0; have z1 := fz 1; have z2 := fz 2; have z3 := fz 3; have z4 := fz 4; have z5 := fz 5; have z6 := fz 6; have z7 := fz 7
           clear fz
           replace h9 := hide h9; replace hb9 := hide hb9))
      obtain ⟨hg10, hm10⟩ := set8 hb9.out (.int .u8 0) (.int .u16 0) (.int .u64 0) (.bool false) (.int .i64 0) (.int .i64 0) (.bool false) (.bool false)
      generalize ((((((((w9.setCell ⟨w.heap.size + 1, 0, none⟩ (.int .u8 0)).setCell ⟨w.heap.size + 1, 1, none⟩ (.int .u16 0)).setCell ⟨w.heap.size + 1, 2, none⟩ (.int .u64 0)).setCell ⟨w.heap.size + 1, 3, none⟩ (.bool false)).setCell ⟨w.heap.size + 1, 4, none⟩ (.int .i64 0)).setCell ⟨w.heap.size + 1, 5, none⟩ (.int .i64 0)).setCell ⟨w.heap.size + 1, 6, none⟩ (.bool false)).setCell ⟨w.heap.size + 1, 7, none⟩ (.bool false)) = w10 at *
      obtain ⟨c0, c1, c2, c3, c4, c5, c6, c7⟩ := eights hg10
      have M10 := M9.out.trans hm10 (fun i hi e => by omega)
      have hne : b9 ≠ w.heap.size + 1 := by omega
      have h10 := h9.out.mod hm10 (fun k hk e => hne ((Option.some.inj hk).trans e))
      exact bodyPost_ret (v := .tuple #[.slice (some ⟨b9, 0, none⟩) 28 c9, .agg #[.int .u8 0, .int .u16 0, .int .u64 0, .bool false, .int .i64 0, .int .i64 0, .bool false, .bool false], .bool true]) (by simp [results, Try.results10, go_sem, c0, c1, c2, c3, c4, c5, c6, c7]) rfl
        ⟨b9, c9, by rw [hsl.out]; rfl, by rw [hsl.out]; exact h10, M10, by omega⟩

set_option maxRecDepth 100000 in
set_option maxHeartbeats 2000000 in
theorem sense_1_10 (p : Nat) (c : C) (n s : V) (w : World) (hpg : PG w p n s) (hc : c.control = 1) (hp : c.page = 10) :
    Calls Try.prog 10 #[.pointer (some ⟨p, 0, none⟩), cv c] w (Told c n s w) := by
  have hsl : senseL c n s = headL c.long (devB n) 12 ++ bodyL 10 ⟨true, true, true⟩ := by
    simp [senseL, hp, hc, bodyL, vOf, ctlL]
  obtain ⟨kind, long, lba, blocks, alloc, fua, prot, unmap, evpd, page, control, save, service, type, bytes⟩ := c
  replace hp : page = 10 := hp
  subst hp
  replace hc : control = 1 := hc
  subst hc
  have m0 : Mod (fun _ => False) w ((w.alloc (.cells (cc ⟨kind, long, lba, blocks, alloc, fua, prot, unmap, evpd, 10, 1, save, service, type, bytes⟩) 36)).alloc (.cells #[.int .u8 0, .int .u16 0, .int .u64 0, .bool false, .int .i64 0, .int .i64 0, .bool false, .bool false] 31)) := ((Mod.refl _ w).alloc _).alloc _
  have E0 : Env ((w.alloc (.cells (cc ⟨kind, long, lba, blocks, alloc, fua, prot, unmap, evpd, 10, 1, save, service, type, bytes⟩) 36)).alloc (.cells #[.int .u8 0, .int .u16 0, .int .u64 0, .bool false, .int .i64 0, .int .i64 0, .bool false, .bool false] 31)) w.heap.size (w.heap.size + 1) ⟨kind, long, lba, blocks, alloc, fua, prot, unmap, evpd, 10, 1, save, service, type, bytes⟩ p n s := ⟨heap_alloc2_old _ _ _, heap_alloc2_new _ _ _, hpg.mod m0 (by simp)⟩
  have hz0 : w.heap.size + 1 < ((w.alloc (.cells (cc ⟨kind, long, lba, blocks, alloc, fua, prot, unmap, evpd, 10, 1, save, service, type, bytes⟩) 36)).alloc (.cells #[.int .u8 0, .int .u16 0, .int .u64 0, .bool false, .int .i64 0, .int .i64 0, .bool false, .bool false] 31)).heap.size := by simp
  generalize hW0 : (w.alloc (.cells (cc ⟨kind, long, lba, blocks, alloc, fua, prot, unmap, evpd, 10, 1, save, service, type, bytes⟩) 36)).alloc (.cells #[.int .u8 0, .int .u16 0, .int .u64 0, .bool false, .int .i64 0, .int .i64 0, .bool false, .bool false] 31) = W0 at *
  obtain ⟨cb, hcb⟩ : ∃ cb, cb = w.heap.size := ⟨_, rfl⟩
  have hp1 : p < cb := by rw [hcb]; exact hpg.lt
  clear hpg
  have hf2 := field2
  have hsn : ∀ (w : World) (a : Option Addr) (n c n' c' : Nat), (binOp .eql 25 (.slice a n c) (.slice none n' c')).run Try.prog w = .ok (.bool a.isNone) w := fun w a n c n' c' => Lib.run_eql_slice_nil w 25 5 a n c n' c' Try.underlying25
  obtain ⟨na, nb, nc⟩ := n
  replace m0 := hide m0; replace E0 := hide E0; replace hW0 := hide hW0; replace hsl := hide hsl; replace hcb := hide hcb
  cases nc
  · cases long
    · skip
      go_enter Try.func10, Try.ntmps10
      go_wp2_with (first
        | (go_at_call 12; rw [hW0.out]; (with_reducible refine (now_some p _ s _ E0.out.pg).mono ?_); rintro e w1 ⟨rfl, m1⟩
           have E1 := E0.out.q m1
           obtain ⟨f11, f12, f13⟩ := E1.cells
           have hz1 : w.heap.size + 1 < w1.heap.size := Nat.lt_of_lt_of_le hz0 m1.size
           have hx1 : w.heap.size < w1.heap.size := by have := hz1; omega
           have Ma := (Mod.refl (fun _ => False) w1).alloc (.cells #[.bool true, .bool true, .bool true] 23)
           have E2 := E1.q Ma
           have hv2 : (w1.alloc (.cells #[.bool true, .bool true, .bool true] 23)).heap[w1.heap.size]? = some (.cells #[.bool true, .bool true, .bool true] 23 (0, 0)) := heap_alloc_new _ _
           have M2 := (m0.out.trans m1 (by simp)).trans Ma (by simp)
           replace hv2 := hide hv2; replace E2 := hide E2; replace m1 := hide m1; replace E1 := hide E1; replace Ma := hide Ma; replace M2 := hide M2)
        | (go_at_call 19; (with_reducible refine (control_any ⟨true, true, true⟩ _).mono ?_); rintro e w6 ⟨g6, rfl, r6, m6, o6⟩
           have E6 := E2.out.q m6
           obtain ⟨f61, f62, f63⟩ := E6.cells
           have hv6 := m6.heap hv2.out (by simp)
           obtain ⟨v60, v61, v62⟩ := vals (v := ⟨true, true, true⟩) hv6
           have M6 := M2.out.trans m6 (by simp)
           have hz6 : w1.heap.size < w6.heap.size := (Array.getElem?_eq_some_iff.1 hv6).1
           have hy6 : w.heap.size + 1 < w6.heap.size := by have := hz1; omega
           have hx6 : w.heap.size < w6.heap.size := by have := hz1; omega
           replace E6 := hide E6; replace hv6 := hide hv6; replace M6 := hide M6
           replace r6 := hide r6; replace m6 := hide m6)
        | (at_builtin; refine list_app (.tmp 45) (.tmp 47) 25 5 _ 1 1 (ic .u8) rfl rfl (ic_len _) (ic_one _) Try.underlying25 elem5 (.slice none 0 0) [] (some ⟨g6, 0, none⟩) 12 12 (ctlL ⟨true, true, true⟩) rfl rfl (Row.nil _ _ _ _) (r6.out.rd (ic_len _) rfl) (by simp [maxLen]) (by simp) ?_
           intro v7 w7 h7 g7 a7
           have n7 := none_mod g7
           obtain ⟨b7, c7, e7, -⟩ := h7.some_ (by simp [ctlL])
           replace e7 : v7 = .slice (some ⟨b7, 0, none⟩) 12 c7 := e7
           have o7 : w1.heap.size ≤ b7 := own_new a7 e7 (by simp [Value.ownBlock]) (Nat.le_of_lt hz6)
           subst e7
           have E7 := E6.out.q n7
           obtain ⟨f71, f72, f73⟩ := E7.cells
           have hv7 := n7.heap hv6.out (by simp)
           obtain ⟨v70, v71, v72⟩ := vals (v := ⟨true, true, true⟩) hv7
           have M7 := M6.out.trans n7 (by simp)
           have hz7 : w1.heap.size < w7.heap.size := (Array.getElem?_eq_some_iff.1 hv7).1
           have hy7 : w.heap.size + 1 < w7.heap.size := by have := hz1; omega
           have hx7 : w.heap.size < w7.heap.size := by have := hz1; omega
           replace E7 := hide E7; replace hv7 := hide hv7; replace M7 := hide M7
           replace h7 : Row w7 5 1 (ic .u8) (.slice (some ⟨b7, 0, none⟩) 12 c7) (ctlL ⟨true, true, true⟩) := h7
           clear g7 a7
           replace h7 := hide h7; replace n7 := hide n7)
        | (go_at_call 12; (with_reducible refine (now_some p _ s _ E7.out.pg).mono ?_); rintro e w8 ⟨rfl, m8⟩
           have E8 := E7.out.q m8
           obtain ⟨f81, f82, f83⟩ := E8.cells
           have M8 := M7.out.trans m8 (by simp)
           have hy8 : w.heap.size + 1 < w8.heap.size := by have := m8.size; omega
           have hx8 : w.heap.size < w8.heap.size := by have := m8.size; omega
           have h8 := hide (h7.out.mod m8 (by simp))
           replace E8 := hide E8; replace M8 := hide M8; replace m8 := hide m8)
        | (at_builtin; refine list_app (.tmp 71) (.tmp 72) 25 5 _ 1 1 (ic .u8) rfl rfl (ic_len _) (ic_one _) Try.underlying25 elem5 (.slice (some ⟨w8.heap.size, 0, none⟩) 4 4) [15, 0, 16, 0] (some ⟨b7, 0, none⟩) 12 c7 (ctlL ⟨true, true, true⟩) rfl rfl (row_lit (l := [15, 0, 16, 0]) (heap_alloc_new _ _) (by simp)) ((h8.out.alloc _).rd (ic_len _) rfl) (by simp [maxLen]) (by simp) ?_
           intro v9 w9 h9 g9 a9
           have mal : Mod (fun _ => False) w8 (w8.alloc (.cells #[.int .u8 15, .int .u8 0, .int .u8 16, .int .u8 0] 5)) := (Mod.refl (fun _ => False) w8).alloc _
           have g9m : Mod (fun k => some (w8.heap.size) = some k) (w8.alloc (.cells #[.int .u8 15, .int .u8 0, .int .u8 16, .int .u8 0] 5)) w9 := grown_mod g9
           obtain ⟨b9, c9, e9, -⟩ := h9.some_ (by simp)
           replace e9 : v9 = .slice (some ⟨b9, 0, none⟩) 16 c9 := e9
           have o9 : w8.heap.size ≤ b9 := own_new a9 e9 (fun k hk => by have e : w8.heap.size = k := Option.some.inj hk; omega) (by simp <;> omega)
           have hplt := E8.out.pg.lt
           have E9 := (E8.out.q mal).mod g9m (by simp; omega) (by simp; omega) (by simp; omega)
           have M9 := (M8.out.trans mal (by simp)).trans g9m (fun i hi e => by have e := Option.some.inj e; omega)
           have hb9 := E9.2.1
           subst e9
           clear g9 a9 g9m mal hplt
           replace E9 := hide E9; replace M9 := hide M9; obtain ⟨y0, y1, y2, y3, y4, y5, y6, y7⟩ := eights hb9
           have hx9 : w.heap.size + 1 < w9.heap.size := (Array.getElem?_eq_some_iff.1 hb9).1
           have fz : ∀ j, w9.frozen? ⟨w.heap.size + 1, j, none⟩ = false := fun j => frozen_of_row _ _ _ _ _ hb9
           have z0 := fz 0; have z1 := fz 1; have z2 := fz 2; have z3 := fz 3; have z4 := fz 4; have z5 := fz 5; have z6 := fz 6; have z7 := fz 7
           clear fz
           replace h9 := hide h9; replace hb9 := hide hb9))
      obtain ⟨hg10, hm10⟩ := set8 hb9.out (.int .u8 0) (.int .u16 0) (.int .u64 0) (.bool false) (.int .i64 0) (.int .i64 0) (.bool false) (.bool false)
      generalize ((((((((w9.setCell ⟨w.heap.size + 1, 0, none⟩ (.int .u8 0)).setCell ⟨w.heap.size + 1, 1, none⟩ (.int .u16 0)).setCell ⟨w.heap.size + 1, 2, none⟩ (.int .u64 0)).setCell ⟨w.heap.size + 1, 3, none⟩ (.bool false)).setCell ⟨w.heap.size + 1, 4, none⟩ (.int .i64 0)).setCell ⟨w.heap.size + 1, 5, none⟩ (.int .i64 0)).setCell ⟨w.heap.size + 1, 6, none⟩ (.bool false)).setCell ⟨w.heap.size + 1, 7, none⟩ (.bool false)) = w10 at *
      obtain ⟨c0, c1, c2, c3, c4, c5, c6, c7⟩ := eights hg10
      have M10 := M9.out.trans hm10 (fun i hi e => by omega)
      have hne : b9 ≠ w.heap.size + 1 := by omega
      have h10 := h9.out.mod hm10 (fun k hk e => hne ((Option.some.inj hk).trans e))
      exact bodyPost_ret (v := .tuple #[.slice (some ⟨b9, 0, none⟩) 16 c9, .agg #[.int .u8 0, .int .u16 0, .int .u64 0, .bool false, .int .i64 0, .int .i64 0, .bool false, .bool false], .bool true]) (by simp [results, Try.results10, go_sem, c0, c1, c2, c3, c4, c5, c6, c7]) rfl
        ⟨b9, c9, by rw [hsl.out]; rfl, by rw [hsl.out]; exact h10, M10, by omega⟩
    · skip
      go_enter Try.func10, Try.ntmps10
      go_wp2_with (first
        | (go_at_call 12; rw [hW0.out]; (with_reducible refine (now_some p _ s _ E0.out.pg).mono ?_); rintro e w1 ⟨rfl, m1⟩
           have E1 := E0.out.q m1
           obtain ⟨f11, f12, f13⟩ := E1.cells
           have hz1 : w.heap.size + 1 < w1.heap.size := Nat.lt_of_lt_of_le hz0 m1.size
           have hx1 : w.heap.size < w1.heap.size := by have := hz1; omega
           have Ma := (Mod.refl (fun _ => False) w1).alloc (.cells #[.bool true, .bool true, .bool true] 23)
           have E2 := E1.q Ma
           have hv2 : (w1.alloc (.cells #[.bool true, .bool true, .bool true] 23)).heap[w1.heap.size]? = some (.cells #[.bool true, .bool true, .bool true] 23 (0, 0)) := heap_alloc_new _ _
           have M2 := (m0.out.trans m1 (by simp)).trans Ma (by simp)
           replace hv2 := hide hv2; replace E2 := hide E2; replace m1 := hide m1; replace E1 := hide E1; replace Ma := hide Ma; replace M2 := hide M2)
        | (go_at_call 19; (with_reducible refine (control_any ⟨true, true, true⟩ _).mono ?_); rintro e w6 ⟨g6, rfl, r6, m6, o6⟩
           have E6 := E2.out.q m6
           obtain ⟨f61, f62, f63⟩ := E6.cells
           have hv6 := m6.heap hv2.out (by simp)
           obtain ⟨v60, v61, v62⟩ := vals (v := ⟨true, true, true⟩) hv6
           have M6 := M2.out.trans m6 (by simp)
           have hz6 : w1.heap.size < w6.heap.size := (Array.getElem?_eq_some_iff.1 hv6).1
           have hy6 : w.heap.size + 1 < w6.heap.size := by have := hz1; omega
           have hx6 : w.heap.size < w6.heap.size := by have := hz1; omega
           replace E6 := hide E6; replace hv6 := hide hv6; replace M6 := hide M6
           replace r6 := hide r6; replace m6 := hide m6)
        | (at_builtin; refine list_app (.tmp 45) (.tmp 47) 25 5 _ 1 1 (ic .u8) rfl rfl (ic_len _) (ic_one _) Try.underlying25 elem5 (.slice none 0 0) [] (some ⟨g6, 0, none⟩) 12 12 (ctlL ⟨true, true, true⟩) rfl rfl (Row.nil _ _ _ _) (r6.out.rd (ic_len _) rfl) (by simp [maxLen]) (by simp) ?_
           intro v7 w7 h7 g7 a7
           have n7 := none_mod g7
           obtain ⟨b7, c7, e7, -⟩ := h7.some_ (by simp [ctlL])
           replace e7 : v7 = .slice (some ⟨b7, 0, none⟩) 12 c7 := e7
           have o7 : w1.heap.size ≤ b7 := own_new a7 e7 (by simp [Value.ownBlock]) (Nat.le_of_lt hz6)
           subst e7
           have E7 := E6.out.q n7
           obtain ⟨f71, f72, f73⟩ := E7.cells
           have hv7 := n7.heap hv6.out (by simp)
           obtain ⟨v70, v71, v72⟩ := vals (v := ⟨true, true, true⟩) hv7
           have M7 := M6.out.trans n7 (by simp)
           have hz7 : w1.heap.size < w7.heap.size := (Array.getElem?_eq_some_iff.1 hv7).1
           have hy7 : w.heap.size + 1 < w7.heap.size := by have := hz1; omega
           have hx7 : w.heap.size < w7.heap.size := by have := hz1; omega
           replace E7 := hide E7; replace hv7 := hide hv7; replace M7 := hide M7
           replace h7 : Row w7 5 1 (ic .u8) (.slice (some ⟨b7, 0, none⟩) 12 c7) (ctlL ⟨true, true, true⟩) := h7
           clear g7 a7
           replace h7 := hide h7; replace n7 := hide n7)
        | (go_at_call 12; (with_reducible refine (now_some p _ s _ E7.out.pg).mono ?_); rintro e w8 ⟨rfl, m8⟩
           have E8 := E7.out.q m8
           obtain ⟨f81, f82, f83⟩ := E8.cells
           have M8 := M7.out.trans m8 (by simp)
           have hy8 : w.heap.size + 1 < w8.heap.size := by have := m8.size; omega
           have hx8 : w.heap.size < w8.heap.size := by have := m8.size; omega
           have h8 := hide (h7.out.mod m8 (by simp))
           replace E8 := hide E8; replace M8 := hide M8; replace m8 := hide m8)
        | (at_builtin; refine list_app (.tmp 71) (.tmp 72) 25 5 _ 1 1 (ic .u8) rfl rfl (ic_len _) (ic_one _) Try.underlying25 elem5 (.slice (some ⟨w8.heap.size + 1, 0, none⟩) 8 8) [0, 18, 0, 16, 0, 0, 0, 0] (some ⟨b7, 0, none⟩) 12 c7 (ctlL ⟨true, true, true⟩) rfl rfl (row_lit (l := [0, 18, 0, 16, 0, 0, 0, 0]) (alloc2 _ _ _) (by simp)) (((h8.out.alloc _).alloc _).rd (ic_len _) rfl) (by simp [maxLen]) (by simp) ?_
           intro v9 w9 h9 g9 a9
           have mal : Mod (fun _ => False) w8 ((w8.alloc (.cells #[.int .u8 15, .int .u8 0, .int .u8 16, .int .u8 0] 5)).alloc (.cells #[.int .u8 0, .int .u8 18, .int .u8 0, .int .u8 16, .int .u8 0, .int .u8 0, .int .u8 0, .int .u8 0] 5)) := ((Mod.refl (fun _ => False) w8).alloc _).alloc _
           have g9m : Mod (fun k => some (w8.heap.size + 1) = some k) ((w8.alloc (.cells #[.int .u8 15, .int .u8 0, .int .u8 16, .int .u8 0] 5)).alloc (.cells #[.int .u8 0, .int .u8 18, .int .u8 0, .int .u8 16, .int .u8 0, .int .u8 0, .int .u8 0, .int .u8 0] 5)) w9 := grown_mod g9
           obtain ⟨b9, c9, e9, -⟩ := h9.some_ (by simp)
           replace e9 : v9 = .slice (some ⟨b9, 0, none⟩) 20 c9 := e9
           have o9 : w8.heap.size ≤ b9 := own_new a9 e9 (fun k hk => by have e : w8.heap.size + 1 = k := Option.some.inj hk; omega) (by simp <;> omega)
           have hplt := E8.out.pg.lt
           have E9 := (E8.out.q mal).mod g9m (by simp; omega) (by simp; omega) (by simp; omega)
           have M9 := (M8.out.trans mal (by simp)).trans g9m (fun i hi e => by have e := Option.some.inj e; omega)
           have hb9 := E9.2.1
           subst e9
           clear g9 a9 g9m mal hplt
           replace E9 := hide E9; replace M9 := hide M9; obtain ⟨y0, y1, y2, y3, y4, y5, y6, y7⟩ := eights hb9
           have hx9 : w.heap.size + 1 < w9.heap.size := (Array.getElem?_eq_some_iff.1 hb9).1
           have fz : ∀ j, w9.frozen? ⟨w.heap.size + 1, j, none⟩ = false := fun j => frozen_of_row _ _ _ _ _ hb9
           have z0 := fz 0; have z1 := fz 1; have z2 := fz 2; have z3 := fz 3; have z4 := fz 4; have z5 := fz 5; have z6 := fz 6; have z7 := fz 7
           clear fz
           replace h9 := hide h9; replace hb9 := hide hb9))
      obtain ⟨hg10, hm10⟩ := set8 hb9.out (.int .u8 0) (.int .u16 0) (.int .u64 0) (.bool false) (.int .i64 0) (.int .i64 0) (.bool false) (.bool false)
      generalize ((((((((w9.setCell ⟨w.heap.size + 1, 0, none⟩ (.int .u8 0)).setCell ⟨w.heap.size + 1, 1, none⟩ (.int .u16 0)).setCell ⟨w.heap.size + 1, 2, none⟩ (.int .u64 0)).setCell ⟨w.heap.size + 1, 3, none⟩ (.bool false)).setCell ⟨w.heap.size + 1, 4, none⟩ (.int .i64 0)).setCell ⟨w.heap.size + 1, 5, none⟩ (.int .i64 0)).setCell ⟨w.heap.size + 1, 6, none⟩ (.bool false)).setCell ⟨w.heap.size + 1, 7, none⟩ (.bool false)) = w10 at *
      obtain ⟨c0, c1, c2, c3, c4, c5, c6, c7⟩ := eights hg10
      have M10 := M9.out.trans hm10 (fun i hi e => by omega)
      have hne : b9 ≠ w.heap.size + 1 := by omega
      have h10 := h9.out.mod hm10 (fun k hk e => hne ((Option.some.inj hk).trans e))
      exact bodyPost_ret (v := .tuple #[.slice (some ⟨b9, 0, none⟩) 20 c9, .agg #[.int .u8 0, .int .u16 0, .int .u64 0, .bool false, .int .i64 0, .int .i64 0, .bool false, .bool false], .bool true]) (by simp [results, Try.results10, go_sem, c0, c1, c2, c3, c4, c5, c6, c7]) rfl
        ⟨b9, c9, by rw [hsl.out]; rfl, by rw [hsl.out]; exact h10, M10, by omega⟩
  · cases long
    · skip
      go_enter Try.func10, Try.ntmps10
      go_wp2_with (first
        | (go_at_call 12; rw [hW0.out]; (with_reducible refine (now_some p _ s _ E0.out.pg).mono ?_); rintro e w1 ⟨rfl, m1⟩
           have E1 := E0.out.q m1
           obtain ⟨f11, f12, f13⟩ := E1.cells
           have hz1 : w.heap.size + 1 < w1.heap.size := Nat.lt_of_lt_of_le hz0 m1.size
           have hx1 : w.heap.size < w1.heap.size := by have := hz1; omega
           have Ma := (Mod.refl (fun _ => False) w1).alloc (.cells #[.bool true, .bool true, .bool true] 23)
           have E2 := E1.q Ma
           have hv2 : (w1.alloc (.cells #[.bool true, .bool true, .bool true] 23)).heap[w1.heap.size]? = some (.cells #[.bool true, .bool true, .bool true] 23 (0, 0)) := heap_alloc_new _ _
           have M2 := (m0.out.trans m1 (by simp)).trans Ma (by simp)
           replace hv2 := hide hv2; replace E2 := hide E2; replace m1 := hide m1; replace E1 := hide E1; replace Ma := hide Ma; replace M2 := hide M2)
        | (go_at_call 19; (with_reducible refine (control_any ⟨true, true, true⟩ _).mono ?_); rintro e w6 ⟨g6, rfl, r6, m6, o6⟩
           have E6 := E2.out.q m6
           obtain ⟨f61, f62, f63⟩ := E6.cells
           have hv6 := m6.heap hv2.out (by simp)
           obtain ⟨v60, v61, v62⟩ := vals (v := ⟨true, true, true⟩) hv6
           have M6 := M2.out.trans m6 (by simp)
           have hz6 : w1.heap.size < w6.heap.size := (Array.getElem?_eq_some_iff.1 hv6).1
           have hy6 : w.heap.size + 1 < w6.heap.size := by have := hz1; omega
           have hx6 : w.heap.size < w6.heap.size := by have := hz1; omega
           replace E6 := hide E6; replace hv6 := hide hv6; replace M6 := hide M6
           replace r6 := hide r6; replace m6 := hide m6)
        | (at_builtin; refine list_app (.tmp 45) (.tmp 47) 25 5 _ 1 1 (ic .u8) rfl rfl (ic_len _) (ic_one _) Try.underlying25 elem5 (.slice none 0 0) [] (some ⟨g6, 0, none⟩) 12 12 (ctlL ⟨true, true, true⟩) rfl rfl (Row.nil _ _ _ _) (r6.out.rd (ic_len _) rfl) (by simp [maxLen]) (by simp) ?_
           intro v7 w7 h7 g7 a7
           have n7 := none_mod g7
           obtain ⟨b7, c7, e7, -⟩ := h7.some_ (by simp [ctlL])
           replace e7 : v7 = .slice (some ⟨b7, 0, none⟩) 12 c7 := e7
           have o7 : w1.heap.size ≤ b7 := own_new a7 e7 (by simp [Value.ownBlock]) (Nat.le_of_lt hz6)
           subst e7
           have E7 := E6.out.q n7
           obtain ⟨f71, f72, f73⟩ := E7.cells
           have hv7 := n7.heap hv6.out (by simp)
           obtain ⟨v70, v71, v72⟩ := vals (v := ⟨true, true, true⟩) hv7
           have M7 := M6.out.trans n7 (by simp)
           have hz7 : w1.heap.size < w7.heap.size := (Array.getElem?_eq_some_iff.1 hv7).1
           have hy7 : w.heap.size + 1 < w7.heap.size := by have := hz1; omega
           have hx7 : w.heap.size < w7.heap.size := by have := hz1; omega
           replace E7 := hide E7; replace hv7 := hide hv7; replace M7 := hide M7
           replace h7 : Row w7 5 1 (ic .u8) (.slice (some ⟨b7, 0, none⟩) 12 c7) (ctlL ⟨true, true, true⟩) := h7
           clear g7 a7
           replace h7 := hide h7; replace n7 := hide n7)
        | (go_at_call 12; (with_reducible refine (now_some p _ s _ E7.out.pg).mono ?_); rintro e w8 ⟨rfl, m8⟩
           have E8 := E7.out.q m8
           obtain ⟨f81, f82, f83⟩ := E8.cells
           have M8 := M7.out.trans m8 (by simp)
           have hy8 : w.heap.size + 1 < w8.heap.size := by have := m8.size; omega
           have hx8 : w.heap.size < w8.heap.size := by have := m8.size; omega
           have h8 := hide (h7.out.mod m8 (by simp))
           replace E8 := hide E8; replace M8 := hide M8; replace m8 := hide m8)
        | (at_builtin; refine list_app (.tmp 71) (.tmp 72) 25 5 _ 1 1 (ic .u8) rfl rfl (ic_len _) (ic_one _) Try.underlying25 elem5 (.slice (some ⟨w8.heap.size, 0, none⟩) 4 4) [15, 0, 144, 0] (some ⟨b7, 0, none⟩) 12 c7 (ctlL ⟨true, true, true⟩) rfl rfl (row_lit (l := [15, 0, 144, 0]) (heap_alloc_new _ _) (by simp)) ((h8.out.alloc _).rd (ic_len _) rfl) (by simp [maxLen]) (by simp) ?_
           intro v9 w9 h9 g9 a9
           have mal : Mod (fun _ => False) w8 (w8.alloc (.cells #[.int .u8 15, .int .u8 0, .int .u8 144, .int .u8 0] 5)) := (Mod.refl (fun _ => False) w8).alloc _
           have g9m : Mod (fun k => some (w8.heap.size) = some k) (w8.alloc (.cells #[.int .u8 15, .int .u8 0, .int .u8 144, .int .u8 0] 5)) w9 := grown_mod g9
           obtain ⟨b9, c9, e9, -⟩ := h9.some_ (by simp)
           replace e9 : v9 = .slice (some ⟨b9, 0, none⟩) 16 c9 := e9
           have o9 : w8.heap.size ≤ b9 := own_new a9 e9 (fun k hk => by have e : w8.heap.size = k := Option.some.inj hk; omega) (by simp <;> omega)
           have hplt := E8.out.pg.lt
           have E9 := (E8.out.q mal).mod g9m (by simp; omega) (by simp; omega) (by simp; omega)
           have M9 := (M8.out.trans mal (by simp)).trans g9m (fun i hi e => by have e := Option.some.inj e; omega)
           have hb9 := E9.2.1
           subst e9
           clear g9 a9 g9m mal hplt
           replace E9 := hide E9; replace M9 := hide M9; obtain ⟨y0, y1, y2, y3, y4, y5, y6, y7⟩ := eights hb9
           have hx9 : w.heap.size + 1 < w9.heap.size := (Array.getElem?_eq_some_iff.1 hb9).1
           have fz : ∀ j, w9.frozen? ⟨w.heap.size + 1, j, none⟩ = false := fun j => frozen_of_row _ _ _ _ _ hb9
           have z0 := fz 0; have z1 := fz 1; have z2 := fz 2; have z3 := fz 3; have z4 := fz 4; have z5 := fz 5; have z6 := fz 6; have z7 := fz 7
           clear fz
           replace h9 := hide h9; replace hb9 := hide hb9))
      obtain ⟨hg10, hm10⟩ := set8 hb9.out (.int .u8 0) (.int .u16 0) (.int .u64 0) (.bool false) (.int .i64 0) (.int .i64 0) (.bool false) (.bool false)
      generalize ((((((((w9.setCell ⟨w.heap.size + 1, 0, none⟩ (.int .u8 0)).setCell ⟨w.heap.size + 1, 1, none⟩ (.int .u16 0)).setCell ⟨w.heap.size + 1, 2, none⟩ (.int .u64 0)).setCell ⟨w.heap.size + 1, 3, none⟩ (.bool false)).setCell ⟨w.heap.size + 1, 4, none⟩ (.int .i64 0)).setCell ⟨w.heap.size + 1, 5, none⟩ (.int .i64 0)).setCell ⟨w.heap.size + 1, 6, none⟩ (.bool false)).setCell ⟨w.heap.size + 1, 7, none⟩ (.bool false)) = w10 at *
      obtain ⟨c0, c1, c2, c3, c4, c5, c6, c7⟩ := eights hg10
      have M10 := M9.out.trans hm10 (fun i hi e => by omega)
      have hne : b9 ≠ w.heap.size + 1 := by omega
      have h10 := h9.out.mod hm10 (fun k hk e => hne ((Option.some.inj hk).trans e))
      exact bodyPost_ret (v := .tuple #[.slice (some ⟨b9, 0, none⟩) 16 c9, .agg #[.int .u8 0, .int .u16 0, .int .u64 0, .bool false, .int .i64 0, .int .i64 0, .bool false, .bool false], .bool true]) (by simp [results, Try.results10, go_sem, c0, c1, c2, c3, c4, c5, c6, c7]) rfl
        ⟨b9, c9, by rw [hsl.out]; rfl, by rw [hsl.out]; exact h10, M10, by omega⟩
    · skip
      go_enter Try.func10, Try.ntmps10
      go_wp2_with (first
        | (go_at_call 12; rw [hW0.out]; (with_reducible refine (now_some p _ s _ E0.out.pg).mono ?_); rintro e w1 ⟨rfl, m1⟩
           have E1 := E0.out.q m1
           obtain ⟨f11, f12, f13⟩ := E1.cells
           have hz1 : w.heap.size + 1 < w1.heap.size := Nat.lt_of_lt_of_le hz0 m1.size
           have hx1 : w.heap.size < w1.heap.size := by have := hz1; omega
           have Ma := (Mod.refl (fun _ => False) w1).alloc (.cells #[.bool true, .bool true, .bool true] 23)
           have E2 := E1.q Ma
           have hv2 : (w1.alloc (.cells #[.bool true, .bool true, .bool true] 23)).heap[w1.heap.size]? = some (.cells #[.bool true, .bool true, .bool true] 23 (0, 0)) := heap_alloc_new _ _
           have M2 := (m0.out.trans m1 (by simp)).trans Ma (by simp)
           replace hv2 := hide hv2; replace E2 := hide E2; replace m1 := hide m1; replace E1 := hide E1; replace Ma := hide Ma; replace M2 := hide M2)
        | (go_at_call 19; (with_reducible refine (control_any ⟨true, true, true⟩ _).mono ?_); rintro e w6 ⟨g6, rfl, r6, m6, o6⟩
           have E6 := E2.out.q m6
           obtain ⟨f61, f62, f63⟩ := E6.cells
           have hv6 := m6.heap hv2.out (by simp)
           obtain ⟨v60, v61, v62⟩ := vals (v := ⟨true, true, true⟩) hv6
           have M6 := M2.out.trans m6 (by simp)
           have hz6 : w1.heap.size < w6.heap.size := (Array.getElem?_eq_some_iff.1 hv6).1
           have hy6 : w.heap.size + 1 < w6.heap.size := by have := hz1; omega
           have hx6 : w.heap.size < w6.heap.size := by have := hz1; omega
           replace E6 := hide E6; replace hv6 := hide hv6; replace M6 := hide M6
           replace r6 := hide r6; replace m6 := hide m6)
        | (at_builtin; refine list_app (.tmp 45) (.tmp 47) 25 5 _ 1 1 (ic .u8) rfl rfl (ic_len _) (ic_one _) Try.underlying25 elem5 (.slice none 0 0) [] (some ⟨g6, 0, none⟩) 12 12 (ctlL ⟨true, true, true⟩) rfl rfl (Row.nil _ _ _ _) (r6.out.rd (ic_len _) rfl) (by simp [maxLen]) (by simp) ?_
           intro v7 w7 h7 g7 a7
           have n7 := none_mod g7
           obtain ⟨b7, c7, e7, -⟩ := h7.some_ (by simp [ctlL])
           replace e7 : v7 = .slice (some ⟨b7, 0, none⟩) 12 c7 := e7
           have o7 : w1.heap.size ≤ b7 := own_new a7 e7 (by simp [Value.ownBlock]) (Nat.le_of_lt hz6)
           subst e7
           have E7 := E6.out.q n7
           obtain ⟨f71, f72, f73⟩ := E7.cells
           have hv7 := n7.heap hv6.out (by simp)
           obtain ⟨v70, v71, v72⟩ := vals (v := ⟨true, true, true⟩) hv7
           have M7 := M6.out.trans n7 (by simp)
           have hz7 : w1.heap.size < w7.heap.size := (Array.getElem?_eq_some_iff.1 hv7).1
           have hy7 : w.heap.size + 1 < w7.heap.size := by have := hz1; omega
           have hx7 : w.heap.size < w7.heap.size := by have := hz1; omega
           replace E7 := hide E7; replace hv7 := hide hv7; replace M7 := hide M7
           replace h7 : Row w7 5 1 (ic .u8) (.slice (some ⟨b7, 0, none⟩) 12 c7) (ctlL ⟨true, true, true⟩) := h7
           clear g7 a7
           replace h7 := hide h7; replace n7 := hide n7)
        | (go_at_call 12; (with_reducible refine (now_some p _ s _ E7.out.pg).mono ?_); rintro e w8 ⟨rfl, m8⟩
           have E8 := E7.out.q m8
           obtain ⟨f81, f82, f83⟩ := E8.cells
           have M8 := M7.out.trans m8 (by simp)
           have hy8 : w.heap.size + 1 < w8.heap.size := by have := m8.size; omega
           have hx8 : w.heap.size < w8.heap.size := by have := m8.size; omega
           have h8 := hide (h7.out.mod m8 (by simp))
           replace E8 := hide E8; replace M8 := hide M8; replace m8 := hide m8)
        | (at_builtin; refine list_app (.tmp 71) (.tmp 72) 25 5 _ 1 1 (ic .u8) rfl rfl (ic_len _) (ic_one _) Try.underlying25 elem5 (.slice (some ⟨w8.heap.size + 1, 0, none⟩) 8 8) [0, 18, 0, 144, 0, 0, 0, 0] (some ⟨b7, 0, none⟩) 12 c7 (ctlL ⟨true, true, true⟩) rfl rfl (row_lit (l := [0, 18, 0, 144, 0, 0, 0, 0]) (alloc2 _ _ _) (by simp)) (((h8.out.alloc _).alloc _).rd (ic_len _) rfl) (by simp [maxLen]) (by simp) ?_
           intro v9 w9 h9 g9 a9
           have mal : Mod (fun _ => False) w8 ((w8.alloc (.cells #[.int .u8 15, .int .u8 0, .int .u8 144, .int .u8 0] 5)).alloc (.cells #[.int .u8 0, .int .u8 18, .int .u8 0, .int .u8 144, .int .u8 0, .int .u8 0, .int .u8 0, .int .u8 0] 5)) := ((Mod.refl (fun _ => False) w8).alloc _).alloc _
           have g9m : Mod (fun k => some (w8.heap.size + 1) = some k) ((w8.alloc (.cells #[.int .u8 15, .int .u8 0, .int .u8 144, .int .u8 0] 5)).alloc (.cells #[.int .u8 0, .int .u8 18, .int .u8 0, .int .u8 144, .int .u8 0, .int .u8 0, .int .u8 0, .int .u8 0] 5)) w9 := grown_mod g9
           obtain ⟨b9, c9, e9, -⟩ := h9.some_ (by simp)
           replace e9 : v9 = .slice (some ⟨b9, 0, none⟩) 20 c9 := e9
           have o9 : w8.heap.size ≤ b9 := own_new a9 e9 (fun k hk => by have e : w8.heap.size + 1 = k := Option.some.inj hk; omega) (by simp <;> omega)
           have hplt := E8.out.pg.lt
           have E9 := (E8.out.q mal).mod g9m (by simp; omega) (by simp; omega) (by simp; omega)
           have M9 := (M8.out.trans mal (by simp)).trans g9m (fun i hi e => by have e := Option.some.inj e; omega)
           have hb9 := E9.2.1
           subst e9
           clear g9 a9 g9m mal hplt
           replace E9 := hide E9; replace M9 := hide M9; obtain ⟨y0, y1, y2, y3, y4, y5, y6, y7⟩ := eights hb9
           have hx9 : w.heap.size + 1 < w9.heap.size := (Array.getElem?_eq_some_iff.1 hb9).1
           have fz : ∀ j, w9.frozen? ⟨w.heap.size + 1, j, none⟩ = false := fun j => frozen_of_row _ _ _ _ _ hb9
           have z0 := fz 0; have z1 := fz 1; have z2 := fz 2; have z3 := fz 3; have z4 := fz 4; have z5 := fz 5; have z6 := fz 6; have z7 := fz 7
           clear fz
           replace h9 := hide h9; replace hb9 := hide hb9))
      obtain ⟨hg10, hm10⟩ := set8 hb9.out (.int .u8 0) (.int .u16 0) (.int .u64 0) (.bool false) (.int .i64 0) (.int .i64 0) (.bool false) (.bool false)
      generalize ((((((((w9.setCell ⟨w.heap.size + 1, 0, none⟩ (.int .u8 0)).setCell ⟨w.heap.size + 1, 1, none⟩ (.int .u16 0)).setCell ⟨w.heap.size + 1, 2, none⟩ (.int .u64 0)).setCell ⟨w.heap.size + 1, 3, none⟩ (.bool false)).setCell ⟨w.heap.size + 1, 4, none⟩ (.int .i64 0)).setCell ⟨w.heap.size + 1, 5, none⟩ (.int .i64 0)).setCell ⟨w.heap.size + 1, 6, none⟩ (.bool false)).setCell ⟨w.heap.size + 1, 7, none⟩ (.bool false)) = w10 at *
      obtain ⟨c0, c1, c2, c3, c4, c5, c6, c7⟩ := eights hg10
      have M10 := M9.out.trans hm10 (fun i hi e => by omega)
      have hne : b9 ≠ w.heap.size + 1 := by omega
      have h10 := h9.out.mod hm10 (fun k hk e => hne ((Option.some.inj hk).trans e))
      exact bodyPost_ret (v := .tuple #[.slice (some ⟨b9, 0, none⟩) 20 c9, .agg #[.int .u8 0, .int .u16 0, .int .u64 0, .bool false, .int .i64 0, .int .i64 0, .bool false, .bool false], .bool true]) (by simp [results, Try.results10, go_sem, c0, c1, c2, c3, c4, c5, c6, c7]) rfl
        ⟨b9, c9, by rw [hsl.out]; rfl, by rw [hsl.out]; exact h10, M10, by omega⟩

set_option maxRecDepth 100000 in
set_option maxHeartbeats 2000000 in
theorem sense_1_63 (p : Nat) (c : C) (n s : V) (w : World) (hpg : PG w p n s) (hc : c.control = 1) (hp : c.page = 63) :
    Calls Try.prog 10 #[.pointer (some ⟨p, 0, none⟩), cv c] w (Told c n s w) := by
  have hsl : senseL c n s = headL c.long (devB n) 32 ++ bodyL 63 ⟨true, true, true⟩ := by
    simp [senseL, hp, hc, bodyL, vOf, cachL, ctlL]
  obtain ⟨kind, long, lba, blocks, alloc, fua, prot, unmap, evpd, page, control, save, service, type, bytes⟩ := c
  replace hp : page = 63 := hp
  subst hp
  replace hc : control = 1 := hc
  subst hc
  have m0 : Mod (fun _ => False) w ((w.alloc (.cells (cc ⟨kind, long, lba, blocks, alloc, fua, prot, unmap, evpd, 63, 1, save, service, type, bytes⟩) 36)).alloc (.cells #[.int .u8 0, .int .u16 0, .int .u64 0, .bool false, .int .i64 0, .int .i64 0, .bool false, .bool false] 31)) := ((Mod.refl _ w).alloc _).alloc _
  have E0 : Env ((w.alloc (.cells (cc ⟨kind, long, lba, blocks, alloc, fua, prot, unmap, evpd, 63, 1, save, service, type, bytes⟩) 36)).alloc (.cells #[.int .u8 0, .int .u16 0, .int .u64 0, .bool false, .int .i64 0, .int .i64 0, .bool false, .bool false] 31)) w.heap.size (w.heap.size + 1) ⟨kind, long, lba, blocks, alloc, fua, prot, unmap, evpd, 63, 1, save, service, type, bytes⟩ p n s := ⟨heap_alloc2_old _ _ _, heap_alloc2_new _ _ _, hpg.mod m0 (by simp)⟩
  have hz0 : w.heap.size + 1 < ((w.alloc (.cells (cc ⟨kind, long, lba, blocks, alloc, fua, prot, unmap, evpd, 63, 1, save, service, type, bytes⟩) 36)).alloc (.cells #[.int .u8 0, .int .u16 0, .int .u64 0, .bool false, .int .i64 0, .int .i64 0, .bool false, .bool false] 31)).heap.size := by simp
  generalize hW0 : (w.alloc (.cells (cc ⟨kind, long, lba, blocks, alloc, fua, prot, unmap, evpd, 63, 1, save, service, type, bytes⟩) 36)).alloc (.cells #[.int .u8 0, .int .u16 0, .int .u64 0, .bool false, .int .i64 0, .int .i64 0, .bool false, .bool false] 31) = W0 at *
  obtain ⟨cb, hcb⟩ : ∃ cb, cb = w.heap.size := ⟨_, rfl⟩
  have hp1 : p < cb := by rw [hcb]; exact hpg.lt
  clear hpg
  have hf2 := field2
  have hsn : ∀ (w : World) (a : Option Addr) (n c n' c' : Nat), (binOp .eql 25 (.slice a n c) (.slice none n' c')).run Try.prog w = .ok (.bool a.isNone) w := fun w a n c n' c' => Lib.run_eql_slice_nil w 25 5 a n c n' c' Try.underlying25
  obtain ⟨na, nb, nc⟩ := n
  replace m0 := hide m0; replace E0 := hide E0; replace hW0 := hide hW0; replace hsl := hide hsl; replace hcb := hide hcb
  cases nc
  · cases long
    · skip
      go_enter Try.func10, Try.ntmps10
      go_wp2_with (first
        | (go_at_call 12; rw [hW0.out]; (with_reducible refine (now_some p _ s _ E0.out.pg).mono ?_); rintro e w1 ⟨rfl, m1⟩
           have E1 := E0.out.q m1
           obtain ⟨f11, f12, f13⟩ := E1.cells
           have hz1 : w.heap.size + 1 < w1.heap.size := Nat.lt_of_lt_of_le hz0 m1.size
           have hx1 : w.heap.size < w1.heap.size := by have := hz1; omega
           have Ma := (Mod.refl (fun _ => False) w1).alloc (.cells #[.bool true, .bool true, .bool true] 23)
           have E2 := E1.q Ma
           have hv2 : (w1.alloc (.cells #[.bool true, .bool true, .bool true] 23)).heap[w1.heap.size]? = some (.cells #[.bool true, .bool true, .bool true] 23 (0, 0)) := heap_alloc_new _ _
           have M2 := (m0.out.trans m1 (by simp)).trans Ma (by simp)
           replace hv2 := hide hv2; replace E2 := hide E2; replace m1 := hide m1; replace E1 := hide E1; replace Ma := hide Ma; replace M2 := hide M2)
        | (go_at_call 18; (with_reducible refine (caching_any ⟨true, true, true⟩ _).mono ?_); rintro e w4 ⟨g4, rfl, r4, m4, o4⟩
           have E4 := E2.out.q m4
           obtain ⟨f41, f42, f43⟩ := E4.cells
           have hv4 := m4.heap hv2.out (by simp)
           obtain ⟨v40, v41, v42⟩ := vals (v := ⟨true, true, true⟩) hv4
           have M4 := M2.out.trans m4 (by simp)
           have hz4 : w1.heap.size < w4.heap.size := (Array.getElem?_eq_some_iff.1 hv4).1
           have hy4 : w.heap.size + 1 < w4.heap.size := by have := hz1; omega
           have hx4 : w.heap.size < w4.heap.size := by have := hz1; omega
           replace E4 := hide E4; replace hv4 := hide hv4; replace M4 := hide M4
           replace r4 := hide r4; replace m4 := hide m4)
        | (at_builtin; refine list_app (.tmp 33) (.tmp 35) 25 5 _ 1 1 (ic .u8) rfl rfl (ic_len _) (ic_one _) Try.underlying25 elem5 (.slice none 0 0) [] (some ⟨g4, 0, none⟩) 20 20 (cachL ⟨true, true, true⟩) rfl rfl (Row.nil _ _ _ _) (r4.out.rd (ic_len _) rfl) (by simp [maxLen]) (by simp) ?_
           intro v5 w5 h5 g5 a5
           have n5 := none_mod g5
           obtain ⟨b5, c5, e5, -⟩ := h5.some_ (by simp [cachL])
           replace e5 : v5 = .slice (some ⟨b5, 0, none⟩) 20 c5 := e5
           have o5 : w1.heap.size ≤ b5 := own_new a5 e5 (by simp [Value.ownBlock]) (Nat.le_of_lt hz4)
           subst e5
           have E5 := E4.out.q n5
           obtain ⟨f51, f52, f53⟩ := E5.cells
           have hv5 := n5.heap hv4.out (by simp)
           obtain ⟨v50, v51, v52⟩ := vals (v := ⟨true, true, true⟩) hv5
           have M5 := M4.out.trans n5 (by simp)
           have hz5 : w1.heap.size < w5.heap.size := (Array.getElem?_eq_some_iff.1 hv5).1
           have hy5 : w.heap.size + 1 < w5.heap.size := by have := hz1; omega
           have hx5 : w.heap.size < w5.heap.size := by have := hz1; omega
           replace E5 := hide E5; replace hv5 := hide hv5; replace M5 := hide M5
           replace h5 : Row w5 5 1 (ic .u8) (.slice (some ⟨b5, 0, none⟩) 20 c5) (cachL ⟨true, true, true⟩) := h5
           clear g5 a5
           replace h5 := hide h5; replace n5 := hide n5)
        | (go_at_call 19; (with_reducible refine (control_any ⟨true, true, true⟩ _).mono ?_); rintro e w6 ⟨g6, rfl, r6, m6, o6⟩
           have E6 := E5.out.q m6
           obtain ⟨f61, f62, f63⟩ := E6.cells
           have hv6 := m6.heap hv5.out (by simp)
           obtain ⟨v60, v61, v62⟩ := vals (v := ⟨true, true, true⟩) hv6
           have M6 := M5.out.trans m6 (by simp)
           have hz6 : w1.heap.size < w6.heap.size := (Array.getElem?_eq_some_iff.1 hv6).1
           have hy6 : w.heap.size + 1 < w6.heap.size := by have := hz1; omega
           have hx6 : w.heap.size < w6.heap.size := by have := hz1; omega
           replace E6 := hide E6; replace hv6 := hide hv6; replace M6 := hide M6
           have h5b := hide (h5.out.mod m6 (by simp))
           replace r6 := hide r6; replace m6 := hide m6)
        | (at_builtin; refine list_app (.tmp 45) (.tmp 47) 25 5 _ 1 1 (ic .u8) rfl rfl (ic_len _) (ic_one _) Try.underlying25 elem5 (.slice (some ⟨b5, 0, none⟩) 20 c5) (cachL ⟨true, true, true⟩) (some ⟨g6, 0, none⟩) 12 12 (ctlL ⟨true, true, true⟩) rfl rfl h5b.out (r6.out.rd (ic_len _) rfl) (by simp [maxLen, cachL]) (by simp [cachL]) ?_
           intro v7 w7 h7 g7 a7
           obtain ⟨b7, c7, e7, -⟩ := h7.some_ (by simp [cachL])
           replace e7 : v7 = .slice (some ⟨b7, 0, none⟩) 32 c7 := e7
           have o7 : w1.heap.size ≤ b7 := own_new a7 e7 (fun k hk => by obtain rfl := Option.some.inj hk; exact o5) (Nat.le_of_lt hz6)
           have g7m : Mod (fun k => some b5 = some k) w6 w7 := grown_mod g7
           have hb5 : b5 < w6.heap.size := h5b.out.lt b5 rfl
           have o5s := o5
           have hpl := hp1
           have hcbo := hcb.out
           have hv56 : b5 ≠ w1.heap.size := fun e => by have := h5b.out.ne hv6.out (by decide); simp [Value.ownBlock, e] at this
           have E7 := E6.out.mod g7m (by simp; omega) (by simp; omega) (by simp; omega)
           obtain ⟨f71, f72, f73⟩ := E7.cells
           have M7 := M6.out.trans g7m (fun i hi e => by have e := Option.some.inj e; omega)
           have hy7 : w.heap.size + 1 < w7.heap.size := by have := g7m.size; omega
           have hx7 : w.heap.size < w7.heap.size := by have := g7m.size; omega
           subst e7
           replace h7 : Row w7 5 1 (ic .u8) (.slice (some ⟨b7, 0, none⟩) 32 c7) (cachL ⟨true, true, true⟩ ++ ctlL ⟨true, true, true⟩) := h7
           clear g7 a7 hv56 hcbo hpl
           replace E7 := hide E7; replace M7 := hide M7; replace g7m := hide g7m; replace h7 := hide h7)
        | (go_at_call 12; (with_reducible refine (now_some p _ s _ E7.out.pg).mono ?_); rintro e w8 ⟨rfl, m8⟩
           have E8 := E7.out.q m8
           obtain ⟨f81, f82, f83⟩ := E8.cells
           have M8 := M7.out.trans m8 (by simp)
           have hy8 : w.heap.size + 1 < w8.heap.size := by have := m8.size; omega
           have hx8 : w.heap.size < w8.heap.size := by have := m8.size; omega
           have h8 := hide (h7.out.mod m8 (by simp))
           replace E8 := hide E8; replace M8 := hide M8; replace m8 := hide m8)
        | (at_builtin; refine list_app (.tmp 71) (.tmp 72) 25 5 _ 1 1 (ic .u8) rfl rfl (ic_len _) (ic_one _) Try.underlying25 elem5 (.slice (some ⟨w8.heap.size, 0, none⟩) 4 4) [35, 0, 16, 0] (some ⟨b7, 0, none⟩) 32 c7 (cachL ⟨true, true, true⟩ ++ ctlL ⟨true, true, true⟩) rfl rfl (row_lit (l := [35, 0, 16, 0]) (heap_alloc_new _ _) (by simp)) ((h8.out.alloc _).rd (ic_len _) rfl) (by simp [maxLen]) (by simp) ?_
           intro v9 w9 h9 g9 a9
           have mal : Mod (fun _ => False) w8 (w8.alloc (.cells #[.int .u8 35, .int .u8 0, .int .u8 16, .int .u8 0] 5)) := (Mod.refl (fun _ => False) w8).alloc _
           have g9m : Mod (fun k => some (w8.heap.size) = some k) (w8.alloc (.cells #[.int .u8 35, .int .u8 0, .int .u8 16, .int .u8 0] 5)) w9 := grown_mod g9
           obtain ⟨b9, c9, e9, -⟩ := h9.some_ (by simp)
           replace e9 : v9 = .slice (some ⟨b9, 0, none⟩) 36 c9 := e9
           have o9 : w8.heap.size ≤ b9 := own_new a9 e9 (fun k hk => by have e : w8.heap.size = k := Option.some.inj hk; omega) (by simp <;> omega)
           have hplt := E8.out.pg.lt
           have E9 := (E8.out.q mal).mod g9m (by simp; omega) (by simp; omega) (by simp; omega)
           have M9 := (M8.out.trans mal (by simp)).trans g9m (fun i hi e => by have e := Option.some.inj e; omega)
           have hb9 := E9.2.1
           subst e9
           clear g9 a9 g9m mal hplt
           replace E9 := hide E9; replace M9 := hide M9; obtain ⟨y0, y1, y2, y3, y4, y5, y6, y7⟩ := eights hb9
           have hx9 : w.heap.size + 1 < w9.heap.size := (Array.getElem?_eq_some_iff.1 hb9).1
           have fz : ∀ j, w9.frozen? ⟨w.heap.size + 1, j, none⟩ = false := fun j => frozen_of_row _ _ _ _ _ hb9
           have z0 := fz 0; have z1 := fz 1; have z2 := fz 2; have z3 := fz 3; have z4 := fz 4; have z5 := fz 5; have z6 := fz 6; have z7 := fz 7
           clear fz
           replace h9 := hide h9; replace hb9 := hide hb9))
      obtain ⟨hg10, hm10⟩ := set8 hb9.out (.int .u8 0) (.int .u16 0) (.int .u64 0) (.bool false) (.int .i64 0) (.int .i64 0) (.bool false) (.bool false)
      generalize ((((((((w9.setCell ⟨w.heap.size + 1, 0, none⟩ (.int .u8 0)).setCell ⟨w.heap.size + 1, 1, none⟩ (.int .u16 0)).setCell ⟨w.heap.size + 1, 2, none⟩ (.int .u64 0)).setCell ⟨w.heap.size + 1, 3, none⟩ (.bool false)).setCell ⟨w.heap.size + 1, 4, none⟩ (.int .i64 0)).setCell ⟨w.heap.size + 1, 5, none⟩ (.int .i64 0)).setCell ⟨w.heap.size + 1, 6, none⟩ (.bool false)).setCell ⟨w.heap.size + 1, 7, none⟩ (.bool false)) = w10 at *
      obtain ⟨c0, c1, c2, c3, c4, c5, c6, c7⟩ := eights hg10
      have M10 := M9.out.trans hm10 (fun i hi e => by omega)
      have hne : b9 ≠ w.heap.size + 1 := by omega
      have h10 := h9.out.mod hm10 (fun k hk e => hne ((Option.some.inj hk).trans e))
      exact bodyPost_ret (v := .tuple #[.slice (some ⟨b9, 0, none⟩) 36 c9, .agg #[.int .u8 0, .int .u16 0, .int .u64 0, .bool false, .int .i64 0, .int .i64 0, .bool false, .bool false], .bool true]) (by simp [results, Try.results10, go_sem, c0, c1, c2, c3, c4, c5, c6, c7]) rfl
        ⟨b9, c9, by rw [hsl.out]; rfl, by rw [hsl.out]; exact h10, M10, by omega⟩
    · skip
      go_enter Try.func10, Try.ntmps10
      go_wp2_with (first
        | (go_at_call 12; rw [hW0.out]; (with_reducible refine (now_some p _ s _ E0.out.pg).mono ?_); rintro e w1 ⟨rfl, m1⟩
           have E1 := E0.out.q m1
           obtain ⟨f11, f12, f13⟩ := E1.cells
           have hz1 : w.heap.size + 1 < w1.heap.size := Nat.lt_of_lt_of_le hz0 m1.size
           have hx1 : w.heap.size < w1.heap.size := by have := hz1; omega
           have Ma := (Mod.refl (fun _ => False) w1).alloc (.cells #[.bool true, .bool true, .bool true] 23)
           have E2 := E1.q Ma
           have hv2 : (w1.alloc (.cells #[.bool true, .bool true, .bool true] 23)).heap[w1.heap.size]? = some (.cells #[.bool true, .bool true, .bool true] 23 (0, 0)) := heap_alloc_new _ _
           have M2 := (m0.out.trans m1 (by simp)).trans Ma (by simp)
           replace hv2 := hide hv2; replace E2 := hide E2; replace m1 := hide m1; replace E1 := hide E1; replace Ma := hide Ma; replace M2 := hide M2)
        | (go_at_call 18; (with_reducible refine (caching_any ⟨true, true, true⟩ _).mono ?_); rintro e w4 ⟨g4, rfl, r4, m4, o4⟩
           have E4 := E2.out.q m4
           obtain ⟨f41, f42, f43⟩ := E4.cells
           have hv4 := m4.heap hv2.out (by simp)
           obtain ⟨v40, v41, v42⟩ := vals (v := ⟨true, true, true⟩) hv4
           have M4 := M2.out.trans m4 (by simp)
           have hz4 : w1.heap.size < w4.heap.size := (Array.getElem?_eq_some_iff.1 hv4).1
           have hy4 : w.heap.size + 1 < w4.heap.size := by have := hz1; omega
           have hx4 : w.heap.size < w4.heap.size := by have := hz1; omega
           replace E4 := hide E4; replace hv4 := hide hv4; replace M4 := hide M4
           replace r4 := hide r4; replace m4 := hide m4)
        | (at_builtin; refine list_app (.tmp 33) (.tmp 35) 25 5 _ 1 1 (ic .u8) rfl rfl (ic_len _) (ic_one _) Try.underlying25 elem5 (.slice none 0 0) [] (some ⟨g4, 0, none⟩) 20 20 (cachL ⟨true, true, true⟩) rfl rfl (Row.nil _ _ _ _) (r4.out.rd (ic_len _) rfl) (by simp [maxLen]) (by simp) ?_
           intro v5 w5 h5 g5 a5
           have n5 := none_mod g5
           obtain ⟨b5, c5, e5, -⟩ := h5.some_ (by simp [cachL])
           replace e5 : v5 = .slice (some ⟨b5, 0, none⟩) 20 c5 := e5
           have o5 : w1.heap.size ≤ b5 := own_new a5 e5 (by simp [Value.ownBlock]) (Nat.le_of_lt hz4)
           subst e5
           have E5 := E4.out.q n5
           obtain ⟨f51, f52, f53⟩ := E5.cells
           have hv5 := n5.heap hv4.out (by simp)
           obtain ⟨v50, v51, v52⟩ := vals (v := ⟨true, true, true⟩) hv5
           have M5 := M4.out.trans n5 (by simp)
           have hz5 : w1.heap.size < w5.heap.size := (Array.getElem?_eq_some_iff.1 hv5).1
           have hy5 : w.heap.size + 1 < w5.heap.size := by have := hz1; omega
           have hx5 : w.heap.size < w5.heap.size := by have := hz1; omega
           replace E5 := hide E5; replace hv5 := hide hv5; replace M5 := hide M5
           replace h5 : Row w5 5 1 (ic .u8) (.slice (some ⟨b5, 0, none⟩) 20 c5) (cachL ⟨true, true, true⟩) := h5
           clear g5 a5
           replace h5 := hide h5; replace n5 := hide n5)
        | (go_at_call 19; (with_reducible refine (control_any ⟨true, true, true⟩ _).mono ?_); rintro e w6 ⟨g6, rfl, r6, m6, o6⟩
           have E6 := E5.out.q m6
           obtain ⟨f61, f62, f63⟩ := E6.cells
           have hv6 := m6.heap hv5.out (by simp)
           obtain ⟨v60, v61, v62⟩ := vals (v := ⟨true, true, true⟩) hv6
           have M6 := M5.out.trans m6 (by simp)
           have hz6 : w1.heap.size < w6.heap.size := (Array.getElem?_eq_some_iff.1 hv6).1
           have hy6 : w.heap.size + 1 < w6.heap.size := by have := hz1; omega
           have hx6 : w.heap.size < w6.heap.size := by have := hz1; omega
           replace E6 := hide E6; replace hv6 := hide hv6; replace M6 := hide M6
           have h5b := hide (h5.out.mod m6 (by simp))
           replace r6 := hide r6; replace m6 := hide m6)
        | (at_builtin; refine list_app (.tmp 45) (.tmp 47) 25 5 _ 1 1 (ic .u8) rfl rfl (ic_len _) (ic_one _) Try.underlying25 elem5 (.slice (some ⟨b5, 0, none⟩) 20 c5) (cachL ⟨true, true, true⟩) (some ⟨g6, 0, none⟩) 12 12 (ctlL ⟨true, true, true⟩) rfl rfl h5b.out (r6.out.rd (ic_len _) rfl) (by simp [maxLen, cachL]) (by simp [cachL]) ?_
           intro v7 w7 h7 g7 a7
           obtain ⟨b7, c7, e7, -⟩ := h7.some_ (by simp [cachL])
           replace e7 : v7 = .slice (some ⟨b7, 0, none⟩) 32 c7 := e7
           have o7 : w1.heap.size ≤ b7 := own_new a7 e7 (fun k hk => by obtain rfl := Option.some.inj hk; exact o5) (Nat.le_of_lt hz6)
           have g7m : Mod (fun k => some b5 = some k) w6 w7 := grown_mod g7
           have hb5 : b5 < w6.heap.size := h5b.out.lt b5 rfl
           have o5s := o5
           have hpl := hp1
           have hcbo := hcb.out
           have hv56 : b5 ≠ w1.heap.size := fun e => by have := h5b.out.ne hv6.out (by decide); simp [Value.ownBlock, e] at this
           have E7 := E6.out.mod g7m (by simp; omega) (by simp; omega) (by simp; omega)
           obtain ⟨f71, f72, f73⟩ := E7.cells
           have M7 := M6.out.trans g7m (fun i hi e => by have e := Option.some.inj e; omega)
           have hy7 : w.heap.size + 1 < w7.heap.size := by have := g7m.size; omega
           have hx7 : w.heap.size < w7.heap.size := by have := g7m.size; omega
           subst e7
           replace h7 : Row w7 5 1 (ic .u8) (.slice (some ⟨b7, 0, none⟩) 32 c7) (cachL ⟨true, true, true⟩ ++ ctlL ⟨true, true, true⟩) := h7
           clear g7 a7 hv56 hcbo hpl
           replace E7 := hide E7; replace M7 := hide M7; replace g7m := hide g7m; replace h7 := hide h7)
        | (go_at_call 12; (with_reducible refine (now_some p _ s _ E7.out.pg).mono ?_); rintro e w8 ⟨rfl, m8⟩
           have E8 := E7.out.q m8
           obtain ⟨f81, f82, f83⟩ := E8.cells
           have M8 := M7.out.trans m8 (by simp)
           have hy8 : w.heap.size + 1 < w8.heap.size := by have := m8.size; omega
           have hx8 : w.heap.size < w8.heap.size := by have := m8.size; omega
           have h8 := hide (h7.out.mod m8 (by simp))
           replace E8 := hide E8; replace M8 := hide M8; replace m8 := hide m8)
        | (at_builtin; refine list_app (.tmp 71) (.tmp 72) 25 5 _ 1 1 (ic .u8) rfl rfl (ic_len _) (ic_one _) Try.underlying25 elem5 (.slice (some ⟨w8.heap.size + 1, 0, none⟩) 8 8) [0, 38, 0, 16, 0, 0, 0, 0] (some ⟨b7, 0, none⟩) 32 c7 (cachL ⟨true, true, true⟩ ++ ctlL ⟨true, true, true⟩) rfl rfl (row_lit (l := [0, 38, 0, 16, 0, 0, 0, 0]) (alloc2 _ _ _) (by simp)) (((h8.out.alloc _).alloc _).rd (ic_len _) rfl) (by simp [maxLen]) (by simp) ?_
           intro v9 w9 h9 g9 a9
           have mal : Mod (fun _ => False) w8 ((w8.alloc (.cells #[.int .u8 35, .int .u8 0, .int .u8 16, .int .u8 0] 5)).alloc (.cells #[.int .u8 0, .int .u8 38, .int .u8 0, .int .u8 16, .int .u8 0, .int .u8 0, .int .u8 0, .int .u8 0] 5)) := ((Mod.refl (fun _ => False) w8).alloc _).alloc _
           have g9m : Mod (fun k => some (w8.heap.size + 1) = some k) ((w8.alloc (.cells #[.int .u8 35, .int .u8 0, .int .u8 16, .int .u8 0] 5)).alloc (.cells #[.int .u8 0, .int .u8 38, .int .u8 0, .int .u8 16, .int .u8 0, .int .u8 0, .int .u8 0, .int .u8 0] 5)) w9 := grown_mod g9
           obtain ⟨b9, c9, e9, -⟩ := h9.some_ (by simp)
           replace e9 : v9 = .slice (some ⟨b9, 0, none⟩) 40 c9 := e9
           have o9 : w8.heap.size ≤ b9 := own_new a9 e9 (fun k hk => by have e : w8.heap.size + 1 = k := Option.some.inj hk; omega) (by simp <;> omega)
           have hplt := E8.out.pg.lt
           have E9 := (E8.out.q mal).mod g9m (by simp; omega) (by simp; omega) (by simp; omega)
           have M9 := (M8.out.trans mal (by simp)).trans g9m (fun i hi e => by have e := Option.some.inj e; omega)
           have hb9 := E9.2.1
           subst e9
           clear g9 a9 g9m mal hplt
           replace E9 := hide E9; replace M9 := hide M9; obtain ⟨y0, y1, y2, y3, y4, y5, y6, y7⟩ := eights hb9
           have hx9 : w.heap.size + 1 < w9.heap.size := (Array.getElem?_eq_some_iff.1 hb9).1
           have fz : ∀ j, w9.frozen? ⟨w.heap.size + 1, j, none⟩ = false := fun j => frozen_of_row _ _ _ _ _ hb9
           have z0 := fz 0; have z1 := fz 1; have z2 := fz 2; have z3 := fz 3; have z4 := fz 4; have z5 := fz 5; have z6 := fz 6; have z7 := fz 7
           clear fz
           replace h9 := hide h9; replace hb9 := hide hb9))
      obtain ⟨hg10, hm10⟩ := set8 hb9.out (.int .u8 0) (.int .u16 0) (.int .u64 0) (.bool false) (.int .i64 0) (.int .i64 0) (.bool false) (.bool false)
      generalize ((((((((w9.setCell ⟨w.heap.size + 1, 0, none⟩ (.int .u8 0)).setCell ⟨w.heap.size + 1, 1, none⟩ (.int .u16 0)).setCell ⟨w.heap.size + 1, 2, none⟩ (.int .u64 0)).setCell ⟨w.heap.size + 1, 3, none⟩ (.bool false)).setCell ⟨w.heap.size + 1, 4, none⟩ (.int .i64 0)).setCell ⟨w.heap.size + 1, 5, none⟩ (.int .i64 0)).setCell ⟨w.heap.size + 1, 6, none⟩ (.bool false)).setCell ⟨w.heap.size + 1, 7, none⟩ (.bool false)) = w10 at *
      obtain ⟨c0, c1, c2, c3, c4, c5, c6, c7⟩ := eights hg10
      have M10 := M9.out.trans hm10 (fun i hi e => by omega)
      have hne : b9 ≠ w.heap.size + 1 := by omega
      have h10 := h9.out.mod hm10 (fun k hk e => hne ((Option.some.inj hk).trans e))
      exact bodyPost_ret (v := .tuple #[.slice (some ⟨b9, 0, none⟩) 40 c9, .agg #[.int .u8 0, .int .u16 0, .int .u64 0, .bool false, .int .i64 0, .int .i64 0, .bool false, .bool false], .bool true]) (by simp [results, Try.results10, go_sem, c0, c1, c2, c3, c4, c5, c6, c7]) rfl
        ⟨b9, c9, by rw [hsl.out]; rfl, by rw [hsl.out]; exact h10, M10, by omega⟩
  · cases long
    · skip
      go_enter Try.func10, Try.ntmps10
      go_wp2_with (first
        | (go_at_call 12; rw [hW0.out]; (with_reducible refine (now_some p _ s _ E0.out.pg).mono ?_); rintro e w1 ⟨rfl, m1⟩
           have E1 := E0.out.q m1
           obtain ⟨f11, f12, f13⟩ := E1.cells
           have hz1 : w.heap.size + 1 < w1.heap.size := Nat.lt_of_lt_of_le hz0 m1.size
           have hx1 : w.heap.size < w1.heap.size := by have := hz1; omega
           have Ma := (Mod.refl (fun _ => False) w1).alloc (.cells #[.bool true, .bool true, .bool true] 23)
           have E2 := E1.q Ma
           have hv2 : (w1.alloc (.cells #[.bool true, .bool true, .bool true] 23)).heap[w1.heap.size]? = some (.cells #[.bool true, .bool true, .bool true] 23 (0, 0)) := heap_alloc_new _ _
           have M2 := (m0.out.trans m1 (by simp)).trans Ma (by simp)
           replace hv2 := hide hv2; replace E2 := hide E2; replace m1 := hide m1; replace E1 := hide E1; replace Ma := hide Ma; replace M2 := hide M2)
        | (go_at_call 18; (with_reducible refine (caching_any ⟨true, true, true⟩ _).mono ?_); rintro e w4 ⟨g4, rfl, r4, m4, o4⟩
           have E4 := E2.out.q m4
           obtain ⟨f41, f42, f43⟩ := E4.cells
           have hv4 := m4.heap hv2.out (by simp)
           obtain ⟨v40, v41, v42⟩ := vals (v := ⟨true, true, true⟩) hv4
           have M4 := M2.out.trans m4 (by simp)
           have hz4 : w1.heap.size < w4.heap.size := (Array.getElem?_eq_some_iff.1 hv4).1
           have hy4 : w.heap.size + 1 < w4.heap.size := by have := hz1; omega
           have hx4 : w.heap.size < w4.heap.size := by have := hz1; omega
           replace E4 := hide E4; replace hv4 := hide hv4; replace M4 := hide M4
           replace r4 := hide r4; replace m4 := hide m4)
        | (at_builtin; refine list_app (.tmp 33) (.tmp 35) 25 5 _ 1 1 (ic .u8) rfl rfl (ic_len _) (ic_one _) Try.underlying25 elem5 (.slice none 0 0) [] (some ⟨g4, 0, none⟩) 20 20 (cachL ⟨true, true, true⟩) rfl rfl (Row.nil _ _ _ _) (r4.out.rd (ic_len _) rfl) (by simp [maxLen]) (by simp) ?_
           intro v5 w5 h5 g5 a5
           have n5 := none_mod g5
           obtain ⟨b5, c5, e5, -⟩ := h5.some_ (by simp [cachL])
           replace e5 : v5 = .slice (some ⟨b5, 0, none⟩) 20 c5 := e5
           have o5 : w1.heap.size ≤ b5 := own_new a5 e5 (by simp [Value.ownBlock]) (Nat.le_of_lt hz4)
           subst e5
           have E5 := E4.out.q n5
           obtain ⟨f51, f52, f53⟩ := E5.cells
           have hv5 := n5.heap hv4.out (by simp)
           obtain ⟨v50, v51, v52⟩ := vals (v := ⟨true, true, true⟩) hv5
           have M5 := M4.out.trans n5 (by simp)
           have hz5 : w1.heap.size < w5.heap.size := (Array.getElem?_eq_some_iff.1 hv5).1
           have hy5 : w.heap.size + 1 < w5.heap.size := by have := hz1; omega
           have hx5 : w.heap.size < w5.heap.size := by have := hz1; omega
           replace E5 := hide E5; replace hv5 := hide hv5; replace M5 := hide M5
           replace h5 : Row w5 5 1 (ic .u8) (.slice (some ⟨b5, 0, none⟩) 20 c5) (cachL ⟨true, true, true⟩) := h5
           clear g5 a5
           replace h5 := hide h5; replace n5 := hide n5)
        | (go_at_call 19; (with_reducible refine (control_any ⟨true, true, true⟩ _).mono ?_); rintro e w6 ⟨g6, rfl, r6, m6, o6⟩
           have E6 := E5.out.q m6
           obtain ⟨f61, f62, f63⟩ := E6.cells
           have hv6 := m6.heap hv5.out (by simp)
           obtain ⟨v60, v61, v62⟩ := vals (v := ⟨true, true, true⟩) hv6
           have M6 := M5.out.trans m6 (by simp)
           have hz6 : w1.heap.size < w6.heap.size := (Array.getElem?_eq_some_iff.1 hv6).1
           have hy6 : w.heap.size + 1 < w6.heap.size := by have := hz1; omega
           have hx6 : w.heap.size < w6.heap.size := by have := hz1; omega
           replace E6 := hide E6; replace hv6 := hide hv6; replace M6 := hide M6
           have h5b := hide (h5.out.mod m6 (by simp))
           replace r6 := hide r6; replace m6 := hide m6)
        | (at_builtin; refine list_app (.tmp 45) (.tmp 47) 25 5 _ 1 1 (ic .u8) rfl rfl (ic_len _) (ic_one _) Try.underlying25 elem5 (.slice (some ⟨b5, 0, none⟩) 20 c5) (cachL ⟨true, true, true⟩) (some ⟨g6, 0, none⟩) 12 12 (ctlL ⟨true, true, true⟩) rfl rfl h5b.out (r6.out.rd (ic_len _) rfl) (by simp [maxLen, cachL]) (by simp [cachL]) ?_
           intro v7 w7 h7 g7 a7
           obtain ⟨b7, c7, e7, -⟩ := h7.some_ (by simp [cachL])
           replace e7 : v7 = .slice (some ⟨b7, 0, none⟩) 32 c7 := e7
           have o7 : w1.heap.size ≤ b7 := own_new a7 e7 (fun k hk => by obtain rfl := Option.some.inj hk; exact o5) (Nat.le_of_lt hz6)
           have g7m : Mod (fun k => some b5 = some k) w6 w7 := grown_mod g7
           have hb5 : b5 < w6.heap.size := h5b.out.lt b5 rfl
           have o5s := o5
           have hpl := hp1
           have hcbo := hcb.out
           have hv56 : b5 ≠ w1.heap.size := fun e => by have := h5b.out.ne hv6.out (by decide); simp [Value.ownBlock, e] at this
           have E7 := E6.out.mod g7m (by simp; omega) (by simp; omega) (by simp; omega)
           obtain ⟨f71, f72, f73⟩ := E7.cells
           have M7 := M6.out.trans g7m (fun i hi e => by have e := Option.some.inj e; omega)
           have hy7 : w.heap.size + 1 < w7.heap.size := by have := g7m.size; omega
           have hx7 : w.heap.size < w7.heap.size := by have := g7m.size; omega
           subst e7
           replace h7 : Row w7 5 1 (ic .u8) (.slice (some ⟨b7, 0, none⟩) 32 c7) (cachL ⟨true, true, true⟩ ++ ctlL ⟨true, true, true⟩) := h7
           clear g7 a7 hv56 hcbo hpl
           replace E7 := hide E7; replace M7 := hide M7; replace g7m := hide g7m; replace h7 := hide h7)
        | (go_at_call 12; (with_reducible refine (now_some p _ s _ E7.out.pg).mono ?_); rintro e w8 ⟨rfl, m8⟩
           have E8 := E7.out.q m8
           obtain ⟨f81, f82, f83⟩ := E8.cells
           have M8 := M7.out.trans m8 (by simp)
           have hy8 : w.heap.size + 1 < w8.heap.size := by have := m8.size; omega
           have hx8 : w.heap.size < w8.heap.size := by have := m8.size; omega
           have h8 := hide (h7.out.mod m8 (by simp))
           replace E8 := hide E8; replace M8 := hide M8; replace m8 := hide m8)
        | (at_builtin; refine list_app (.tmp 71) (.tmp 72) 25 5 _ 1 1 (ic .u8) rfl rfl (ic_len _) (ic_one _) Try.underlying25 elem5 (.slice (some ⟨w8.heap.size, 0, none⟩) 4 4) [35, 0, 144, 0] (some ⟨b7, 0, none⟩) 32 c7 (cachL ⟨true, true, true⟩ ++ ctlL ⟨true, true, true⟩) rfl rfl (row_lit (l := [35, 0, 144, 0]) (heap_alloc_new _ _) (by simp)) ((h8.out.alloc _).rd (ic_len _) rfl) (by simp [maxLen]) (by simp) ?_
           intro v9 w9 h9 g9 a9
           have mal : Mod (fun _ => False) w8 (w8.alloc (.cells #[.int .u8 35, .int .u8 0, .int .u8 144, .int .u8 0] 5)) := (Mod.refl (fun _ => False) w8).alloc _
           have g9m : Mod (fun k => some (w8.heap.size) = some k) (w8.alloc (.cells #[.int .u8 35, .int .u8 0, .int .u8 144, .int .u8 0] 5)) w9 := grown_mod g9
           obtain ⟨b9, c9, e9, -⟩ := h9.some_ (by simp)
           replace e9 : v9 = .slice (some ⟨b9, 0, none⟩) 36 c9 := e9
           have o9 : w8.heap.size ≤ b9 := own_new a9 e9 (fun k hk => by have e : w8.heap.size = k := Option.some.inj hk; omega) (by simp <;> omega)
           have hplt := E8.out.pg.lt
           have E9 := (E8.out.q mal).mod g9m (by simp; omega) (by simp; omega) (by simp; omega)
           have M9 := (M8.out.trans mal (by simp)).trans g9m (fun i hi e => by have e := Option.some.inj e; omega)
           have hb9 := E9.2.1
           subst e9
           clear g9 a9 g9m mal hplt
           replace E9 := hide E9; replace M9 := hide M9; obtain ⟨y0, y1, y2, y3, y4, y5, y6, y7⟩ := eights hb9
           have hx9 : w.heap.size + 1 < w9.heap.size := (Array.getElem?_eq_some_iff.1 hb9).1
           have fz : ∀ j, w9.frozen? ⟨w.heap.size + 1, j, none⟩ = false := fun j => frozen_of_row _ _ _ _ _ hb9
           have z0 := fz 0; have z1 := fz 1; have z2 := fz 2; have z3 := fz 3; have z4 := fz 4; have z5 := fz 5; have z6 := fz 6; have z7 := fz 7
           clear fz
           replace h9 := hide h9; replace hb9 := hide hb9))
      obtain ⟨hg10, hm10⟩ := set8 hb9.out (.int .u8 0) (.int .u16 0) (.int .u64 0) (.bool false) (.int .i64 0) (.int .i64 0) (.bool false) (.bool false)
      generalize ((((((((w9.setCell ⟨w.heap.size + 1, 0, none⟩ (.int .u8 0)).setCell ⟨w.heap.size + 1, 1, none⟩ (.int .u16 0)).setCell ⟨w.heap.size + 1, 2, none⟩ (.int .u64 0)).setCell ⟨w.heap.size + 1, 3, none⟩ (.bool false)).setCell ⟨w.heap.size + 1, 4, none⟩ (.int .i64 0)).setCell ⟨w.heap.size + 1, 5, none⟩ (.int .i64 0)).setCell ⟨w.heap.size + 1, 6, none⟩ (.bool false)).setCell ⟨w.heap.size + 1, 7, none⟩ (.bool false)) = w10 at *
      obtain ⟨c0, c1, c2, c3, c4, c5, c6, c7⟩ := eights hg10
      have M10 := M9.out.trans hm10 (fun i hi e => by omega)
      have hne : b9 ≠ w.heap.size + 1 := by omega
      have h10 := h9.out.mod hm10 (fun k hk e => hne ((Option.some.inj hk).trans e))
      exact bodyPost_ret (v := .tuple #[.slice (some ⟨b9, 0, none⟩) 36 c9, .agg #[.int .u8 0, .int .u16 0, .int .u64 0, .bool false, .int .i64 0, .int .i64 0, .bool false, .bool false], .bool true]) (by simp [results, Try.results10, go_sem, c0, c1, c2, c3, c4, c5, c6, c7]) rfl
        ⟨b9, c9, by rw [hsl.out]; rfl, by rw [hsl.out]; exact h10, M10, by omega⟩
    · skip
      go_enter Try.func10, Try.ntmps10
      go_wp2_with (first
        | (go_at_call 12; rw [hW0.out]; (with_reducible refine (now_some p _ s _ E0.out.pg).mono ?_); rintro e w1 ⟨rfl, m1⟩
           have E1 := E0.out.q m1
           obtain ⟨f11, f12, f13⟩ := E1.cells
           have hz1 : w.heap.size + 1 < w1.heap.size := Nat.lt_of_lt_of_le hz0 m1.size
           have hx1 : w.heap.size < w1.heap.size := by have := hz1; omega
           have Ma := (Mod.refl (fun _ => False) w1).alloc (.cells #[.bool true, .bool true, .bool true] 23)
           have E2 := E1.q Ma
           have hv2 : (w1.alloc (.cells #[.bool true, .bool true, .bool true] 23)).heap[w1.heap.size]? = some (.cells #[.bool true, .bool true, .bool true] 23 (0, 0)) := heap_alloc_new _ _
           have M2 := (m0.out.trans m1 (by simp)).trans Ma (by simp)
           replace hv2 := hide hv2; replace E2 := hide E2; replace m1 := hide m1; replace E1 := hide E1; replace Ma := hide Ma; replace M2 := hide M2)
        | (go_at_call 18; (with_reducible refine (caching_any ⟨true, true, true⟩ _).mono ?_); rintro e w4 ⟨g4, rfl, r4, m4, o4⟩
           have E4 := E2.out.q m4
           obtain ⟨f41, f42, f43⟩ := E4.cells
           have hv4 := m4.heap hv2.out (by simp)
           obtain ⟨v40, v41, v42⟩ := vals (v := ⟨true, true, true⟩) hv4
           have M4 := M2.out.trans m4 (by simp)
           have hz4 : w1.heap.size < w4.heap.size := (Array.getElem?_eq_some_iff.1 hv4).1
           have hy4 : w.heap.size + 1 < w4.heap.size := by have := hz1; omega
           have hx4 : w.heap.size < w4.heap.size := by have := hz1; omega
           replace E4 := hide E4; replace hv4 := hide hv4; replace M4 := hide M4
           replace r4 := hide r4; replace m4 := hide m4)
        | (at_builtin; refine list_app (.tmp 33) (.tmp 35) 25 5 _ 1 1 (ic .u8) rfl rfl (ic_len _) (ic_one _) Try.underlying25 elem5 (.slice none 0 0) [] (some ⟨g4, 0, none⟩) 20 20 (cachL ⟨true, true, true⟩) rfl rfl (Row.nil _ _ _ _) (r4.out.rd (ic_len _) rfl) (by simp [maxLen]) (by simp) ?_
           intro v5 w5 h5 g5 a5
           have n5 := none_mod g5
           obtain ⟨b5, c5, e5, -⟩ := h5.some_ (by simp [cachL])
           replace e5 : v5 = .slice (some ⟨b5, 0, none⟩) 20 c5 := e5
           have o5 : w1.heap.size ≤ b5 := own_new a5 e5 (by simp [Value.ownBlock]) (Nat.le_of_lt hz4)
           subst e5
           have E5 := E4.out.q n5
           obtain ⟨f51, f52, f53⟩ := E5.cells
           have hv5 := n5.heap hv4.out (by simp)
           obtain ⟨v50, v51, v52⟩ := vals (v := ⟨true, true, true⟩) hv5
           have M5 := M4.out.trans n5 (by simp)
           have hz5 : w1.heap.size < w5.heap.size := (Array.getElem?_eq_some_iff.1 hv5).1
           have hy5 : w.heap.size + 1 < w5.heap.size := by have := hz1; omega
           have hx5 : w.heap.size < w5.heap.size := by have := hz1; omega
           replace E5 := hide E5; replace hv5 := hide hv5; replace M5 := hide M5
           replace h5 : Row w5 5 1 (ic .u8) (.slice (some ⟨b5, 0, none⟩) 20 c5) (cachL ⟨true, true, true⟩) := h5
           clear g5 a5
           replace h5 := hide h5; replace n5 := hide n5)
        | (go_at_call 19; (with_reducible refine (control_any ⟨true, true, true⟩ _).mono ?_); rintro e w6 ⟨g6, rfl, r6, m6, o6⟩
           have E6 := E5.out.q m6
           obtain ⟨f61, f62, f63⟩ := E6.cells
           have hv6 := m6.heap hv5.out (by simp)
           obtain ⟨v60, v61, v62⟩ := vals (v := ⟨true, true, true⟩) hv6
           have M6 := M5.out.trans m6 (by simp)
           have hz6 : w1.heap.size < w6.heap.size := (Array.getElem?_eq_some_iff.1 hv6).1
           have hy6 : w.heap.size + 1 < w6.heap.size := by have := hz1; omega
           have hx6 : w.heap.size < w6.heap.size := by have := hz1; omega
           replace E6 := hide E6; replace hv6 := hide hv6; replace M6 := hide M6
           have h5b := hide (h5.out.mod m6 (by simp))
           replace r6 := hide r6; replace m6 := hide m6)
        | (at_builtin; refine list_app (.tmp 45) (.tmp 47) 25 5 _ 1 1 (ic .u8) rfl rfl (ic_len _) (ic_one _) Try.underlying25 elem5 (.slice (some ⟨b5, 0, none⟩) 20 c5) (cachL ⟨true, true, true⟩) (some ⟨g6, 0, none⟩) 12 12 (ctlL ⟨true, true, true⟩) rfl rfl h5b.out (r6.out.rd (ic_len _) rfl) (by simp [maxLen, cachL]) (by simp [cachL]) ?_
           intro v7 w7 h7 g7 a7
           obtain ⟨b7, c7, e7, -⟩ := h7.some_ (by simp [cachL])
           replace e7 : v7 = .slice (some ⟨b7, 0, none⟩) 32 c7 := e7
           have o7 : w1.heap.size ≤ b7 := own_new a7 e7 (fun k hk => by obtain rfl := Option.some.inj hk; exact o5) (Nat.le_of_lt hz6)
           have g7m : Mod (fun k => some b5 = some k) w6 w7 := grown_mod g7
           have hb5 : b5 < w6.heap.size := h5b.out.lt b5 rfl
           have o5s := o5
           have hpl := hp1
           have hcbo := hcb.out
           have hv56 : b5 ≠ w1.heap.size := fun e => by have := h5b.out.ne hv6.out (by decide); simp [Value.ownBlock, e] at this
           have E7 := E6.out.mod g7m (by simp; omega) (by simp; omega) (by simp; omega)
           obtain ⟨f71, f72, f73⟩ := E7.cells
           have M7 := M6.out.trans g7m (fun i hi e => by have e := Option.some.inj e; omega)
           have hy7 : w.heap.size + 1 < w7.heap.size := by have := g7m.size; omega
           have hx7 : w.heap.size < w7.heap.size := by have := g7m.size; omega
           subst e7
           replace h7 : Row w7 5 1 (ic .u8) (.slice (some ⟨b7, 0, none⟩) 32 c7) (cachL ⟨true, true, true⟩ ++ ctlL ⟨true, true, true⟩) := h7
           clear g7 a7 hv56 hcbo hpl
           replace E7 := hide E7; replace M7 := hide M7; replace g7m := hide g7m; replace h7 := hide h7)
        | (go_at_call 12; (with_reducible refine (now_some p _ s _ E7.out.pg).mono ?_); rintro e w8 ⟨rfl, m8⟩
           have E8 := E7.out.q m8
           obtain ⟨f81, f82, f83⟩ := E8.cells
           have M8 := M7.out.trans m8 (by simp)
           have hy8 : w.heap.size + 1 < w8.heap.size := by have := m8.size; omega
           have hx8 : w.heap.size < w8.heap.size := by have := m8.size; omega
           have h8 := hide (h7.out.mod m8 (by simp))
           replace E8 := hide E8; replace M8 := hide M8; replace m8 := hide m8)
        | (at_builtin; refine list_app (.tmp 71) (.tmp 72) 25 5 _ 1 1 (ic .u8) rfl rfl (ic_len _) (ic_one _) Try.underlying25 elem5 (.slice (some ⟨w8.heap.size + 1, 0, none⟩) 8 8) [0, 38, 0, 144, 0, 0, 0, 0] (some ⟨b7, 0, none⟩) 32 c7 (cachL ⟨true, true, true⟩ ++ ctlL ⟨true, true, true⟩) rfl rfl (row_lit (l := [0, 38, 0, 144, 0, 0, 0, 0]) (alloc2 _ _ _) (by simp)) (((h8.out.alloc _).alloc _).rd (ic_len _) rfl) (by simp [maxLen]) (by simp) ?_
           intro v9 w9 h9 g9 a9
           have mal : Mod (fun _ => False) w8 ((w8.alloc (.cells #[.int .u8 35, .int .u8 0, .int .u8 144, .int .u8 0] 5)).alloc (.cells #[.int .u8 0, .int .u8 38, .int .u8 0, .int .u8 144, .int .u8 0, .int .u8 0, .int .u8 0, .int .u8 0] 5)) := ((Mod.refl (fun _ => False) w8).alloc _).alloc _
           have g9m : Mod (fun k => some (w8.heap.size + 1) = some k) ((w8.alloc (.cells #[.int .u8 35, .int .u8 0, .int .u8 144, .int .u8 0] 5)).alloc (.cells #[.int .u8 0, .int .u8 38, .int .u8 0, .int .u8 144, .int .u8 0, .int .u8 0, .int .u8 0, .int .u8 0] 5)) w9 := grown_mod g9
           obtain ⟨b9, c9, e9, -⟩ := h9.some_ (by simp)
           replace e9 : v9 = .slice (some ⟨b9, 0, none⟩) 40 c9 := e9
           have o9 : w8.heap.size ≤ b9 := own_new a9 e9 (fun k hk => by have e : w8.heap.size + 1 = k := Option.some.inj hk; omega) (by simp <;> omega)
           have hplt := E8.out.pg.lt
           have E9 := (E8.out.q mal).mod g9m (by simp; omega) (by simp; omega) (by simp; omega)
           have M9 := (M8.out.trans mal (by simp)).trans g9m (fun i hi e => by have e := Option.some.inj e; omega)
           have hb9 := E9.2.1
           subst e9
           clear g9 a9 g9m mal hplt
           replace E9 := hide E9; replace M9 := hide M9; obtain ⟨y0, y1, y2, y3, y4, y5, y6, y7⟩ := eights hb9
           have hx9 : w.heap.size + 1 < w9.heap.size := (Array.getElem?_eq_some_iff.1 hb9).1
           have fz : ∀ j, w9.frozen? ⟨w.heap.size + 1, j, none⟩ = false := fun j => frozen_of_row _ _ _ _ _ hb9
           have z0 := fz 0; have z1 := fz 1; have z2 := fz 2; have z3 := fz 3; have z4 := fz 4; have z5 := fz 5; have z6 := fz 6; have z7 := fz 7
           clear fz
           replace h9 := hide h9; replace hb9 := hide hb9))
      obtain ⟨hg10, hm10⟩ := set8 hb9.out (.int .u8 0) (.int .u16 0) (.int .u64 0) (.bool false) (.int .i64 0) (.int .i64 0) (.bool false) (.bool false)
      generalize ((((((((w9.setCell ⟨w.heap.size + 1, 0, none⟩ (.int .u8 0)).setCell ⟨w.heap.size + 1, 1, none⟩ (.int .u16 0)).setCell ⟨w.heap.size + 1, 2, none⟩ (.int .u64 0)).setCell ⟨w.heap.size + 1, 3, none⟩ (.bool false)).setCell ⟨w.heap.size + 1, 4, none⟩ (.int .i64 0)).setCell ⟨w.heap.size + 1, 5, none⟩ (.int .i64 0)).setCell ⟨w.heap.size + 1, 6, none⟩ (.bool false)).setCell ⟨w.heap.size + 1, 7, none⟩ (.bool false)) = w10 at *
      obtain ⟨c0, c1, c2, c3, c4, c5, c6, c7⟩ := eights hg10
      have M10 := M9.out.trans hm10 (fun i hi e => by omega)
      have hne : b9 ≠ w.heap.size + 1 := by omega
      have h10 := h9.out.mod hm10 (fun k hk e => hne ((Option.some.inj hk).trans e))
      exact bodyPost_ret (v := .tuple #[.slice (some ⟨b9, 0, none⟩) 40 c9, .agg #[.int .u8 0, .int .u16 0, .int .u64 0, .bool false, .int .i64 0, .int .i64 0, .bool false, .bool false], .bool true]) (by simp [results, Try.results10, go_sem, c0, c1, c2, c3, c4, c5, c6, c7]) rfl
        ⟨b9, c9, by rw [hsl.out]; rfl, by rw [hsl.out]; exact h10, M10, by omega⟩

end Go.Proofs.Ytieieinaijopnaa
