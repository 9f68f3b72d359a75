/-
  The program's Sense where the page is none of the three. Condition: pages in a block of their own.
-/
import Derived.Test.YtieieinaijopnaaRBad
set_option linter.unusedSimpArgs false
namespace Go.Proofs.Ytieieinaijopnaa
open Go.RowKit
theorem bad_t (f b : Int) (w : World) : Calls Try.prog 20 #[.int .i64 f, .int .i64 b, .bool true] w fun e w' => e = .returned (.agg #[.int .u8 5, .int .u16 9216, .int .u64 0, .bool false, .int .i64 f, .int .i64 b, .bool true, .bool true]) ∧ Mod (fun _ => False) w w' := bad_any f b true w
set_option maxRecDepth 100000 in
set_option maxHeartbeats 2000000 in
theorem sense_bad_1 (p : Nat) (c : C) (n s : V) (w : World) (hpg : PG w p n s) (hc : c.control = 1) (j1 : (c.page == 8) = false) (j2 : (c.page == 10) = false) (j3 : (c.page == 63) = false) :
    Calls Try.prog 10 #[.pointer (some ⟨p, 0, none⟩), cv c] w (NoPage w) := by
  obtain ⟨kind, long, lba, blocks, alloc, fua, prot, unmap, evpd, page, control, save, service, type, bytes⟩ := c
  replace j1 : (page == 8) = false := j1
  replace j2 : (page == 10) = false := j2
  replace j3 : (page == 63) = false := j3
  replace hc : control = 1 := hc
  subst hc
  have m0 : Mod (fun _ => False) w ((w.alloc (.cells (cc ⟨kind, long, lba, blocks, alloc, fua, prot, unmap, evpd, page, 1, save, service, type, bytes⟩) 36)).alloc (.cells #[.int .u8 0, .int .u16 0, .int .u64 0, .bool false, .int .i64 0, .int .i64 0, .bool false, .bool false] 31)) := ((Mod.refl _ w).alloc _).alloc _
  have E0 : Env ((w.alloc (.cells (cc ⟨kind, long, lba, blocks, alloc, fua, prot, unmap, evpd, page, 1, save, service, type, bytes⟩) 36)).alloc (.cells #[.int .u8 0, .int .u16 0, .int .u64 0, .bool false, .int .i64 0, .int .i64 0, .bool false, .bool false] 31)) w.heap.size (w.heap.size + 1) ⟨kind, long, lba, blocks, alloc, fua, prot, unmap, evpd, page, 1, save, service, type, bytes⟩ p n s := ⟨heap_alloc2_old _ _ _, heap_alloc2_new _ _ _, hpg.mod m0 (by simp)⟩
  have hz0 : w.heap.size + 1 < ((w.alloc (.cells (cc ⟨kind, long, lba, blocks, alloc, fua, prot, unmap, evpd, page, 1, save, service, type, bytes⟩) 36)).alloc (.cells #[.int .u8 0, .int .u16 0, .int .u64 0, .bool false, .int .i64 0, .int .i64 0, .bool false, .bool false] 31)).heap.size := by simp
  generalize hW0 : ((w.alloc (.cells (cc ⟨kind, long, lba, blocks, alloc, fua, prot, unmap, evpd, page, 1, save, service, type, bytes⟩) 36)).alloc (.cells #[.int .u8 0, .int .u16 0, .int .u64 0, .bool false, .int .i64 0, .int .i64 0, .bool false, .bool false] 31)) = W0 at *
  have hp0 := hide hpg.lt
  clear hpg
  have hsn : ∀ (w : World) (a : Option Addr) (n c n' c' : Nat), (binOp .eql 25 (.slice a n c) (.slice none n' c')).run Try.prog w = .ok (.bool a.isNone) w := fun w a n c n' c' => Lib.run_eql_slice_nil w 25 5 a n c n' c' Try.underlying25
  replace m0 := hide m0; replace E0 := hide E0; replace hW0 := hide hW0
  go_enter Try.func10, Try.ntmps10
  go_wp2_with (first
    | (go_at_call 12; rw [hW0.out]; (with_reducible refine (now_some p n s _ E0.out.pg).mono ?_); rintro e w1 ⟨rfl, m1⟩
       have E1 := E0.out.q m1
       obtain ⟨f11, f12, f13⟩ := E1.cells
       have hz1 : w.heap.size + 1 < w1.heap.size := Nat.lt_of_lt_of_le hz0 m1.size
       have hx1 : w.heap.size < w1.heap.size := by have := hz1; omega
       have Ma := (Mod.refl (fun _ => False) w1).alloc (.cells #[.bool true, .bool true, .bool true] 23)
       have E2 := E1.q Ma
       have M2 := (m0.out.trans m1 (by simp)).trans Ma (by simp)
       replace E2 := hide E2; replace m1 := hide m1; replace E1 := hide E1; replace Ma := hide Ma; replace M2 := hide M2)
    | (go_at_call 20; (with_reducible refine (bad_t 2 5 _).mono ?_); rintro e w4 ⟨rfl, m4⟩
       have E4 := E2.out.q m4
       have M4 := M2.out.trans m4 (by simp)
       have hb4 := E4.2.1
       obtain ⟨u0, u1, u2, u3, u4, u5, u6, u7⟩ := eights hb4
       have z4 : w.heap.size + 1 < w4.heap.size := (Array.getElem?_eq_some_iff.1 hb4).1
       have fz : ∀ j, w4.frozen? ⟨w.heap.size + 1, j, none⟩ = false := fun j => frozen_of_row _ _ _ _ _ hb4
       have f0 := fz 0; have f1 := fz 1; have f2 := fz 2; have f3 := fz 3; have f4 := fz 4; have f5 := fz 5; have f6 := fz 6; have f7 := fz 7
       clear fz
       replace E4 := hide E4; replace hb4 := hide hb4; replace M4 := hide M4; replace m4 := hide m4))
  obtain ⟨hg10, hm10⟩ := set8 hb4.out (.int .u8 5) (.int .u16 9216) (.int .u64 0) (.bool false) (.int .i64 2) (.int .i64 5) (.bool true) (.bool true)
  generalize ((((((((w4.setCell ⟨w.heap.size + 1, 0, none⟩ (.int .u8 5)).setCell ⟨w.heap.size + 1, 1, none⟩ (.int .u16 9216)).setCell ⟨w.heap.size + 1, 2, none⟩ (.int .u64 0)).setCell ⟨w.heap.size + 1, 3, none⟩ (.bool false)).setCell ⟨w.heap.size + 1, 4, none⟩ (.int .i64 2)).setCell ⟨w.heap.size + 1, 5, none⟩ (.int .i64 5)).setCell ⟨w.heap.size + 1, 6, none⟩ (.bool true)).setCell ⟨w.heap.size + 1, 7, none⟩ (.bool true)) = w10 at *
  obtain ⟨c0, c1, c2, c3, c4, c5, c6, c7⟩ := eights hg10
  have M10 := M4.out.trans hm10 (fun i hi e => by omega)
  exact bodyPost_ret (v := .tuple #[.slice none 0 0, .agg #[.int .u8 5, .int .u16 9216, .int .u64 0, .bool false, .int .i64 2, .int .i64 5, .bool true, .bool true], .bool false]) (by simp [results, Try.results10, go_sem, c0, c1, c2, c3, c4, c5, c6, c7]) rfl ⟨rfl, M10⟩
set_option maxRecDepth 100000 in
set_option maxHeartbeats 2000000 in
theorem sense_bad_2 (p : Nat) (c : C) (n s : V) (w : World) (hpg : PG w p n s) (hc : c.control = 2) (j1 : (c.page == 8) = false) (j2 : (c.page == 10) = false) (j3 : (c.page == 63) = false) :
    Calls Try.prog 10 #[.pointer (some ⟨p, 0, none⟩), cv c] w (NoPage w) := by
  obtain ⟨kind, long, lba, blocks, alloc, fua, prot, unmap, evpd, page, control, save, service, type, bytes⟩ := c
  replace j1 : (page == 8) = false := j1
  replace j2 : (page == 10) = false := j2
  replace j3 : (page == 63) = false := j3
  replace hc : control = 2 := hc
  subst hc
  have m0 : Mod (fun _ => False) w ((w.alloc (.cells (cc ⟨kind, long, lba, blocks, alloc, fua, prot, unmap, evpd, page, 2, save, service, type, bytes⟩) 36)).alloc (.cells #[.int .u8 0, .int .u16 0, .int .u64 0, .bool false, .int .i64 0, .int .i64 0, .bool false, .bool false] 31)) := ((Mod.refl _ w).alloc _).alloc _
  have E0 : Env ((w.alloc (.cells (cc ⟨kind, long, lba, blocks, alloc, fua, prot, unmap, evpd, page, 2, save, service, type, bytes⟩) 36)).alloc (.cells #[.int .u8 0, .int .u16 0, .int .u64 0, .bool false, .int .i64 0, .int .i64 0, .bool false, .bool false] 31)) w.heap.size (w.heap.size + 1) ⟨kind, long, lba, blocks, alloc, fua, prot, unmap, evpd, page, 2, save, service, type, bytes⟩ p n s := ⟨heap_alloc2_old _ _ _, heap_alloc2_new _ _ _, hpg.mod m0 (by simp)⟩
  have hz0 : w.heap.size + 1 < ((w.alloc (.cells (cc ⟨kind, long, lba, blocks, alloc, fua, prot, unmap, evpd, page, 2, save, service, type, bytes⟩) 36)).alloc (.cells #[.int .u8 0, .int .u16 0, .int .u64 0, .bool false, .int .i64 0, .int .i64 0, .bool false, .bool false] 31)).heap.size := by simp
  generalize hW0 : ((w.alloc (.cells (cc ⟨kind, long, lba, blocks, alloc, fua, prot, unmap, evpd, page, 2, save, service, type, bytes⟩) 36)).alloc (.cells #[.int .u8 0, .int .u16 0, .int .u64 0, .bool false, .int .i64 0, .int .i64 0, .bool false, .bool false] 31)) = W0 at *
  have hp0 := hide hpg.lt
  clear hpg
  have hsn : ∀ (w : World) (a : Option Addr) (n c n' c' : Nat), (binOp .eql 25 (.slice a n c) (.slice none n' c')).run Try.prog w = .ok (.bool a.isNone) w := fun w a n c n' c' => Lib.run_eql_slice_nil w 25 5 a n c n' c' Try.underlying25
  replace m0 := hide m0; replace E0 := hide E0; replace hW0 := hide hW0
  go_enter Try.func10, Try.ntmps10
  go_wp2_with (first
    | (go_at_call 12; rw [hW0.out]; (with_reducible refine (now_some p n s _ E0.out.pg).mono ?_); rintro e w1 ⟨rfl, m1⟩
       have E1 := E0.out.q m1
       obtain ⟨f11, f12, f13⟩ := E1.cells
       have hz1 : w.heap.size + 1 < w1.heap.size := Nat.lt_of_lt_of_le hz0 m1.size
       have hx1 : w.heap.size < w1.heap.size := by have := hz1; omega
       have Ma := (Mod.refl (fun _ => False) w1).alloc (.cells #[.bool n.a, .bool n.b, .bool n.c] 23)
       have E2 := E1.q Ma
       have M2 := (m0.out.trans m1 (by simp)).trans Ma (by simp)
       have hv1 : (w1.alloc (.cells #[.bool n.a, .bool n.b, .bool n.c] 23)).heap[w1.heap.size]? = some (.cells #[.bool n.a, .bool n.b, .bool n.c] 23 (0, 0)) := heap_alloc_new _ _
       replace hv1 := hide hv1
       replace E2 := hide E2; replace m1 := hide m1; replace E1 := hide E1; replace Ma := hide Ma; replace M2 := hide M2)
    | (go_at_call 14; (with_reducible refine (default_any _).mono ?_); rintro e w2 ⟨rfl, m2⟩
       have hv1b := m2.heap hv1.out (by simp)
       obtain ⟨x0, x1, x2⟩ := vals (v := n) hv1b
       have E2b := E2.out.q m2
       obtain ⟨f21, f22, f23⟩ := E2b.cells
       have hz2 : w1.heap.size < w2.heap.size := (Array.getElem?_eq_some_iff.1 hv1b).1
       have hx2 : w.heap.size < w2.heap.size := by omega
       have fz : ∀ j, w2.frozen? ⟨w1.heap.size, j, none⟩ = false := fun j => frozen_of_row _ _ _ _ _ hv1b
       have z0 := fz 0; have z1 := fz 1; have z2 := fz 2
       clear fz
       have hn1 : ¬ w.heap.size = w1.heap.size := by omega
       have hn2 : ¬ w1.heap.size = w.heap.size := by omega
       obtain ⟨hv2, m3⟩ := set3 hv1b (.bool true) (.bool false) (.bool false)
       have hpw := hp0.out
       have E3 := E2b.mod m3 (by omega) (by omega) (by omega)
       have M3 := (M2.out.trans m2 (by simp)).trans m3 (fun i hi e => by omega)
       replace E3 := hide E3; replace M3 := hide M3; clear hv2 m3 hpw
       replace E2b := hide E2b; replace hv1b := hide hv1b; replace m2 := hide m2)
    | (go_at_call 20; (with_reducible refine (bad_t 2 5 _).mono ?_); rintro e w4 ⟨rfl, m4⟩
       have E4 := E3.out.q m4
       have M4 := M3.out.trans m4 (by simp)
       have hb4 := E4.2.1
       obtain ⟨u0, u1, u2, u3, u4, u5, u6, u7⟩ := eights hb4
       have z4 : w.heap.size + 1 < w4.heap.size := (Array.getElem?_eq_some_iff.1 hb4).1
       have fz : ∀ j, w4.frozen? ⟨w.heap.size + 1, j, none⟩ = false := fun j => frozen_of_row _ _ _ _ _ hb4
       have f0 := fz 0; have f1 := fz 1; have f2 := fz 2; have f3 := fz 3; have f4 := fz 4; have f5 := fz 5; have f6 := fz 6; have f7 := fz 7
       clear fz
       replace E4 := hide E4; replace hb4 := hide hb4; replace M4 := hide M4; replace m4 := hide m4))
  obtain ⟨hg10, hm10⟩ := set8 hb4.out (.int .u8 5) (.int .u16 9216) (.int .u64 0) (.bool false) (.int .i64 2) (.int .i64 5) (.bool true) (.bool true)
  generalize ((((((((w4.setCell ⟨w.heap.size + 1, 0, none⟩ (.int .u8 5)).setCell ⟨w.heap.size + 1, 1, none⟩ (.int .u16 9216)).setCell ⟨w.heap.size + 1, 2, none⟩ (.int .u64 0)).setCell ⟨w.heap.size + 1, 3, none⟩ (.bool false)).setCell ⟨w.heap.size + 1, 4, none⟩ (.int .i64 2)).setCell ⟨w.heap.size + 1, 5, none⟩ (.int .i64 5)).setCell ⟨w.heap.size + 1, 6, none⟩ (.bool true)).setCell ⟨w.heap.size + 1, 7, none⟩ (.bool true)) = w10 at *
  obtain ⟨c0, c1, c2, c3, c4, c5, c6, c7⟩ := eights hg10
  have M10 := M4.out.trans hm10 (fun i hi e => by omega)
  exact bodyPost_ret (v := .tuple #[.slice none 0 0, .agg #[.int .u8 5, .int .u16 9216, .int .u64 0, .bool false, .int .i64 2, .int .i64 5, .bool true, .bool true], .bool false]) (by simp [results, Try.results10, go_sem, c0, c1, c2, c3, c4, c5, c6, c7]) rfl ⟨rfl, M10⟩
set_option maxRecDepth 100000 in
set_option maxHeartbeats 2000000 in
theorem sense_bad_3 (p : Nat) (c : C) (n s : V) (w : World) (hpg : PG w p n s) (hc : c.control = 3) (j1 : (c.page == 8) = false) (j2 : (c.page == 10) = false) (j3 : (c.page == 63) = false) :
    Calls Try.prog 10 #[.pointer (some ⟨p, 0, none⟩), cv c] w (NoPage w) := by
  obtain ⟨kind, long, lba, blocks, alloc, fua, prot, unmap, evpd, page, control, save, service, type, bytes⟩ := c
  replace j1 : (page == 8) = false := j1
  replace j2 : (page == 10) = false := j2
  replace j3 : (page == 63) = false := j3
  replace hc : control = 3 := hc
  subst hc
  have m0 : Mod (fun _ => False) w ((w.alloc (.cells (cc ⟨kind, long, lba, blocks, alloc, fua, prot, unmap, evpd, page, 3, save, service, type, bytes⟩) 36)).alloc (.cells #[.int .u8 0, .int .u16 0, .int .u64 0, .bool false, .int .i64 0, .int .i64 0, .bool false, .bool false] 31)) := ((Mod.refl _ w).alloc _).alloc _
  have E0 : Env ((w.alloc (.cells (cc ⟨kind, long, lba, blocks, alloc, fua, prot, unmap, evpd, page, 3, save, service, type, bytes⟩) 36)).alloc (.cells #[.int .u8 0, .int .u16 0, .int .u64 0, .bool false, .int .i64 0, .int .i64 0, .bool false, .bool false] 31)) w.heap.size (w.heap.size + 1) ⟨kind, long, lba, blocks, alloc, fua, prot, unmap, evpd, page, 3, save, service, type, bytes⟩ p n s := ⟨heap_alloc2_old _ _ _, heap_alloc2_new _ _ _, hpg.mod m0 (by simp)⟩
  have hz0 : w.heap.size + 1 < ((w.alloc (.cells (cc ⟨kind, long, lba, blocks, alloc, fua, prot, unmap, evpd, page, 3, save, service, type, bytes⟩) 36)).alloc (.cells #[.int .u8 0, .int .u16 0, .int .u64 0, .bool false, .int .i64 0, .int .i64 0, .bool false, .bool false] 31)).heap.size := by simp
  generalize hW0 : ((w.alloc (.cells (cc ⟨kind, long, lba, blocks, alloc, fua, prot, unmap, evpd, page, 3, save, service, type, bytes⟩) 36)).alloc (.cells #[.int .u8 0, .int .u16 0, .int .u64 0, .bool false, .int .i64 0, .int .i64 0, .bool false, .bool false] 31)) = W0 at *
  have hp0 := hide hpg.lt
  clear hpg
  have hsn : ∀ (w : World) (a : Option Addr) (n c n' c' : Nat), (binOp .eql 25 (.slice a n c) (.slice none n' c')).run Try.prog w = .ok (.bool a.isNone) w := fun w a n c n' c' => Lib.run_eql_slice_nil w 25 5 a n c n' c' Try.underlying25
  replace m0 := hide m0; replace E0 := hide E0; replace hW0 := hide hW0
  go_enter Try.func10, Try.ntmps10
  go_wp2_with (first
    | (go_at_call 12; rw [hW0.out]; (with_reducible refine (now_some p n s _ E0.out.pg).mono ?_); rintro e w1 ⟨rfl, m1⟩
       have E1 := E0.out.q m1
       obtain ⟨f11, f12, f13⟩ := E1.cells
       have hz1 : w.heap.size + 1 < w1.heap.size := Nat.lt_of_lt_of_le hz0 m1.size
       have hx1 : w.heap.size < w1.heap.size := by have := hz1; omega
       have Ma := (Mod.refl (fun _ => False) w1).alloc (.cells #[.bool n.a, .bool n.b, .bool n.c] 23)
       have E2 := E1.q Ma
       have M2 := (m0.out.trans m1 (by simp)).trans Ma (by simp)
       have hv1 : (w1.alloc (.cells #[.bool n.a, .bool n.b, .bool n.c] 23)).heap[w1.heap.size]? = some (.cells #[.bool n.a, .bool n.b, .bool n.c] 23 (0, 0)) := heap_alloc_new _ _
       replace hv1 := hide hv1
       replace E2 := hide E2; replace m1 := hide m1; replace E1 := hide E1; replace Ma := hide Ma; replace M2 := hide M2)
    | (go_at_call 13; (with_reducible refine (saved_some p n s _ E2.out.pg).mono ?_); rintro e w2 ⟨rfl, m2⟩
       have hv1b := m2.heap hv1.out (by simp)
       obtain ⟨x0, x1, x2⟩ := vals (v := n) hv1b
       have E2b := E2.out.q m2
       obtain ⟨f21, f22, f23⟩ := E2b.cells
       have hz2 : w1.heap.size < w2.heap.size := (Array.getElem?_eq_some_iff.1 hv1b).1
       have hx2 : w.heap.size < w2.heap.size := by omega
       have fz : ∀ j, w2.frozen? ⟨w1.heap.size, j, none⟩ = false := fun j => frozen_of_row _ _ _ _ _ hv1b
       have z0 := fz 0; have z1 := fz 1; have z2 := fz 2
       clear fz
       have hn1 : ¬ w.heap.size = w1.heap.size := by omega
       have hn2 : ¬ w1.heap.size = w.heap.size := by omega
       obtain ⟨hv2, m3⟩ := set3 hv1b (.bool s.a) (.bool s.b) (.bool s.c)
       have hpw := hp0.out
       have E3 := E2b.mod m3 (by omega) (by omega) (by omega)
       have M3 := (M2.out.trans m2 (by simp)).trans m3 (fun i hi e => by omega)
       replace E3 := hide E3; replace M3 := hide M3; clear hv2 m3 hpw
       replace E2b := hide E2b; replace hv1b := hide hv1b; replace m2 := hide m2)
    | (go_at_call 20; (with_reducible refine (bad_t 2 5 _).mono ?_); rintro e w4 ⟨rfl, m4⟩
       have E4 := E3.out.q m4
       have M4 := M3.out.trans m4 (by simp)
       have hb4 := E4.2.1
       obtain ⟨u0, u1, u2, u3, u4, u5, u6, u7⟩ := eights hb4
       have z4 : w.heap.size + 1 < w4.heap.size := (Array.getElem?_eq_some_iff.1 hb4).1
       have fz : ∀ j, w4.frozen? ⟨w.heap.size + 1, j, none⟩ = false := fun j => frozen_of_row _ _ _ _ _ hb4
       have f0 := fz 0; have f1 := fz 1; have f2 := fz 2; have f3 := fz 3; have f4 := fz 4; have f5 := fz 5; have f6 := fz 6; have f7 := fz 7
       clear fz
       replace E4 := hide E4; replace hb4 := hide hb4; replace M4 := hide M4; replace m4 := hide m4))
  obtain ⟨hg10, hm10⟩ := set8 hb4.out (.int .u8 5) (.int .u16 9216) (.int .u64 0) (.bool false) (.int .i64 2) (.int .i64 5) (.bool true) (.bool true)
  generalize ((((((((w4.setCell ⟨w.heap.size + 1, 0, none⟩ (.int .u8 5)).setCell ⟨w.heap.size + 1, 1, none⟩ (.int .u16 9216)).setCell ⟨w.heap.size + 1, 2, none⟩ (.int .u64 0)).setCell ⟨w.heap.size + 1, 3, none⟩ (.bool false)).setCell ⟨w.heap.size + 1, 4, none⟩ (.int .i64 2)).setCell ⟨w.heap.size + 1, 5, none⟩ (.int .i64 5)).setCell ⟨w.heap.size + 1, 6, none⟩ (.bool true)).setCell ⟨w.heap.size + 1, 7, none⟩ (.bool true)) = w10 at *
  obtain ⟨c0, c1, c2, c3, c4, c5, c6, c7⟩ := eights hg10
  have M10 := M4.out.trans hm10 (fun i hi e => by omega)
  exact bodyPost_ret (v := .tuple #[.slice none 0 0, .agg #[.int .u8 5, .int .u16 9216, .int .u64 0, .bool false, .int .i64 2, .int .i64 5, .bool true, .bool true], .bool false]) (by simp [results, Try.results10, go_sem, c0, c1, c2, c3, c4, c5, c6, c7]) rfl ⟨rfl, M10⟩
set_option maxRecDepth 100000 in
set_option maxHeartbeats 2000000 in
theorem sense_bad_o (p : Nat) (c : C) (n s : V) (w : World) (hpg : PG w p n s) (k1 : (c.control == 1) = false) (k2 : (c.control == 2) = false) (k3 : (c.control == 3) = false) (j1 : (c.page == 8) = false) (j2 : (c.page == 10) = false) (j3 : (c.page == 63) = false) :
    Calls Try.prog 10 #[.pointer (some ⟨p, 0, none⟩), cv c] w (NoPage w) := by
  obtain ⟨kind, long, lba, blocks, alloc, fua, prot, unmap, evpd, page, control, save, service, type, bytes⟩ := c
  replace j1 : (page == 8) = false := j1
  replace j2 : (page == 10) = false := j2
  replace j3 : (page == 63) = false := j3
  replace k1 : (control == 1) = false := k1
  replace k2 : (control == 2) = false := k2
  replace k3 : (control == 3) = false := k3
  have m0 : Mod (fun _ => False) w ((w.alloc (.cells (cc ⟨kind, long, lba, blocks, alloc, fua, prot, unmap, evpd, page, control, save, service, type, bytes⟩) 36)).alloc (.cells #[.int .u8 0, .int .u16 0, .int .u64 0, .bool false, .int .i64 0, .int .i64 0, .bool false, .bool false] 31)) := ((Mod.refl _ w).alloc _).alloc _
  have E0 : Env ((w.alloc (.cells (cc ⟨kind, long, lba, blocks, alloc, fua, prot, unmap, evpd, page, control, save, service, type, bytes⟩) 36)).alloc (.cells #[.int .u8 0, .int .u16 0, .int .u64 0, .bool false, .int .i64 0, .int .i64 0, .bool false, .bool false] 31)) w.heap.size (w.heap.size + 1) ⟨kind, long, lba, blocks, alloc, fua, prot, unmap, evpd, page, control, save, service, type, bytes⟩ p n s := ⟨heap_alloc2_old _ _ _, heap_alloc2_new _ _ _, hpg.mod m0 (by simp)⟩
  have hz0 : w.heap.size + 1 < ((w.alloc (.cells (cc ⟨kind, long, lba, blocks, alloc, fua, prot, unmap, evpd, page, control, save, service, type, bytes⟩) 36)).alloc (.cells #[.int .u8 0, .int .u16 0, .int .u64 0, .bool false, .int .i64 0, .int .i64 0, .bool false, .bool false] 31)).heap.size := by simp
  generalize hW0 : ((w.alloc (.cells (cc ⟨kind, long, lba, blocks, alloc, fua, prot, unmap, evpd, page, control, save, service, type, bytes⟩) 36)).alloc (.cells #[.int .u8 0, .int .u16 0, .int .u64 0, .bool false, .int .i64 0, .int .i64 0, .bool false, .bool false] 31)) = W0 at *
  have hp0 := hide hpg.lt
  clear hpg
  have hsn : ∀ (w : World) (a : Option Addr) (n c n' c' : Nat), (binOp .eql 25 (.slice a n c) (.slice none n' c')).run Try.prog w = .ok (.bool a.isNone) w := fun w a n c n' c' => Lib.run_eql_slice_nil w 25 5 a n c n' c' Try.underlying25
  replace m0 := hide m0; replace E0 := hide E0; replace hW0 := hide hW0
  go_enter Try.func10, Try.ntmps10
  go_wp2_with (first
    | (go_at_call 12; rw [hW0.out]; (with_reducible refine (now_some p n s _ E0.out.pg).mono ?_); rintro e w1 ⟨rfl, m1⟩
       have E1 := E0.out.q m1
       obtain ⟨f11, f12, f13⟩ := E1.cells
       have hz1 : w.heap.size + 1 < w1.heap.size := Nat.lt_of_lt_of_le hz0 m1.size
       have hx1 : w.heap.size < w1.heap.size := by have := hz1; omega
       have Ma := (Mod.refl (fun _ => False) w1).alloc (.cells #[.bool n.a, .bool n.b, .bool n.c] 23)
       have E2 := E1.q Ma
       have M2 := (m0.out.trans m1 (by simp)).trans Ma (by simp)
       replace E2 := hide E2; replace m1 := hide m1; replace E1 := hide E1; replace Ma := hide Ma; replace M2 := hide M2)
    | (go_at_call 20; (with_reducible refine (bad_t 2 5 _).mono ?_); rintro e w4 ⟨rfl, m4⟩
       have E4 := E2.out.q m4
       have M4 := M2.out.trans m4 (by simp)
       have hb4 := E4.2.1
       obtain ⟨u0, u1, u2, u3, u4, u5, u6, u7⟩ := eights hb4
       have z4 : w.heap.size + 1 < w4.heap.size := (Array.getElem?_eq_some_iff.1 hb4).1
       have fz : ∀ j, w4.frozen? ⟨w.heap.size + 1, j, none⟩ = false := fun j => frozen_of_row _ _ _ _ _ hb4
       have f0 := fz 0; have f1 := fz 1; have f2 := fz 2; have f3 := fz 3; have f4 := fz 4; have f5 := fz 5; have f6 := fz 6; have f7 := fz 7
       clear fz
       replace E4 := hide E4; replace hb4 := hide hb4; replace M4 := hide M4; replace m4 := hide m4))
  obtain ⟨hg10, hm10⟩ := set8 hb4.out (.int .u8 5) (.int .u16 9216) (.int .u64 0) (.bool false) (.int .i64 2) (.int .i64 5) (.bool true) (.bool true)
  generalize ((((((((w4.setCell ⟨w.heap.size + 1, 0, none⟩ (.int .u8 5)).setCell ⟨w.heap.size + 1, 1, none⟩ (.int .u16 9216)).setCell ⟨w.heap.size + 1, 2, none⟩ (.int .u64 0)).setCell ⟨w.heap.size + 1, 3, none⟩ (.bool false)).setCell ⟨w.heap.size + 1, 4, none⟩ (.int .i64 2)).setCell ⟨w.heap.size + 1, 5, none⟩ (.int .i64 5)).setCell ⟨w.heap.size + 1, 6, none⟩ (.bool true)).setCell ⟨w.heap.size + 1, 7, none⟩ (.bool true)) = w10 at *
  obtain ⟨c0, c1, c2, c3, c4, c5, c6, c7⟩ := eights hg10
  have M10 := M4.out.trans hm10 (fun i hi e => by omega)
  exact bodyPost_ret (v := .tuple #[.slice none 0 0, .agg #[.int .u8 5, .int .u16 9216, .int .u64 0, .bool false, .int .i64 2, .int .i64 5, .bool true, .bool true], .bool false]) (by simp [results, Try.results10, go_sem, c0, c1, c2, c3, c4, c5, c6, c7]) rfl ⟨rfl, M10⟩
theorem sense_bad (p : Nat) (c : C) (n s : V) (w : World) (hpg : PG w p n s) (j1 : (c.page == 8) = false) (j2 : (c.page == 10) = false) (j3 : (c.page == 63) = false) : Calls Try.prog 10 #[.pointer (some ⟨p, 0, none⟩), cv c] w (NoPage w) := by
  by_cases h1 : c.control = 1
  · exact sense_bad_1 p c n s w hpg h1 j1 j2 j3
  · by_cases h2 : c.control = 2
    · exact sense_bad_2 p c n s w hpg h2 j1 j2 j3
    · by_cases h3 : c.control = 3
      · exact sense_bad_3 p c n s w hpg h3 j1 j2 j3
      · exact sense_bad_o p c n s w hpg (by simpa using h1) (by simpa using h2) (by simpa using h3) j1 j2 j3
end Go.Proofs.Ytieieinaijopnaa
