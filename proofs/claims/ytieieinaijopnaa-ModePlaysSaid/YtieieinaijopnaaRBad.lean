/-
  The reference's Sense where the page is none of the three. Condition: the reference's pages in a block of their own.
-/
import Derived.Test.YtieieinaijopnaaRWord
set_option linter.unusedSimpArgs false
namespace Go.Proofs.Ytieieinaijopnaa
open Go.RowKit
/-- What Sense answers to a page that is none. -/
def NoPage (w : World) (e : Ending) (w' : World) : Prop := e = .returned (.tuple #[.slice none 0 0, .agg #[.int .u8 5, .int .u16 9216, .int .u64 0, .bool false, .int .i64 2, .int .i64 5, .bool true, .bool true], .bool false]) ∧ Mod (fun _ => False) w w'
set_option maxRecDepth 100000 in
set_option maxHeartbeats 2000000 in
theorem rsense_bad (p : Nat) (c : C) (x y : Int) (w : World) (hpg : RG w p x y) (j1 : (c.page == 8) = false) (j2 : (c.page == 10) = false) (j3 : (c.page == 63) = false) :
    Calls Try.prog 17 #[.pointer (some ⟨p, 0, none⟩), cv c] w (NoPage w) := by
  obtain ⟨kind, long, lba, blocks, alloc, fua, prot, unmap, evpd, page, control, save, service, type, bytes⟩ := c
  replace j1 : (page == 8) = false := j1
  replace j2 : (page == 10) = false := j2
  replace j3 : (page == 63) = false := j3
  have m0 : Mod (fun _ => False) w ((w.alloc (.cells (cc ⟨kind, long, lba, blocks, alloc, fua, prot, unmap, evpd, page, control, save, service, type, bytes⟩) 36)).alloc (.cells #[.int .u8 0, .int .u16 0, .int .u64 0, .bool false, .int .i64 0, .int .i64 0, .bool false, .bool false] 31)) := ((Mod.refl _ w).alloc _).alloc _
  have E0 : REnv ((w.alloc (.cells (cc ⟨kind, long, lba, blocks, alloc, fua, prot, unmap, evpd, page, control, save, service, type, bytes⟩) 36)).alloc (.cells #[.int .u8 0, .int .u16 0, .int .u64 0, .bool false, .int .i64 0, .int .i64 0, .bool false, .bool false] 31)) w.heap.size ⟨kind, long, lba, blocks, alloc, fua, prot, unmap, evpd, page, control, save, service, type, bytes⟩ p x y := ⟨heap_alloc2_old _ _ _, heap_alloc2_new _ _ _, hpg.mod m0 (by simp)⟩
  have hp0 : p < w.heap.size := hpg.lt
  have hp1 : p < w.heap.size + 1 := by omega
  obtain ⟨y0, y1⟩ := hpg.cells
  clear hpg
  replace m0 := hide m0; replace E0 := hide E0
  have k : control = 1 ∨ control = 2 ∨ control = 3 ∨ ((control == 1) = false ∧ (control == 2) = false ∧ (control == 3) = false) := by
    by_cases h1 : control = 1
    · exact .inl h1
    · by_cases h2 : control = 2
      · exact .inr (.inl h2)
      · by_cases h3 : control = 3
        · exact .inr (.inr (.inl h3))
        · exact .inr (.inr (.inr ⟨by simpa using h1, by simpa using h2, by simpa using h3⟩))
  rcases k with rfl | rfl | rfl | ⟨k1, k2, k3⟩
  all_goals
    go_enter Try.func17, Try.ntmps17
    go_wp2_with (first
      | (go_at_call 22; (with_reducible refine (fault_any 9216 2 5 true _).mono ?_); rintro e w4 ⟨rfl, m4⟩
         have E4 := E0.out.q m4
         have M4 := m0.out.trans m4 (by simp)
         have hb4 := E4.2.1
         obtain ⟨u0, u1, u2, u3, u4, u5, u6, u7⟩ := eights hb4
         have z4 := E4.size
         have fz : ∀ j, w4.frozen? ⟨w.heap.size + 1, j, none⟩ = false := fun j => frozen_of_row _ _ _ _ _ hb4
         have f0 := fz 0; have f1 := fz 1; have f2 := fz 2; have f3 := fz 3; have f4 := fz 4; have f5 := fz 5; have f6 := fz 6; have f7 := fz 7
         clear fz
         replace E4 := hide E4; replace hb4 := hide hb4; replace M4 := hide M4; replace m4 := hide m4))
    obtain ⟨hg10, hm10⟩ := set8 hb4.out (.int .u8 5) (.int .u16 9216) (.int .u64 0) (.bool false) (.int .i64 2) (.int .i64 5) (.bool true) (.bool true)
    generalize ((((((((w4.setCell ⟨w.heap.size + 1, 0, none⟩ (.int .u8 5)).setCell ⟨w.heap.size + 1, 1, none⟩ (.int .u16 9216)).setCell ⟨w.heap.size + 1, 2, none⟩ (.int .u64 0)).setCell ⟨w.heap.size + 1, 3, none⟩ (.bool false)).setCell ⟨w.heap.size + 1, 4, none⟩ (.int .i64 2)).setCell ⟨w.heap.size + 1, 5, none⟩ (.int .i64 5)).setCell ⟨w.heap.size + 1, 6, none⟩ (.bool true)).setCell ⟨w.heap.size + 1, 7, none⟩ (.bool true)) = w10 at *
    obtain ⟨c0, c1, c2, c3, c4, c5, c6, c7⟩ := eights hg10
    have M10 := M4.out.trans hm10 (fun i hi e => by omega)
    exact bodyPost_ret (v := .tuple #[.slice none 0 0, .agg #[.int .u8 5, .int .u16 9216, .int .u64 0, .bool false, .int .i64 2, .int .i64 5, .bool true, .bool true], .bool false]) (by simp [results, Try.results17, go_sem, c0, c1, c2, c3, c4, c5, c6, c7]) rfl ⟨rfl, M10⟩
end Go.Proofs.Ytieieinaijopnaa
