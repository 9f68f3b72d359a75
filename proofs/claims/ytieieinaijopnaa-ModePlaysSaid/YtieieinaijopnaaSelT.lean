/-
  The walk of (*mode.Pages).Select, the long form, where there are bytes. Condition: pages in a block of their own, a slice of bytes.
-/
import Derived.Test.YtieieinaijopnaaPageAll
namespace Go.Proofs.Ytieieinaijopnaa
open Go.RowKit
set_option maxRecDepth 100000 in
set_option maxHeartbeats 4000000 in
theorem select_T (p : Nat) (c : C) (A : Addr) (len cap : Nat) (L : List Int) (n s : V) (w : World) (hpg : PG w p n s) (hl : c.long = true) (h0 : 0 < len) (hlc : len ≤ cap) (hcm : cap ≤ maxLen)
    (hr : Rd w 1 (ic .u8) (some A) len L) (hb : ∀ x ∈ L, 0 ≤ x ∧ x ≤ 255) :
    Calls Try.prog 11 #[.pointer (some ⟨p, 0, none⟩), cv c, .slice (some A) len cap] w (SelPost p L true c.save n s w) := by
  have hLl : L.length = len := hr.1
  have hblk : ∀ i, (A.add i).block = A.block := fun i => by simp [Addr.add]; split <;> rfl
  have hA : A.block < w.heap.size := by
    obtain ⟨ad, e, hc⟩ := hr.int 0 h0
    obtain rfl := Option.some.inj e
    have := World.block_lt_of_cell? w _ hc
    rwa [hblk] at this
  have hcs : ∀ i, i < len → w.cell? (A.add i) = some (.int .u8 (gi L i)) := fun i hi => by
    obtain ⟨ad, e, hc⟩ := hr.int i hi
    obtain rfl := Option.some.inj e
    exact hc
  have hbs : ∀ i, i < len → 0 ≤ gi L i ∧ gi L i ≤ 255 := fun i hi => by
    rw [gi_eq L _ (by omega)]
    exact hb _ (List.getElem_mem _)
  have hmx : cap ≤ 9223372036854775807 := hcm
  obtain ⟨kind, long, lba, blocks, alloc, fua, prot, unmap, evpd, page, control, save, service, type, bytes⟩ := c
  replace hl : long = true := hl
  subst hl
  have m0 : Mod (fun _ => False) w ((w.alloc (.cells (cc ⟨kind, true, lba, blocks, alloc, fua, prot, unmap, evpd, page, control, save, service, type, bytes⟩) 36)).alloc (.cells #[.int .u8 0, .int .u16 0, .int .u64 0, .bool false, .int .i64 0, .int .i64 0, .bool false, .bool false] 31)) := ((Mod.refl _ w).alloc _).alloc _
  have S0 : SEnv ((w.alloc (.cells (cc ⟨kind, true, lba, blocks, alloc, fua, prot, unmap, evpd, page, control, save, service, type, bytes⟩) 36)).alloc (.cells #[.int .u8 0, .int .u16 0, .int .u64 0, .bool false, .int .i64 0, .int .i64 0, .bool false, .bool false] 31)) w.heap.size ⟨kind, true, lba, blocks, alloc, fua, prot, unmap, evpd, page, control, save, service, type, bytes⟩ p n s := ⟨heap_alloc2_old _ _ _, heap_alloc2_new _ _ _, hpg.mod m0 (by simp)⟩
  obtain ⟨f0, f1, f2, f3, f4, f5⟩ := hpg.cells
  have hp0 := hpg.lt
  have hp1 : p < w.heap.size + 1 := by omega
  have hp2 : p < w.heap.size + 1 + 1 := by omega
  have hn0 : ((len : Int) == 0) = false := by simp; omega
  show Calls Try.prog 11 #[.pointer (some ⟨p, 0, none⟩), cv ⟨kind, true, lba, blocks, alloc, fua, prot, unmap, evpd, page, control, save, service, type, bytes⟩, .slice (some A) len cap] w (SelPost p L true save n s w)
  replace hpg := hide hpg; replace hLl := hide hLl; replace hblk := hide hblk; replace hcs := hide hcs; replace hbs := hide hbs; replace hcm := hide hcm; replace hr := hide hr; replace hb := hide hb; replace m0 := hide m0; replace S0 := hide S0
  by_cases hshort : len < 8
  · have j6 : decide ((len : Int) < 8) = true := by simp; omega
    go_enter Try.func11, Try.ntmps11
    go_wp2_with fail
    have mf := fun o1 o2 => ((Mod.refl (fun _ => False) w).alloc o1).alloc o2
    exact bodyPost_ret (v := .tuple #[.bool false, .agg #[.int .u8 5, .int .u16 6656, .int .u64 0, .bool false, .int .i64 0, .int .i64 0, .bool false, .bool false], .bool false]) (by simp [results, Try.results11, go_sem]) rfl
      ⟨false, shortS, false, n, s, .inr ⟨by rw [hLl.out]; exact h0, .inl ⟨by rw [hLl.out]; exact hshort, rfl, rfl, rfl, rfl, rfl⟩⟩, rfl, hpg.out.mod (mf _ _) (by simp), (mf _ _).mono (by simp)⟩
  · have j6 : decide ((len : Int) < 8) = false := by simp; omega
    go_enter Try.func11, Try.ntmps11
    go_wp2_with fail
    go_loop [6, 8, 11, 35] (fun _ _ _ u => ∃ i : Nat, i ≤ 8 ∧ u = .int .i64 i ∧ Hid (∀ j, j < i → j ≠ 3 → gi L j = 0)) (fun _ _ _ u => 8 - (intOf u).toNat)
    case atStart => exact ⟨0, by omega, rfl, hide (fun j h => by omega)⟩
    case round =>
      obtain ⟨i, hi, rfl, hR⟩ := hrel
      by_cases hlt : i < 8
      · have hx := hcs.out i (by omega)
        have hk0 : (A.add i).block < w.heap.size := by rw [hblk.out]; exact hA
        have hk1 : (A.add i).block < w.heap.size + 1 := by omega
        obtain ⟨x0, x1⟩ := hbs.out i (by omega)
        have hil : (i : Int) < (len : Int) := by omega
        have hcase : (gi L i = 0 ∧ (gi L i != 0) = false) ∨ (i = 3 ∧ (gi L i != 0) = true ∧ ((i : Int) != 3) = false) ∨ (¬ i = 3 ∧ ¬ gi L i = 0 ∧ (gi L i != 0) = true ∧ ((i : Int) != 3) = true) := by
          by_cases h1 : gi L i = 0
          · exact .inl ⟨h1, by simpa using h1⟩
          · by_cases h2 : i = 3
            · exact .inr (.inl ⟨h2, by simpa using h1, by simp; omega⟩)
            · exact .inr (.inr ⟨h2, h1, by simpa using h1, by simp; omega⟩)
        rcases hcase with ⟨h1, h2⟩ | ⟨h1, h2, h3⟩ | ⟨h1, h2, h3, h4⟩
        · have hn : ∀ j, j < i + 1 → j ≠ 3 → gi L j = 0 := fun j hj hd => by
            by_cases e : j = i
            · rw [e]; exact h1
            · exact hR.out j (by omega) hd
          replace hn := hide hn; replace h1 := hide h1
          go_wp2_with fail
          go_round
          case rel => exact ⟨i + 1, by omega, by go_num, hn⟩
          case measure => simp [intOf]; omega
        · have hn : ∀ j, j < i + 1 → j ≠ 3 → gi L j = 0 := fun j hj hd => by
            by_cases e : j = i
            · exact absurd (e.trans h1) hd
            · exact hR.out j (by omega) hd
          replace hn := hide hn; replace h1 := hide h1
          go_wp2_with fail
          go_round
          case rel => exact ⟨i + 1, by omega, by go_num, hn⟩
          case measure => simp [intOf]; omega
        · replace h1 := hide h1; replace h2 := hide h2
          go_wp2_with (go_at_call 20; (with_reducible refine (badf_any _ _ _).mono ?_); rintro e w5 ⟨rfl, m5⟩
                       have S5 := S0.out.q m5
                       obtain ⟨t50, t51, t52, t53, t54, t55, t56, t57⟩ := eights S5.z
                       have h50 := S5.fz 0; have h51 := S5.fz 1; have h52 := S5.fz 2; have h53 := S5.fz 3; have h54 := S5.fz 4; have h55 := S5.fz 5; have h56 := S5.fz 6; have h57 := S5.fz 7
                       have z5 : w.heap.size + 1 < w5.heap.size := (Array.getElem?_eq_some_iff.1 S5.z).1
                       replace S5 := hide S5; replace m5 := hide m5)
          obtain ⟨g8, m8⟩ := set8 S5.out.z (.int .u8 5) (.int .u16 9728) (.int .u64 0) (.bool false) (.int .i64 ↑i) (.int .i64 (-1)) (.bool true) (.bool false)
          generalize ((((((((w5.setCell ⟨w.heap.size + 1, 0, none⟩ (.int .u8 5)).setCell ⟨w.heap.size + 1, 1, none⟩ (.int .u16 9728)).setCell ⟨w.heap.size + 1, 2, none⟩ (.int .u64 0)).setCell ⟨w.heap.size + 1, 3, none⟩ (.bool false)).setCell ⟨w.heap.size + 1, 4, none⟩ (.int .i64 ↑i)).setCell ⟨w.heap.size + 1, 5, none⟩ (.int .i64 (-1))).setCell ⟨w.heap.size + 1, 6, none⟩ (.bool true)).setCell ⟨w.heap.size + 1, 7, none⟩ (.bool false)) = w9 at *
          obtain ⟨c0, c1, c2, c3, c4, c5, c6, c7⟩ := eights g8
          exact bodyPost_ret (v := .tuple #[.bool false, .agg #[.int .u8 5, .int .u16 9728, .int .u64 0, .bool false, .int .i64 ↑i, .int .i64 (-1), .bool true, .bool false], .bool false]) (by simp [results, Try.results11, go_sem, c0, c1, c2, c3, c4, c5, c6, c7]) rfl
            ⟨false, badS i (-1) false, false, n, s, .inr ⟨by rw [hLl.out]; exact h0, .inr (.inl ⟨by rw [hLl.out]; show 8 ≤ len; omega, i, hlt, h1.out, h2.out, hR.out, rfl, rfl, rfl, rfl, rfl⟩)⟩, rfl, S5.out.pg.mod m8 (by omega), ((m0.out.trans m5.out (by simp)).mono (by simp)).trans m8 (fun k hk e => by omega)⟩
      · obtain rfl : i = 8 := by omega
        have hhead : HeadOk L true := hR.out
        replace hhead := hide hhead
        go_wp2_with fail
        have m1 : Mod (fun _ => False) w (((w.alloc (.cells (cc ⟨kind, true, lba, blocks, alloc, fua, prot, unmap, evpd, page, control, save, service, type, bytes⟩) 36)).alloc (.cells #[.int .u8 0, .int .u16 0, .int .u64 0, .bool false, .int .i64 0, .int .i64 0, .bool false, .bool false] 31)).alloc (.cells #[.bool n.a, .bool n.b, .bool n.c] 23)) := m0.out.alloc _
        have S1 := S0.out.q ((Mod.refl (fun _ => False) ((w.alloc (.cells (cc ⟨kind, true, lba, blocks, alloc, fua, prot, unmap, evpd, page, control, save, service, type, bytes⟩) 36)).alloc (.cells #[.int .u8 0, .int .u16 0, .int .u64 0, .bool false, .int .i64 0, .int .i64 0, .bool false, .bool false] 31))).alloc (.cells #[.bool n.a, .bool n.b, .bool n.c] 23))
        have hv1 : (((w.alloc (.cells (cc ⟨kind, true, lba, blocks, alloc, fua, prot, unmap, evpd, page, control, save, service, type, bytes⟩) 36)).alloc (.cells #[.int .u8 0, .int .u16 0, .int .u64 0, .bool false, .int .i64 0, .int .i64 0, .bool false, .bool false] 31)).alloc (.cells #[.bool n.a, .bool n.b, .bool n.c] 23)).heap[w.heap.size + 1 + 1]? = some (.cells #[.bool n.a, .bool n.b, .bool n.c] 23 (0, 0)) := by
          have := heap_alloc_new ((w.alloc (.cells (cc ⟨kind, true, lba, blocks, alloc, fua, prot, unmap, evpd, page, control, save, service, type, bytes⟩) 36)).alloc (.cells #[.int .u8 0, .int .u16 0, .int .u64 0, .bool false, .int .i64 0, .int .i64 0, .bool false, .bool false] 31)) (.cells #[.bool n.a, .bool n.b, .bool n.c] 23)
          simpa using this
        obtain ⟨W1, hW1⟩ : ∃ W1, W1 = ((w.alloc (.cells (cc ⟨kind, true, lba, blocks, alloc, fua, prot, unmap, evpd, page, control, save, service, type, bytes⟩) 36)).alloc (.cells #[.int .u8 0, .int .u16 0, .int .u64 0, .bool false, .int .i64 0, .int .i64 0, .bool false, .bool false] 31)).alloc (.cells #[.bool n.a, .bool n.b, .bool n.c] 23) := ⟨_, rfl⟩
        rw [← hW1] at m1 S1 hv1
        replace m1 := hide m1; replace S1 := hide S1; replace hv1 := hide hv1; replace hW1 := hide hW1
        clear hR
        go_loopw [6, 8, 13, 14, 15, 16, 17] (fun _ _ u _ _ _ _ wr => ∃ q : Nat, 8 ≤ q ∧ q ≤ len ∧ u = .int .i64 q ∧ Hid (∃ v1, Steps L 8 n q v1 ∧ Mod (fun k => k = w.heap.size + 1 + 1) W1 wr ∧ wr.heap[w.heap.size + 1 + 1]? = some (.cells #[.bool v1.a, .bool v1.b, .bool v1.c] 23 (0, 0)) ∧ SEnv wr w.heap.size ⟨kind, true, lba, blocks, alloc, fua, prot, unmap, evpd, page, control, save, service, type, bytes⟩ p n s)) (fun _ _ u _ _ _ _ _ => len - (intOf u).toNat)
        case atStart =>
          refine ⟨8, by omega, by omega, rfl, hide ⟨n, .refl _ _, ?_, ?_, ?_⟩⟩ <;> rw [← hW1.out]
          · exact Mod.refl _ _
          · exact hv1.out
          · exact S1.out
        case round =>
          obtain ⟨q, hq1, hq2, rfl, hR2⟩ := hrel
          obtain ⟨v1, hst, hm, hv, hS⟩ := hR2.out
          obtain ⟨x0, x1, x2⟩ := vals hv
          have hzz : w.heap.size + 1 + 1 < wr.heap.size := (Array.getElem?_eq_some_iff.1 hv).1
          obtain ⟨s1, s11⟩ := hS.cells
          replace hst := hide hst; replace hm := hide hm; replace hv := hide hv; replace hS := hide hS
          clear f0 f1 f2 f3 f4 f5
          by_cases hqn : q < len
          · have hrw : Rd wr 1 (ic .u8) (some A) len L := (hr.out.mod m1.out (by simp)).mod hm.out (fun ad e hk => by obtain rfl := Option.some.inj e; omega)
            have hpc := page_any A len cap q L v1 wr hqn hlc hcm.out hrw hb.out
            replace hpc := hide hpc
            clear hrw
            go_wp2_with (go_at_call 21; (with_reducible refine hpc.out.mono ?_); rintro e w2 ⟨v2, k, sn, ok, hPR, rfl, m2⟩
                         obtain ⟨k0, k1⟩ := hPR.bounds
                         replace k1 : k ≤ (len : Int) - q := by simp only [List.length_drop, hLl.out] at k1; omega
                         have S2 := hS.out.q m2
                         obtain ⟨t20, t21, t22, t23, t24, t25, t26, t27⟩ := eights S2.z
                         have h20 := S2.fz 0; have h21 := S2.fz 1; have h22 := S2.fz 2; have h23 := S2.fz 3; have h24 := S2.fz 4; have h25 := S2.fz 5; have h26 := S2.fz 6; have h27 := S2.fz 7
                         have hv2 := m2.heap hv.out (by simp)
                         obtain ⟨y0, y1, y2⟩ := vals (v := v1) hv2
                         have F2 : ∀ j, w2.frozen? ⟨w.heap.size + 1 + 1, j, none⟩ = false := fun j => frozen_of_row _ _ _ _ _ hv2
                         have u0 := F2 0; have u1 := F2 1; have u2 := F2 2
                         clear F2
                         have z2 : w.heap.size + 1 + 1 < w2.heap.size := (Array.getElem?_eq_some_iff.1 hv2).1
                         have z3 : w.heap.size + 1 < w2.heap.size := by omega
                         have z4 : w.heap.size < w2.heap.size := by omega
                         replace S2 := hide S2; replace m2 := hide m2; replace hv2 := hide hv2; replace hPR := hide hPR)
            · have hok : ok = false := by cases ok <;> simp_all
              go_region
              all_goals
                go_wp2_with fail
                obtain ⟨g8, m8⟩ := set8 S2.out.z (.int .u8 sn.key) (.int .u16 sn.code) (.int .u64 0) (.bool false) (.int .i64 sn.field) (.int .i64 sn.bit) (.bool sn.has) (.bool sn.cmd)
                generalize ((((((((w2.setCell ⟨w.heap.size + 1, 0, none⟩ (.int .u8 sn.key)).setCell ⟨w.heap.size + 1, 1, none⟩ (.int .u16 sn.code)).setCell ⟨w.heap.size + 1, 2, none⟩ (.int .u64 0)).setCell ⟨w.heap.size + 1, 3, none⟩ (.bool false)).setCell ⟨w.heap.size + 1, 4, none⟩ (.int .i64 sn.field)).setCell ⟨w.heap.size + 1, 5, none⟩ (.int .i64 sn.bit)).setCell ⟨w.heap.size + 1, 6, none⟩ (.bool sn.has)).setCell ⟨w.heap.size + 1, 7, none⟩ (.bool sn.cmd)) = w9 at *
                obtain ⟨c0, c1, c2, c3, c4, c5, c6, c7⟩ := eights g8
                have z9 : w.heap.size + 1 < w9.heap.size := (Array.getElem?_eq_some_iff.1 g8).1
                have z9b : w.heap.size + 1 < w9.heap.size + 1 := by omega
                have mf := fun o1 o2 => (((Mod.refl (fun _ => False) w9).alloc o1).alloc o2).drew
                have MM := (((m1.out.trans hm.out (fun i hi e => by omega)).trans m2.out (by simp)).trans m8 (fun i hi e => by omega))
                exact bodyPost_ret (v := .tuple #[.bool false, .agg #[.int .u8 sn.key, .int .u16 sn.code, .int .u64 0, .bool false, .int .i64 sn.field, .int .i64 sn.bit, .bool sn.has, .bool sn.cmd], .bool false]) (by simp [results, Try.results11, go_sem, c0, c1, c2, c3, c4, c5, c6, c7, z9, z9b]) rfl
                  ⟨false, sn, false, n, s, .inr ⟨by rw [hLl.out]; exact h0, .inr (.inr (.inl ⟨by rw [hLl.out]; show 8 ≤ len; omega, hhead.out, q, v1, v2, k, hst.out, by rw [hLl.out]; exact hqn, by rw [← hok]; exact hPR.out, rfl, rfl, rfl, rfl⟩))⟩, rfl, (S2.out.pg.mod m8 (by omega)).mod (mf _ _) (by simp), (MM.trans (mf _ _) (by simp)).mono (by simp)⟩
            · have hok : ok = true := by cases ok <;> simp_all
              subst hok
              obtain ⟨hsn, kn, hkn, hk12, hkl⟩ := hPR.out.ok
              subst hkn
              have hkl2 : kn ≤ len - q := by simpa [hLl.out] using hkl
              obtain ⟨g3, m3⟩ := set3 hv2.out (.bool v2.a) (.bool v2.b) (.bool v2.c)
              have mA := (m3.alloc (.cells #[.bool v2.a, .bool v2.b, .bool v2.c] 23)).alloc (.cells #[.int .u8 sn.key, .int .u16 sn.code, .int .u64 0, .bool false, .int .i64 sn.field, .int .i64 sn.bit, .bool sn.has, .bool sn.cmd] 31)
              have gA := (((Mod.refl (fun _ => False) _).alloc (.cells #[.bool v2.a, .bool v2.b, .bool v2.c] 23)).alloc (.cells #[.int .u8 sn.key, .int .u16 sn.code, .int .u64 0, .bool false, .int .i64 sn.field, .int .i64 sn.bit, .bool sn.has, .bool sn.cmd] 31)).heap g3 (by simp)
              have SA := S2.out.mod mA (by omega) (by omega) (by omega)
              have MA := (hm.out.trans (m2.out.mono (G := fun k => k = w.heap.size + 1 + 1) (by simp)) (fun _ _ h => h)).trans mA (fun _ _ h => h)
              have hst2 : Steps L 8 n (q + kn) v2 := .step hst.out (by rw [hLl.out]; exact hqn) (by rw [← hsn]; exact hPR.out)
              replace hst2 := hide hst2; replace hsn := hide hsn
              go_roundw
              case rel => exact ⟨q + kn, by omega, by omega, by go_num, hide ⟨v2, hst2.out, MA, gA, SA⟩⟩
              case measure => simp [intOf]; omega
          · obtain rfl : q = len := by omega
            obtain ⟨f0, f1, f2, f3, f4, f5⟩ := hS.out.pg.cells
            have r0 := hS.out.fp 0; have r1 := hS.out.fp 1; have r2 := hS.out.fp 2; have r3 := hS.out.fp 3; have r4 := hS.out.fp 4; have r5 := hS.out.fp 5
            obtain ⟨t40, t41, t42, t43, t44, t45, t46, t47⟩ := eights hS.out.z
            have h40 := hS.out.fz 0; have h41 := hS.out.fz 1; have h42 := hS.out.fz 2; have h43 := hS.out.fz 3; have h44 := hS.out.fz 4; have h45 := hS.out.fz 5; have h46 := hS.out.fz 6; have h47 := hS.out.fz 7
            have hp3 : p < wr.heap.size := hS.out.pg.lt
            have w1n : ¬ p = w.heap.size := by omega
            have w2n : ¬ w.heap.size = p := by omega
            have w3n : ¬ p = w.heap.size + 1 + 1 := by omega
            have w4n : ¬ w.heap.size + 1 + 1 = p := by omega
            have w5n : ¬ p = w.heap.size + 1 := by omega
            have w6n : ¬ w.heap.size + 1 = p := by omega
            have MM := m1.out.trans hm.out (fun i hi e => by omega)
            replace MM := hide MM
            cases save
            all_goals
              go_wp2_with fail
              refine wp_region_quiet_lit (by kernel_rfl) (by kernel_rfl) ?_
              repeat (first
                | (refine quiet_neqV (.tmp 76) (.tmp 80) _ v1 n rfl rfl rfl rfl ?_)
                | quiet_step (fail))
              refine wpQuiet_nil ?_
              intro _ hw'
              obtain ⟨nq, hw''⟩ := hw'
              subst hw''
              try simp [Act.put]
              go_wp2_with fail
            · obtain ⟨p3, q3⟩ := pg3 (show PG (wr.drewN nq) p n s from hS.out.pg) v1
              obtain ⟨g8, m8⟩ := set8 (q3.heap (show (wr.drewN nq).heap[w.heap.size + 1]? = _ from hS.out.z) (by omega)) (.int .u8 0) (.int .u16 0) (.int .u64 0) (.bool false) (.int .i64 0) (.int .i64 0) (.bool false) (.bool false)
              have p8 := p3.mod m8 (by omega)
              have M8 := (((MM.out.drewN nq).mono (G := fun k => k = p) (by simp)).trans q3 (fun _ _ h => h)).trans m8 (fun i hi e => by omega)
              generalize ((((((((((((wr.drewN nq).setCell ⟨p, 0, none⟩ (.bool v1.a)).setCell ⟨p, 1, none⟩ (.bool v1.b)).setCell ⟨p, 2, none⟩ (.bool v1.c)).setCell ⟨w.heap.size + 1, 0, none⟩ (.int .u8 0)).setCell ⟨w.heap.size + 1, 1, none⟩ (.int .u16 0)).setCell ⟨w.heap.size + 1, 2, none⟩ (.int .u64 0)).setCell ⟨w.heap.size + 1, 3, none⟩ (.bool false)).setCell ⟨w.heap.size + 1, 4, none⟩ (.int .i64 0)).setCell ⟨w.heap.size + 1, 5, none⟩ (.int .i64 0)).setCell ⟨w.heap.size + 1, 6, none⟩ (.bool false)).setCell ⟨w.heap.size + 1, 7, none⟩ (.bool false)) = w9 at *
              obtain ⟨c0, c1, c2, c3, c4, c5, c6, c7⟩ := eights g8
              exact bodyPost_ret (v := .tuple #[.bool (v1 != n), .agg #[.int .u8 0, .int .u16 0, .int .u64 0, .bool false, .int .i64 0, .int .i64 0, .bool false, .bool false], .bool true]) (by simp [results, Try.results11, go_sem, c0, c1, c2, c3, c4, c5, c6, c7]) rfl
                ⟨v1 != n, noSense, true, v1, s, .inr ⟨by rw [hLl.out]; exact h0, .inr (.inr (.inr ⟨by rw [hLl.out]; show 8 ≤ q; omega, hhead.out, v1, by rw [hLl.out]; exact hst.out, rfl, rfl, rfl, rfl, rfl⟩))⟩, rfl, p8, M8⟩
            · obtain ⟨p3, q3⟩ := pg3 (show PG (wr.drewN nq) p n s from hS.out.pg) v1
              obtain ⟨p6, q6⟩ := pgs p3 v1
              obtain ⟨g8, m8⟩ := set8 (q6.heap (q3.heap (show (wr.drewN nq).heap[w.heap.size + 1]? = _ from hS.out.z) (by omega)) (by omega)) (.int .u8 0) (.int .u16 0) (.int .u64 0) (.bool false) (.int .i64 0) (.int .i64 0) (.bool false) (.bool false)
              have p8 := p6.mod m8 (by omega)
              have M8 := ((((MM.out.drewN nq).mono (G := fun k => k = p) (by simp)).trans q3 (fun _ _ h => h)).trans q6 (fun _ _ h => h)).trans m8 (fun i hi e => by omega)
              generalize (((((((((((((((wr.drewN nq).setCell ⟨p, 0, none⟩ (.bool v1.a)).setCell ⟨p, 1, none⟩ (.bool v1.b)).setCell ⟨p, 2, none⟩ (.bool v1.c)).setCell ⟨p, 3, none⟩ (.bool v1.a)).setCell ⟨p, 4, none⟩ (.bool v1.b)).setCell ⟨p, 5, none⟩ (.bool v1.c)).setCell ⟨w.heap.size + 1, 0, none⟩ (.int .u8 0)).setCell ⟨w.heap.size + 1, 1, none⟩ (.int .u16 0)).setCell ⟨w.heap.size + 1, 2, none⟩ (.int .u64 0)).setCell ⟨w.heap.size + 1, 3, none⟩ (.bool false)).setCell ⟨w.heap.size + 1, 4, none⟩ (.int .i64 0)).setCell ⟨w.heap.size + 1, 5, none⟩ (.int .i64 0)).setCell ⟨w.heap.size + 1, 6, none⟩ (.bool false)).setCell ⟨w.heap.size + 1, 7, none⟩ (.bool false)) = w9 at *
              obtain ⟨c0, c1, c2, c3, c4, c5, c6, c7⟩ := eights g8
              exact bodyPost_ret (v := .tuple #[.bool (v1 != n), .agg #[.int .u8 0, .int .u16 0, .int .u64 0, .bool false, .int .i64 0, .int .i64 0, .bool false, .bool false], .bool true]) (by simp [results, Try.results11, go_sem, c0, c1, c2, c3, c4, c5, c6, c7]) rfl
                ⟨v1 != n, noSense, true, v1, v1, .inr ⟨by rw [hLl.out]; exact h0, .inr (.inr (.inr ⟨by rw [hLl.out]; show 8 ≤ q; omega, hhead.out, v1, by rw [hLl.out]; exact hst.out, rfl, rfl, rfl, rfl, rfl⟩))⟩, rfl, p8, M8⟩
end Go.Proofs.Ytieieinaijopnaa
