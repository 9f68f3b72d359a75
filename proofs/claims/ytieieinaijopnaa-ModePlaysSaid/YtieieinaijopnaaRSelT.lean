/-
  The walk of the reference's Select, the long form, where there are bytes. Condition: pages in a block of their own, a slice of bytes.
-/
import Derived.Test.YtieieinaijopnaaRSelw
namespace Go.Proofs.Ytieieinaijopnaa
open Go.RowKit
set_option maxRecDepth 100000 in
set_option maxHeartbeats 16000000 in
theorem rselect_T (p : Nat) (c : C) (A : Addr) (len cap : Nat) (L : List Int) (n s : V) (w : World) (hpg : RG w p (bitsV n) (bitsV s)) (hl : c.long = true) (h0 : 0 < len) (hlc : len ≤ cap) (hcm : cap ≤ maxLen)
    (hr : Rd w 1 (ic .u8) (some A) len L) (hb : ∀ x ∈ L, 0 ≤ x ∧ x ≤ 255) :
    Calls Try.prog 16 #[.pointer (some ⟨p, 0, none⟩), cv c, .slice (some A) len cap] w (RSelPost p L true c.save n s w) := by
  have hLl : L.length = len := hr.1
  have hblk : ∀ i, (A.add i).block = A.block := fun i => by simp [Addr.add]; split <;> rfl
  have hA : A.block < w.heap.size := by
    obtain ⟨ad, e, hc⟩ := hr.int 0 h0
    obtain rfl := Option.some.inj e
    have := World.block_lt_of_cell? w _ hc
    rwa [hblk] at this
  have hcs : ∀ i, i < len → w.cell? (A.add i) = some (.int .u8 (gi L i)) := fun i hi => by
    obtain ⟨ad, e, hc⟩ := hr.int i hi
    obtain rfl := Option.some.inj e
    exact hc
  have hbs : ∀ i, i < len → 0 ≤ gi L i ∧ gi L i ≤ 255 := fun i hi => by
    rw [gi_eq L _ (by omega)]
    exact hb _ (List.getElem_mem _)
  have hmx : cap ≤ 9223372036854775807 := hcm
  obtain ⟨kind, long, lba, blocks, alloc, fua, prot, unmap, evpd, page, control, save, service, type, bytes⟩ := c
  replace hl : long = true := hl
  subst hl
  have m0 : Mod (fun _ => False) w (((w.alloc (.cells (cc ⟨kind, true, lba, blocks, alloc, fua, prot, unmap, evpd, page, control, save, service, type, bytes⟩) 36)).alloc (.cells #[.int .u8 0, .int .u16 0, .int .u64 0, .bool false, .int .i64 0, .int .i64 0, .bool false, .bool false] 31)).alloc (.cells #[.int .u8 5, .int .u16 6656, .int .u64 0, .bool false, .int .i64 0, .int .i64 0, .bool false, .bool false] 31)) := (((Mod.refl _ w).alloc _).alloc _).alloc _
  have S0 : RQ (((w.alloc (.cells (cc ⟨kind, true, lba, blocks, alloc, fua, prot, unmap, evpd, page, control, save, service, type, bytes⟩) 36)).alloc (.cells #[.int .u8 0, .int .u16 0, .int .u64 0, .bool false, .int .i64 0, .int .i64 0, .bool false, .bool false] 31)).alloc (.cells #[.int .u8 5, .int .u16 6656, .int .u64 0, .bool false, .int .i64 0, .int .i64 0, .bool false, .bool false] 31)) w.heap.size ⟨kind, true, lba, blocks, alloc, fua, prot, unmap, evpd, page, control, save, service, type, bytes⟩ p (bitsV n) (bitsV s) := rq_start w ⟨kind, true, lba, blocks, alloc, fua, prot, unmap, evpd, page, control, save, service, type, bytes⟩ p _ _ hpg
  have hp0 : p < w.heap.size := hpg.lt
  have hn0 : ((len : Int) == 0) = false := by simp; omega
  show Calls Try.prog 16 #[.pointer (some ⟨p, 0, none⟩), cv ⟨kind, true, lba, blocks, alloc, fua, prot, unmap, evpd, page, control, save, service, type, bytes⟩, .slice (some A) len cap] w (RSelPost p L true save n s w)
  replace hpg := hide hpg; replace hLl := hide hLl; replace hblk := hide hblk; replace hcs := hide hcs; replace hbs := hide hbs; replace hr := hide hr; replace hb := hide hb; replace m0 := hide m0; replace S0 := hide S0
  by_cases hshort : len < 8
  · have j6 : decide ((len : Int) < 8) = true := by simp; omega
    go_enter Try.func16, Try.ntmps16
    go_wp2_with fail
    obtain ⟨W1, hW1⟩ : ∃ W1, W1 = (((w.alloc (.cells (cc ⟨kind, true, lba, blocks, alloc, fua, prot, unmap, evpd, page, control, save, service, type, bytes⟩) 36)).alloc (.cells #[.int .u8 0, .int .u16 0, .int .u64 0, .bool false, .int .i64 0, .int .i64 0, .bool false, .bool false] 31)).alloc (.cells #[.int .u8 5, .int .u16 6656, .int .u64 0, .bool false, .int .i64 0, .int .i64 0, .bool false, .bool false] 31)) := ⟨_, rfl⟩
    rw [← hW1] at m0 S0
    refine wp_at hW1 ?_
    obtain ⟨t10, t11, t12, t13, t14, t15, t16, t17⟩ := eights S0.out.z
    have h10 := S0.out.fz 0; have h11 := S0.out.fz 1; have h12 := S0.out.fz 2; have h13 := S0.out.fz 3; have h14 := S0.out.fz 4; have h15 := S0.out.fz 5; have h16 := S0.out.fz 6; have h17 := S0.out.fz 7
    obtain ⟨y10, y11, y12, y13, y14, y15, y16, y17⟩ := eights S0.out.sh
    have z1 := S0.out.size
    have z2 : w.heap.size + 1 < W1.heap.size := by omega
    replace hW1 := hide hW1
    go_region
    all_goals
      go_wp2_with fail
      obtain ⟨g8, m8⟩ := set8 S0.out.z (.int .u8 5) (.int .u16 6656) (.int .u64 0) (.bool false) (.int .i64 0) (.int .i64 0) (.bool false) (.bool false)
      generalize ((((((((W1.setCell ⟨w.heap.size + 1, 0, none⟩ (.int .u8 5)).setCell ⟨w.heap.size + 1, 1, none⟩ (.int .u16 6656)).setCell ⟨w.heap.size + 1, 2, none⟩ (.int .u64 0)).setCell ⟨w.heap.size + 1, 3, none⟩ (.bool false)).setCell ⟨w.heap.size + 1, 4, none⟩ (.int .i64 0)).setCell ⟨w.heap.size + 1, 5, none⟩ (.int .i64 0)).setCell ⟨w.heap.size + 1, 6, none⟩ (.bool false)).setCell ⟨w.heap.size + 1, 7, none⟩ (.bool false)) = w9 at *
      obtain ⟨c0, c1, c2, c3, c4, c5, c6, c7⟩ := eights g8
      exact bodyPost_ret (v := .tuple #[.bool false, .agg #[.int .u8 5, .int .u16 6656, .int .u64 0, .bool false, .int .i64 0, .int .i64 0, .bool false, .bool false], .bool false]) (by simp [results, Try.results16, go_sem, c0, c1, c2, c3, c4, c5, c6, c7]) rfl
        ⟨false, shortS, false, n, s, .inr ⟨by rw [hLl.out]; exact h0, .inl ⟨by rw [hLl.out]; exact hshort, rfl, rfl, rfl, rfl, rfl⟩⟩, rfl, (show RG w9 p _ _ from S0.out.rg.mod m8 (by omega)), Mod.drew (F := fun k => k = p) ((m0.out.mono (by simp)).trans m8 (fun k hk e => by omega))⟩
  · have j6 : decide ((len : Int) < 8) = false := by simp; omega
    go_enter Try.func16, Try.ntmps16
    go_wp2_with fail
    obtain ⟨W1, hW1⟩ : ∃ W1, W1 = (((w.alloc (.cells (cc ⟨kind, true, lba, blocks, alloc, fua, prot, unmap, evpd, page, control, save, service, type, bytes⟩) 36)).alloc (.cells #[.int .u8 0, .int .u16 0, .int .u64 0, .bool false, .int .i64 0, .int .i64 0, .bool false, .bool false] 31)).alloc (.cells #[.int .u8 5, .int .u16 6656, .int .u64 0, .bool false, .int .i64 0, .int .i64 0, .bool false, .bool false] 31)) := ⟨_, rfl⟩
    rw [← hW1] at m0 S0
    refine wp_at hW1 ?_
    replace hW1 := hide hW1
    go_loop [12] (fun u => ∃ i : Nat, i ≤ 8 ∧ u = .int .i64 i ∧ Hid (∀ j, j < i → j ≠ 3 → gi L j = 0)) (fun u => 8 - (intOf u).toNat)
    case atStart => exact ⟨0, by omega, rfl, hide (fun j h => by omega)⟩
    case round =>
      obtain ⟨i, hi, rfl, hR⟩ := hrel
      by_cases hlt : i < 8
      · have hx := m0.out.cell (hcs.out i (by omega)) (by simp)
        obtain ⟨x0, x1⟩ := hbs.out i (by omega)
        have hil : (i : Int) < (len : Int) := by omega
        have hcase : (gi L i = 0 ∧ (gi L i != 0) = false) ∨ (i = 3 ∧ (gi L i != 0) = true ∧ ((i : Int) != 3) = false) ∨ (¬ i = 3 ∧ ¬ gi L i = 0 ∧ (gi L i != 0) = true ∧ ((i : Int) != 3) = true) := by
          by_cases h1 : gi L i = 0
          · exact .inl ⟨h1, by simpa using h1⟩
          · by_cases h2 : i = 3
            · exact .inr (.inl ⟨h2, by simpa using h1, by simp; omega⟩)
            · exact .inr (.inr ⟨h2, h1, by simpa using h1, by simp; omega⟩)
        rcases hcase with ⟨h1, h2⟩ | ⟨h1, h2, h3⟩ | ⟨h1, h2, h3, h4⟩
        · have hn : ∀ j, j < i + 1 → j ≠ 3 → gi L j = 0 := fun j hj hd => by
            by_cases e : j = i
            · rw [e]; exact h1
            · exact hR.out j (by omega) hd
          replace hn := hide hn; replace h1 := hide h1
          go_wp2_with fail
          go_round
          case rel => exact ⟨i + 1, by omega, by go_num, hn⟩
          case measure => simp [intOf]; omega
        · have hn : ∀ j, j < i + 1 → j ≠ 3 → gi L j = 0 := fun j hj hd => by
            by_cases e : j = i
            · exact absurd (e.trans h1) hd
            · exact hR.out j (by omega) hd
          replace hn := hide hn; replace h1 := hide h1
          go_wp2_with fail
          go_round
          case rel => exact ⟨i + 1, by omega, by go_num, hn⟩
          case measure => simp [intOf]; omega
        · replace h1 := hide h1; replace h2 := hide h2
          go_wp2_with (go_at_call 22; (with_reducible refine (fault_any _ _ _ _ _).mono ?_); rintro e w5 ⟨rfl, m5⟩
                       have S5 := S0.out.q m5
                       obtain ⟨t50, t51, t52, t53, t54, t55, t56, t57⟩ := eights S5.z
                       have h50 := S5.fz 0; have h51 := S5.fz 1; have h52 := S5.fz 2; have h53 := S5.fz 3; have h54 := S5.fz 4; have h55 := S5.fz 5; have h56 := S5.fz 6; have h57 := S5.fz 7
                       have z5 : w.heap.size + 1 + 1 < w5.heap.size := S5.size
                       have z6 : w.heap.size + 1 < w5.heap.size := by omega
                       replace S5 := hide S5; replace m5 := hide m5)
          obtain ⟨g8, m8⟩ := set8 S5.out.z (.int .u8 5) (.int .u16 9728) (.int .u64 0) (.bool false) (.int .i64 ↑i) (.int .i64 (-1)) (.bool true) (.bool false)
          generalize ((((((((w5.setCell ⟨w.heap.size + 1, 0, none⟩ (.int .u8 5)).setCell ⟨w.heap.size + 1, 1, none⟩ (.int .u16 9728)).setCell ⟨w.heap.size + 1, 2, none⟩ (.int .u64 0)).setCell ⟨w.heap.size + 1, 3, none⟩ (.bool false)).setCell ⟨w.heap.size + 1, 4, none⟩ (.int .i64 ↑i)).setCell ⟨w.heap.size + 1, 5, none⟩ (.int .i64 (-1))).setCell ⟨w.heap.size + 1, 6, none⟩ (.bool true)).setCell ⟨w.heap.size + 1, 7, none⟩ (.bool false)) = w9 at *
          obtain ⟨c0, c1, c2, c3, c4, c5, c6, c7⟩ := eights g8
          exact bodyPost_ret (v := .tuple #[.bool false, .agg #[.int .u8 5, .int .u16 9728, .int .u64 0, .bool false, .int .i64 ↑i, .int .i64 (-1), .bool true, .bool false], .bool false]) (by simp [results, Try.results16, go_sem, c0, c1, c2, c3, c4, c5, c6, c7]) rfl
            ⟨false, badS i (-1) false, false, n, s, .inr ⟨by rw [hLl.out]; exact h0, .inr (.inl ⟨by rw [hLl.out]; show 8 ≤ len; omega, i, hlt, h1.out, h2.out, hR.out, rfl, rfl, rfl, rfl, rfl⟩)⟩, rfl, (show RG w9 p _ _ from S5.out.rg.mod m8 (by omega)), (((m0.out.trans m5.out (by simp)).mono (by simp)).trans m8 (fun k hk e => by omega))⟩
      · obtain rfl : i = 8 := by omega
        have hhead : HeadOk L true := hR.out
        replace hhead := hide hhead
        obtain ⟨f0, f1⟩ := S0.out.rg.cells
        go_wp2_with fail
        clear hR f0 f1
        go_loopw [6, 8, 13, 14, 15, 16, 17] (fun _ _ v u _ _ _ wr => ∃ (q : Nat) (v1 : V), 8 ≤ q ∧ q ≤ len ∧ u = .int .i64 q ∧ v = .int .i64 (bitsV v1) ∧ Hid (Steps L 8 n q v1 ∧ Mod (fun _ => False) W1 wr)) (fun _ _ _ u _ _ _ _ => len - (intOf u).toNat)
        case atStart => exact ⟨8, n, by omega, by omega, rfl, rfl, hide ⟨.refl _ _, Mod.refl _ _⟩⟩
        case round =>
          obtain ⟨q, v1, hq1, hq2, rfl, rfl, hR2⟩ := hrel
          obtain ⟨hst, hmr⟩ := hR2.out
          have SR := S0.out.q hmr
          have MR := m0.out.trans hmr (by simp)
          have zr : w.heap.size + 1 + 1 < wr.heap.size := SR.size
          have zrb : w.heap.size + 1 < wr.heap.size := by omega
          replace hst := hide hst; replace hmr := hide hmr; replace SR := hide SR; replace MR := hide MR
          clear hR2
          by_cases hqn : q < len
          · have hx := MR.out.cell (hcs.out q hqn) (by simp)
            obtain ⟨x0, x1⟩ := hbs.out q hqn
            have hx0 : (q : Int) < (len : Int) := by omega
            have hgR : ∀ i, gi (L.drop q) i = gi L (q + i) := fun i => by simp [gi, List.getD_eq_getElem?_getD]
            have hRl : (L.drop q).length = len - q := by rw [List.length_drop, hLl.out]
            replace hgR := hide hgR; replace hRl := hide hRl
            by_cases hx8 : gi L q = 8
            · skip
              have hg0 : gi (L.drop q) 0 = 8 := by rw [hgR.out]; exact hx8
              rw [hx8] at hx
              clear x0 x1
              replace hg0 := hide hg0; replace hx8 := hide hx8
              have hall1 : gi (cachL ⟨true, true, true⟩) 1 = 18 := by decide
              have hcan : ∀ i, i < 20 → 2 ≤ i → gi (cachL ⟨true, true, true⟩) i = canB 8 i := ones8
              replace hall1 := hide hall1; replace hcan := hide hcan
              by_cases hend : q + 1 = len
              · have b1 : ((q : Int) + 1 == (len : Int)) = true := by simp; omega
                go_wp2_with (go_at_call 23; (with_reducible refine (rpage8x ⟨true, true, true⟩ 7 rfl _).mono ?_); rintro e w4 ⟨g, rfl, r4, m4, -⟩
                             have S4 := SR.out.q m4
                             have M4 := MR.out.trans m4 (by simp)
                             have H4 := hmr.out.trans m4 (by simp)
                             have z4 : w.heap.size + 1 + 1 < w4.heap.size := S4.size
                             have z4b : w.heap.size + 1 < w4.heap.size := by omega
                             replace S4 := hide S4; replace M4 := hide M4; replace m4 := hide m4; replace H4 := hide H4; replace r4 := hide r4)
                obtain ⟨t40, t41, t42, t43, t44, t45, t46, t47⟩ := eights S4.out.z
                have h40 := S4.out.fz 0; have h41 := S4.out.fz 1; have h42 := S4.out.fz 2; have h43 := S4.out.fz 3; have h44 := S4.out.fz 4; have h45 := S4.out.fz 5; have h46 := S4.out.fz 6; have h47 := S4.out.fz 7
                obtain ⟨y40, y41, y42, y43, y44, y45, y46, y47⟩ := eights S4.out.sh
                replace hend := hide hend
                go_region
                all_goals
                  go_wp2_with fail
                  obtain ⟨g8, m8⟩ := set8 S4.out.z (.int .u8 5) (.int .u16 6656) (.int .u64 0) (.bool false) (.int .i64 0) (.int .i64 0) (.bool false) (.bool false)
                  generalize ((((((((w4.setCell ⟨w.heap.size + 1, 0, none⟩ (.int .u8 5)).setCell ⟨w.heap.size + 1, 1, none⟩ (.int .u16 6656)).setCell ⟨w.heap.size + 1, 2, none⟩ (.int .u64 0)).setCell ⟨w.heap.size + 1, 3, none⟩ (.bool false)).setCell ⟨w.heap.size + 1, 4, none⟩ (.int .i64 0)).setCell ⟨w.heap.size + 1, 5, none⟩ (.int .i64 0)).setCell ⟨w.heap.size + 1, 6, none⟩ (.bool false)).setCell ⟨w.heap.size + 1, 7, none⟩ (.bool false)) = w9 at *
                  obtain ⟨c0, c1, c2, c3, c4, c5, c6, c7⟩ := eights g8
                  exact bodyPost_ret (v := .tuple #[.bool false, .agg #[.int .u8 5, .int .u16 6656, .int .u64 0, .bool false, .int .i64 0, .int .i64 0, .bool false, .bool false], .bool false]) (by simp [results, Try.results16, go_sem, c0, c1, c2, c3, c4, c5, c6, c7]) rfl
                    ⟨false, shortS, false, n, s, .inr ⟨by rw [hLl.out]; exact h0, .inr (.inr (.inl ⟨by rw [hLl.out]; show 8 ≤ len; omega, hhead.out, q, v1, v1, 0, hst.out, by rw [hLl.out]; exact hqn, .inr ⟨(.inl hg0.out), .inl ⟨.inl (by rw [hRl.out]; have := hend.out; omega), rfl, rfl, rfl, rfl⟩⟩, rfl, rfl, rfl, rfl⟩))⟩, rfl, (show RG w9 p _ _ from S4.out.rg.mod m8 (by omega)), Mod.drew (F := fun k => k = p) ((M4.out.mono (by simp)).trans m8 (fun k hk e => by omega))⟩
              · have b1 : ((q : Int) + 1 == (len : Int)) = false := by simp; omega
                have hq1n : q + 1 < len := by omega
                clear hend
                go_wp2_with (go_at_call 23; (with_reducible refine (rpage8x ⟨true, true, true⟩ 7 rfl _).mono ?_); rintro e w4 ⟨g, rfl, r4, m4, -⟩
                             have S4 := SR.out.q m4
                             have M4 := MR.out.trans m4 (by simp)
                             have H4 := hmr.out.trans m4 (by simp)
                             have z4 : w.heap.size + 1 + 1 < w4.heap.size := S4.size
                             have z4b : w.heap.size + 1 < w4.heap.size := by omega
                             replace S4 := hide S4; replace M4 := hide M4; replace m4 := hide m4; replace H4 := hide H4; replace r4 := hide r4)
                have d1 := M4.out.cell (hcs.out (q + 1) hq1n) (by simp)
                have d1f : w4.cell? ⟨A.block, A.off + (q + 1), none⟩ = some (.int .u8 (gi L (q + 1))) := by have h := d1; simp only [Addr.add, if_neg (Nat.succ_ne_zero q)] at h; exact h
                obtain ⟨c1, -⟩ := r4.out.num 1 (by decide)
                rw [hall1.out] at c1
                have e1 : IntKind.i64.wrap ((q : Int) + 1) = (q : Int) + 1 := IntWalk.i64_in _ (by omega)
                have e1a : (0 : Int) ≤ (q : Int) + 1 := by omega
                have e1b : (q : Int) + 1 < (len : Int) := by omega
                have e1c : ((q : Int) + 1).toNat = q + 1 := by omega
                obtain ⟨x1, hx1⟩ : ∃ x1, x1 = gi L (q + 1) := ⟨_, rfl⟩
                rw [← hx1] at d1 d1f
                have hgx1 : gi (L.drop q) 1 = x1 := by rw [hgR.out, hx1]
                replace hx1 := hide hx1; replace hgx1 := hide hgx1
                by_cases hlen : x1 = 18
                · subst hlen
                  go_quiet (fail)
                  obtain ⟨w5, hw5⟩ : ∃ w5, w5 = w4.drewN nq := ⟨_, rfl⟩
                  have H5 : Mod (fun _ => False) w4 w5 := by rw [hw5]; exact (Mod.refl _ w4).drewN nq
                  refine q_at hw5 ?_
                  clear hw5
                  have S5 := S4.out.q H5
                  have M5 := M4.out.trans H5 (by simp)
                  have r5 := r4.out.mod H5 (by simp)
                  replace H5 := hide (H4.out.trans H5 (by simp))
                  have z5 : w.heap.size + 1 + 1 < w5.heap.size := S5.size
                  have z5b : w.heap.size + 1 < w5.heap.size := by omega
                  clear c1 d1 d1f e1 e1a e1b e1c hx hx0
                  by_cases hwn : len - q < 20
                  · have b2 : decide ((len : Int) - (q : Int) < 20) = true := by simp; omega
                    obtain ⟨t50, t51, t52, t53, t54, t55, t56, t57⟩ := eights S5.z
                    have h50 := S5.fz 0; have h51 := S5.fz 1; have h52 := S5.fz 2; have h53 := S5.fz 3; have h54 := S5.fz 4; have h55 := S5.fz 5; have h56 := S5.fz 6; have h57 := S5.fz 7
                    obtain ⟨y50, y51, y52, y53, y54, y55, y56, y57⟩ := eights S5.sh
                    replace S5 := hide S5; replace M5 := hide M5; replace r5 := hide r5; replace hwn := hide hwn
                    go_wp2_with fail
                    go_region
                    all_goals
                      go_wp2_with fail
                      obtain ⟨g8, m8⟩ := set8 S5.out.z (.int .u8 5) (.int .u16 6656) (.int .u64 0) (.bool false) (.int .i64 0) (.int .i64 0) (.bool false) (.bool false)
                      generalize ((((((((w5.setCell ⟨w.heap.size + 1, 0, none⟩ (.int .u8 5)).setCell ⟨w.heap.size + 1, 1, none⟩ (.int .u16 6656)).setCell ⟨w.heap.size + 1, 2, none⟩ (.int .u64 0)).setCell ⟨w.heap.size + 1, 3, none⟩ (.bool false)).setCell ⟨w.heap.size + 1, 4, none⟩ (.int .i64 0)).setCell ⟨w.heap.size + 1, 5, none⟩ (.int .i64 0)).setCell ⟨w.heap.size + 1, 6, none⟩ (.bool false)).setCell ⟨w.heap.size + 1, 7, none⟩ (.bool false)) = w9 at *
                      obtain ⟨c0, c1, c2, c3, c4, c5, c6, c7⟩ := eights g8
                      exact bodyPost_ret (v := .tuple #[.bool false, .agg #[.int .u8 5, .int .u16 6656, .int .u64 0, .bool false, .int .i64 0, .int .i64 0, .bool false, .bool false], .bool false]) (by simp [results, Try.results16, go_sem, c0, c1, c2, c3, c4, c5, c6, c7]) rfl
                        ⟨false, shortS, false, n, s, .inr ⟨by rw [hLl.out]; exact h0, .inr (.inr (.inl ⟨by rw [hLl.out]; show 8 ≤ len; omega, hhead.out, q, v1, v1, 0, hst.out, by rw [hLl.out]; exact hqn, .inr ⟨(.inl hg0.out), .inl ⟨.inr ⟨by rw [hRl.out, hg0.out]; exact hwn.out, by rw [hg0.out, hgx1.out]; rfl⟩, rfl, rfl, rfl, rfl⟩⟩, rfl, rfl, rfl, rfl⟩))⟩, rfl, (show RG w9 p _ _ from S5.out.rg.mod m8 (by omega)), Mod.drew (F := fun k => k = p) ((M5.out.mono (by simp)).trans m8 (fun k hk e => by omega))⟩
                  · have b2 : decide ((len : Int) - (q : Int) < 20) = false := by simp; omega
                    have hwn2 : 20 ≤ len - q := by omega
                    clear hwn
                    replace S5 := hide S5; replace M5 := hide M5; replace r5 := hide r5
                    go_wp2_with fail
                    go_loop [6, 8, 16, 17] (fun _ _ u _ => ∃ i : Nat, 2 ≤ i ∧ i ≤ 20 ∧ u = .int .i64 i ∧ Hid (Clean (L.drop q) 8 i)) (fun _ _ u _ => 20 - (intOf u).toNat)
                    case atStart => exact ⟨2, by omega, by omega, rfl, hide (fun j h1 h2 => by omega)⟩
                    case round =>
                      obtain ⟨i, hi2, hi, rfl, hR⟩ := hrel
                      by_cases hlt : i < 20
                      · have hx := M5.out.cell (hcs.out (q + i) (by omega)) (by simp)
                        obtain ⟨hx0, hx1'⟩ := hbs.out (q + i) (by omega)
                        obtain ⟨ca, -⟩ := r5.out.num i (by show i < 20; exact hlt)
                        have hal3 := can_of 8 i
                        rw [hcan.out i hlt hi2] at ca
                        have hcanx : ∀ b', bitT (gi (L.drop q) i) (canB 8 i) b' = bitT (gi L (q + i)) (canB 8 i) b' := fun b' => by rw [hgR.out]
                        generalize gi L (q + i) = x at *
                        obtain ⟨al, hal⟩ : ∃ al, al = canB 8 i := ⟨_, rfl⟩
                        rw [← hal] at ca hal3 hcanx
                        replace hal := hide hal
                        have e5 : IntKind.i64.wrap ((q : Int) + i) = (q : Int) + i := IntWalk.i64_in _ (by omega)
                        have hal0 : 0 ≤ al := by omega
                        have hal1 : al ≤ 255 := by omega
                        have him : q + i < len := by omega
                        have him2 : (q : Int) + i < (len : Int) := by omega
                        replace hcanx := hide hcanx; replace hal3 := hide hal3
                        go_wp2_with fail
                        go_loop [6, 8, 17] (fun _ _ u => ∃ k : Nat, k ≤ 8 ∧ u = .int .i64 ((k : Int) - 1) ∧ Hid (∀ b', k ≤ b' → b' ≤ 7 → bitT x al b' = false)) (fun _ _ u => ((intOf u) + 1).toNat)
                        case atStart => exact ⟨8, by omega, rfl, hide (fun b' h1 h2 => by omega)⟩
                        case round =>
                          obtain ⟨k, hk, rfl, hK⟩ := hrel
                          by_cases hk0 : 0 < k
                          · have hbr := bit_ref x al ⟨hx0, hx1'⟩ hal3.out (k - 1) (by omega)
                            have hK2 : bitT x al (k - 1) = false → ∀ b', k - 1 ≤ b' → b' ≤ 7 → bitT x al b' = false := fun hbit b' h1 h2 => by
                              by_cases e : b' = k - 1
                              · rw [e]; exact hbit
                              · exact hK.out b' (by omega) h2
                            cases hT1 : (bits BinOp.and IntKind.u8 (x / 2 ^ (k - 1)) 1 == 1)
                            · rw [hT1] at hbr
                              have hK3 := hide (hK2 (by rw [← hbr]; rfl))
                              clear hK2 hbr
                              go_wp2_with fail
                              go_round
                              case rel => exact ⟨k - 1, by omega, int_eq (by omega), hK3⟩
                              case measure => simp [intOf]; omega
                            · cases hT2 : (bits BinOp.and IntKind.u8 (al / 2 ^ (k - 1)) 1 == 0)
                              · rw [hT1, hT2] at hbr
                                have hK3 := hide (hK2 (by rw [← hbr]; rfl))
                                clear hK2 hbr
                                go_wp2_with fail
                                go_round
                                case rel => exact ⟨k - 1, by omega, int_eq (by omega), hK3⟩
                                case measure => simp [intOf]; omega
                              · rw [hT1, hT2] at hbr
                                have hbit : bitT x al (k - 1) = true := by rw [← hbr]; rfl
                                have hfirst : ∀ al', al' = al → canB 8 i = al' → First (L.drop q) (gi (L.drop q) 0) i (k - 1) := fun al' ha hc => by
                                  subst ha
                                  rw [hg0.out]
                                  refine ⟨hi2, hlt, by omega, hR.out, ?_, fun b' h1 h2 => ?_⟩
                                  · rw [hc, hcanx.out]; exact hbit
                                  · rw [hc, hcanx.out]; exact hK.out b' (by omega) h2
                                have hkk : ((k : Int) - 1) = ((k - 1 : Nat) : Int) := by omega
                                replace hbit := hide hbit; replace hfirst := hide hfirst; replace hkk := hide hkk
                                clear hK2 hbr
                                go_wp2_with (go_at_call 22; (with_reducible refine (fault_any _ _ _ _ _).mono ?_); rintro e w6 ⟨rfl, mw6⟩
                                             have Sw6 := S5.out.q mw6
                                             have Mw6 := M5.out.trans mw6 (by simp)
                                             obtain ⟨tf0, tf1, tf2, tf3, tf4, tf5, tf6, tf7⟩ := eights Sw6.z
                                             have hf0 := Sw6.fz 0; have hf1 := Sw6.fz 1; have hf2 := Sw6.fz 2; have hf3 := Sw6.fz 3; have hf4 := Sw6.fz 4; have hf5 := Sw6.fz 5; have hf6 := Sw6.fz 6; have hf7 := Sw6.fz 7
                                             have zz1 : w.heap.size + 1 + 1 < w6.heap.size := Sw6.size
                                             have zz2 : w.heap.size + 1 < w6.heap.size := by omega
                                             replace Sw6 := hide Sw6; replace Mw6 := hide Mw6; replace mw6 := hide mw6)
                                obtain ⟨g8, m8⟩ := set8 Sw6.out.z (.int .u8 5) (.int .u16 9728) (.int .u64 0) (.bool false) (.int .i64 (↑q + ↑i)) (.int .i64 (↑k - 1)) (.bool true) (.bool false)
                                generalize ((((((((w6.setCell ⟨w.heap.size + 1, 0, none⟩ (.int .u8 5)).setCell ⟨w.heap.size + 1, 1, none⟩ (.int .u16 9728)).setCell ⟨w.heap.size + 1, 2, none⟩ (.int .u64 0)).setCell ⟨w.heap.size + 1, 3, none⟩ (.bool false)).setCell ⟨w.heap.size + 1, 4, none⟩ (.int .i64 (↑q + ↑i))).setCell ⟨w.heap.size + 1, 5, none⟩ (.int .i64 (↑k - 1))).setCell ⟨w.heap.size + 1, 6, none⟩ (.bool true)).setCell ⟨w.heap.size + 1, 7, none⟩ (.bool false)) = w9 at *
                                obtain ⟨c0, c1, c2, c3, c4, c5, c6, c7⟩ := eights g8
                                exact bodyPost_ret (v := .tuple #[.bool false, .agg #[.int .u8 5, .int .u16 9728, .int .u64 0, .bool false, .int .i64 (↑q + ↑i), .int .i64 (↑k - 1), .bool true, .bool false], .bool false]) (by simp [results, Try.results16, go_sem, c0, c1, c2, c3, c4, c5, c6, c7]) rfl
                                  ⟨false, badS ((q : Int) + (i : Nat)) ((k - 1 : Nat) : Int) false, false, n, s, .inr ⟨by rw [hLl.out]; exact h0, .inr (.inr (.inl ⟨by rw [hLl.out]; show 8 ≤ len; omega, hhead.out, q, v1, v1, 0, hst.out, by rw [hLl.out]; exact hqn, .inr ⟨(.inl hg0.out), .inr (.inr (.inl ⟨by rw [hRl.out, hg0.out]; exact hwn2, by rw [hg0.out, hgx1.out]; rfl, i, k - 1, hfirst.out _ rfl hal.out.symm, rfl, rfl, rfl, rfl⟩))⟩, rfl, rfl, rfl, rfl⟩))⟩, by rw [← hkk.out]; rfl, (show RG w9 p _ _ from Sw6.out.rg.mod m8 (by omega)), ((Mw6.out.mono (by simp)).trans m8 (fun k hk e => by omega))⟩
                          · obtain rfl : k = 0 := by omega
                            have hcl : ∀ al', al' = al → canB 8 i = al' → Clean (L.drop q) 8 (i + 1) := fun al' ha hc j h1 h2 b' h3 => by
                              subst ha
                              by_cases e : j = i
                              · rw [e, hc, hcanx.out]; exact hK.out b' (by omega) h3
                              · exact hR.out j h1 (by omega) b' h3
                            have hcl2 := hide (hcl _ rfl hal.out.symm)
                            clear hcl
                            go_wp2_with fail
                            go_round
                            case rel => exact ⟨i + 1, by omega, by omega, by go_num, hcl2⟩
                            case measure => simp [intOf]; omega
                      · obtain rfl : i = 20 := by omega
                        have hcl := hR.out
                        have hx := M5.out.cell (hcs.out q hqn) (by simp)
                        rw [hx8.out] at hx
                        have hx2 := M5.out.cell (hcs.out (q + 2) (by omega)) (by simp)
                        have hx2f : w5.cell? ⟨A.block, A.off + (q + 2), none⟩ = some (.int .u8 (gi L (q + 2))) := by have h := hx2; simp only [Addr.add, if_neg (show ¬ q + 2 = 0 by omega)] at h; exact h
                        obtain ⟨y0, y1⟩ := hbs.out (q + 2) (by omega)
                        obtain ⟨hv0, hv7⟩ := bitsV_bound v1
                        have h2n : q + 2 < len := by omega
                        have hup := updV8 (L.drop q) v1 hg0.out (by rw [hgR.out]; exact ⟨y0, y1⟩) hcl
                        rw [hgR.out, Int.tdiv_eq_ediv_of_nonneg hv0, Int.tdiv_eq_ediv_of_nonneg y0] at hup
                        have hpr : PageR (L.drop q) q v1 (updV (L.drop q) v1) 20 noSense true := .inr ⟨(.inl hg0.out), .inr (.inr (.inr ⟨by rw [hRl.out, hg0.out]; exact hwn2, by rw [hg0.out, hgx1.out]; rfl, by rw [hg0.out]; exact hcl, rfl, by rw [hg0.out]; rfl, rfl, rfl⟩))⟩
                        have hst2 : Steps L 8 n (q + 20) (updV (L.drop q) v1) := .step hst.out (by rw [hLl.out]; exact hqn) hpr
                        generalize updV (L.drop q) v1 = v2 at *
                        generalize gi L (q + 2) = x2 at *
                        replace hup := hide hup; replace hst2 := hide hst2
                        clear hcl hpr hR
                        go_wp2_with fail
                        go_roundw
                        case rel => exact ⟨q + 20, v2, by omega, by omega, by go_num, int_eq hup.out, hide ⟨hst2.out, H5.out⟩⟩
                        case measure => simp [intOf]; omega
                · have hq2 : 2 ≤ len - q := by omega
                  have b3 : (x1 == 18) = false := by simpa using hlen
                  have b4 : (x1 != 18) = true := by simpa using hlen
                  replace hlen := hide hlen
                  go_quiet (fail)
                  obtain ⟨w5, hw5⟩ : ∃ w5, w5 = w4.drewN nq := ⟨_, rfl⟩
                  have H5 : Mod (fun _ => False) w4 w5 := by rw [hw5]; exact (Mod.refl _ w4).drewN nq
                  refine q_at hw5 ?_
                  clear hw5 c1 d1 d1f e1a e1b e1c hx hx0
                  have S5 := S4.out.q H5
                  have M5 := M4.out.trans H5 (by simp)
                  replace S5 := hide S5; replace M5 := hide M5; replace H5 := hide H5
                  go_wp2_with (go_at_call 22; (with_reducible refine (fault_any _ _ _ _ _).mono ?_); rintro e w6 ⟨rfl, mw6⟩
                               have Sw6 := S5.out.q mw6
                               have Mw6 := M5.out.trans mw6 (by simp)
                               obtain ⟨tf0, tf1, tf2, tf3, tf4, tf5, tf6, tf7⟩ := eights Sw6.z
                               have hf0 := Sw6.fz 0; have hf1 := Sw6.fz 1; have hf2 := Sw6.fz 2; have hf3 := Sw6.fz 3; have hf4 := Sw6.fz 4; have hf5 := Sw6.fz 5; have hf6 := Sw6.fz 6; have hf7 := Sw6.fz 7
                               have zz1 : w.heap.size + 1 + 1 < w6.heap.size := Sw6.size
                               have zz2 : w.heap.size + 1 < w6.heap.size := by omega
                               replace Sw6 := hide Sw6; replace Mw6 := hide Mw6; replace mw6 := hide mw6)
                  obtain ⟨g8, m8⟩ := set8 Sw6.out.z (.int .u8 5) (.int .u16 9728) (.int .u64 0) (.bool false) (.int .i64 (↑q + 1)) (.int .i64 (-1)) (.bool true) (.bool false)
                  generalize ((((((((w6.setCell ⟨w.heap.size + 1, 0, none⟩ (.int .u8 5)).setCell ⟨w.heap.size + 1, 1, none⟩ (.int .u16 9728)).setCell ⟨w.heap.size + 1, 2, none⟩ (.int .u64 0)).setCell ⟨w.heap.size + 1, 3, none⟩ (.bool false)).setCell ⟨w.heap.size + 1, 4, none⟩ (.int .i64 (↑q + 1))).setCell ⟨w.heap.size + 1, 5, none⟩ (.int .i64 (-1))).setCell ⟨w.heap.size + 1, 6, none⟩ (.bool true)).setCell ⟨w.heap.size + 1, 7, none⟩ (.bool false)) = w9 at *
                  obtain ⟨c0, c1, c2, c3, c4, c5, c6, c7⟩ := eights g8
                  exact bodyPost_ret (v := .tuple #[.bool false, .agg #[.int .u8 5, .int .u16 9728, .int .u64 0, .bool false, .int .i64 (↑q + 1), .int .i64 (-1), .bool true, .bool false], .bool false]) (by simp [results, Try.results16, go_sem, c0, c1, c2, c3, c4, c5, c6, c7]) rfl
                    ⟨false, badS ((q : Int) + 1) (-1) false, false, n, s, .inr ⟨by rw [hLl.out]; exact h0, .inr (.inr (.inl ⟨by rw [hLl.out]; show 8 ≤ len; omega, hhead.out, q, v1, v1, 0, hst.out, by rw [hLl.out]; exact hqn, .inr ⟨(.inl hg0.out), .inr (.inl ⟨by rw [hRl.out]; exact hq2, by rw [hg0.out, hgx1.out]; exact hlen.out, rfl, rfl, rfl, rfl⟩)⟩, rfl, rfl, rfl, rfl⟩))⟩, rfl, (show RG w9 p _ _ from Sw6.out.rg.mod m8 (by omega)), ((Mw6.out.mono (by simp)).trans m8 (fun k hk e => by omega))⟩
            · by_cases hx10 : gi L q = 10
              · have hx8 := hx10
                clear hx10
                have hg0 : gi (L.drop q) 0 = 10 := by rw [hgR.out]; exact hx8
                rw [hx8] at hx
                clear x0 x1
                replace hg0 := hide hg0; replace hx8 := hide hx8
                have hall1 : gi (ctlL ⟨true, true, true⟩) 1 = 10 := by decide
                have hcan : ∀ i, i < 12 → 2 ≤ i → gi (ctlL ⟨true, true, true⟩) i = canB 10 i := ones10
                replace hall1 := hide hall1; replace hcan := hide hcan
                by_cases hend : q + 1 = len
                · have b1 : ((q : Int) + 1 == (len : Int)) = true := by simp; omega
                  go_wp2_with (go_at_call 23; (with_reducible refine (rpage10x ⟨true, true, true⟩ 7 rfl _).mono ?_); rintro e w4 ⟨g, rfl, r4, m4, -⟩
                               have S4 := SR.out.q m4
                               have M4 := MR.out.trans m4 (by simp)
                               have H4 := hmr.out.trans m4 (by simp)
                               have z4 : w.heap.size + 1 + 1 < w4.heap.size := S4.size
                               have z4b : w.heap.size + 1 < w4.heap.size := by omega
                               replace S4 := hide S4; replace M4 := hide M4; replace m4 := hide m4; replace H4 := hide H4; replace r4 := hide r4)
                  obtain ⟨t40, t41, t42, t43, t44, t45, t46, t47⟩ := eights S4.out.z
                  have h40 := S4.out.fz 0; have h41 := S4.out.fz 1; have h42 := S4.out.fz 2; have h43 := S4.out.fz 3; have h44 := S4.out.fz 4; have h45 := S4.out.fz 5; have h46 := S4.out.fz 6; have h47 := S4.out.fz 7
                  obtain ⟨y40, y41, y42, y43, y44, y45, y46, y47⟩ := eights S4.out.sh
                  replace hend := hide hend
                  go_region
                  all_goals
                    go_wp2_with fail
                    obtain ⟨g8, m8⟩ := set8 S4.out.z (.int .u8 5) (.int .u16 6656) (.int .u64 0) (.bool false) (.int .i64 0) (.int .i64 0) (.bool false) (.bool false)
                    generalize ((((((((w4.setCell ⟨w.heap.size + 1, 0, none⟩ (.int .u8 5)).setCell ⟨w.heap.size + 1, 1, none⟩ (.int .u16 6656)).setCell ⟨w.heap.size + 1, 2, none⟩ (.int .u64 0)).setCell ⟨w.heap.size + 1, 3, none⟩ (.bool false)).setCell ⟨w.heap.size + 1, 4, none⟩ (.int .i64 0)).setCell ⟨w.heap.size + 1, 5, none⟩ (.int .i64 0)).setCell ⟨w.heap.size + 1, 6, none⟩ (.bool false)).setCell ⟨w.heap.size + 1, 7, none⟩ (.bool false)) = w9 at *
                    obtain ⟨c0, c1, c2, c3, c4, c5, c6, c7⟩ := eights g8
                    exact bodyPost_ret (v := .tuple #[.bool false, .agg #[.int .u8 5, .int .u16 6656, .int .u64 0, .bool false, .int .i64 0, .int .i64 0, .bool false, .bool false], .bool false]) (by simp [results, Try.results16, go_sem, c0, c1, c2, c3, c4, c5, c6, c7]) rfl
                      ⟨false, shortS, false, n, s, .inr ⟨by rw [hLl.out]; exact h0, .inr (.inr (.inl ⟨by rw [hLl.out]; show 8 ≤ len; omega, hhead.out, q, v1, v1, 0, hst.out, by rw [hLl.out]; exact hqn, .inr ⟨(.inr hg0.out), .inl ⟨.inl (by rw [hRl.out]; have := hend.out; omega), rfl, rfl, rfl, rfl⟩⟩, rfl, rfl, rfl, rfl⟩))⟩, rfl, (show RG w9 p _ _ from S4.out.rg.mod m8 (by omega)), Mod.drew (F := fun k => k = p) ((M4.out.mono (by simp)).trans m8 (fun k hk e => by omega))⟩
                · have b1 : ((q : Int) + 1 == (len : Int)) = false := by simp; omega
                  have hq1n : q + 1 < len := by omega
                  clear hend
                  go_wp2_with (go_at_call 23; (with_reducible refine (rpage10x ⟨true, true, true⟩ 7 rfl _).mono ?_); rintro e w4 ⟨g, rfl, r4, m4, -⟩
                               have S4 := SR.out.q m4
                               have M4 := MR.out.trans m4 (by simp)
                               have H4 := hmr.out.trans m4 (by simp)
                               have z4 : w.heap.size + 1 + 1 < w4.heap.size := S4.size
                               have z4b : w.heap.size + 1 < w4.heap.size := by omega
                               replace S4 := hide S4; replace M4 := hide M4; replace m4 := hide m4; replace H4 := hide H4; replace r4 := hide r4)
                  have d1 := M4.out.cell (hcs.out (q + 1) hq1n) (by simp)
                  have d1f : w4.cell? ⟨A.block, A.off + (q + 1), none⟩ = some (.int .u8 (gi L (q + 1))) := by have h := d1; simp only [Addr.add, if_neg (Nat.succ_ne_zero q)] at h; exact h
                  obtain ⟨c1, -⟩ := r4.out.num 1 (by decide)
                  rw [hall1.out] at c1
                  have e1 : IntKind.i64.wrap ((q : Int) + 1) = (q : Int) + 1 := IntWalk.i64_in _ (by omega)
                  have e1a : (0 : Int) ≤ (q : Int) + 1 := by omega
                  have e1b : (q : Int) + 1 < (len : Int) := by omega
                  have e1c : ((q : Int) + 1).toNat = q + 1 := by omega
                  obtain ⟨x1, hx1⟩ : ∃ x1, x1 = gi L (q + 1) := ⟨_, rfl⟩
                  rw [← hx1] at d1 d1f
                  have hgx1 : gi (L.drop q) 1 = x1 := by rw [hgR.out, hx1]
                  replace hx1 := hide hx1; replace hgx1 := hide hgx1
                  by_cases hlen : x1 = 10
                  · subst hlen
                    go_quiet (fail)
                    obtain ⟨w5, hw5⟩ : ∃ w5, w5 = w4.drewN nq := ⟨_, rfl⟩
                    have H5 : Mod (fun _ => False) w4 w5 := by rw [hw5]; exact (Mod.refl _ w4).drewN nq
                    refine q_at hw5 ?_
                    clear hw5
                    have S5 := S4.out.q H5
                    have M5 := M4.out.trans H5 (by simp)
                    have r5 := r4.out.mod H5 (by simp)
                    replace H5 := hide (H4.out.trans H5 (by simp))
                    have z5 : w.heap.size + 1 + 1 < w5.heap.size := S5.size
                    have z5b : w.heap.size + 1 < w5.heap.size := by omega
                    clear c1 d1 d1f e1 e1a e1b e1c hx hx0
                    by_cases hwn : len - q < 12
                    · have b2 : decide ((len : Int) - (q : Int) < 12) = true := by simp; omega
                      obtain ⟨t50, t51, t52, t53, t54, t55, t56, t57⟩ := eights S5.z
                      have h50 := S5.fz 0; have h51 := S5.fz 1; have h52 := S5.fz 2; have h53 := S5.fz 3; have h54 := S5.fz 4; have h55 := S5.fz 5; have h56 := S5.fz 6; have h57 := S5.fz 7
                      obtain ⟨y50, y51, y52, y53, y54, y55, y56, y57⟩ := eights S5.sh
                      replace S5 := hide S5; replace M5 := hide M5; replace r5 := hide r5; replace hwn := hide hwn
                      go_wp2_with fail
                      go_region
                      all_goals
                        go_wp2_with fail
                        obtain ⟨g8, m8⟩ := set8 S5.out.z (.int .u8 5) (.int .u16 6656) (.int .u64 0) (.bool false) (.int .i64 0) (.int .i64 0) (.bool false) (.bool false)
                        generalize ((((((((w5.setCell ⟨w.heap.size + 1, 0, none⟩ (.int .u8 5)).setCell ⟨w.heap.size + 1, 1, none⟩ (.int .u16 6656)).setCell ⟨w.heap.size + 1, 2, none⟩ (.int .u64 0)).setCell ⟨w.heap.size + 1, 3, none⟩ (.bool false)).setCell ⟨w.heap.size + 1, 4, none⟩ (.int .i64 0)).setCell ⟨w.heap.size + 1, 5, none⟩ (.int .i64 0)).setCell ⟨w.heap.size + 1, 6, none⟩ (.bool false)).setCell ⟨w.heap.size + 1, 7, none⟩ (.bool false)) = w9 at *
                        obtain ⟨c0, c1, c2, c3, c4, c5, c6, c7⟩ := eights g8
                        exact bodyPost_ret (v := .tuple #[.bool false, .agg #[.int .u8 5, .int .u16 6656, .int .u64 0, .bool false, .int .i64 0, .int .i64 0, .bool false, .bool false], .bool false]) (by simp [results, Try.results16, go_sem, c0, c1, c2, c3, c4, c5, c6, c7]) rfl
                          ⟨false, shortS, false, n, s, .inr ⟨by rw [hLl.out]; exact h0, .inr (.inr (.inl ⟨by rw [hLl.out]; show 8 ≤ len; omega, hhead.out, q, v1, v1, 0, hst.out, by rw [hLl.out]; exact hqn, .inr ⟨(.inr hg0.out), .inl ⟨.inr ⟨by rw [hRl.out, hg0.out]; exact hwn.out, by rw [hg0.out, hgx1.out]; rfl⟩, rfl, rfl, rfl, rfl⟩⟩, rfl, rfl, rfl, rfl⟩))⟩, rfl, (show RG w9 p _ _ from S5.out.rg.mod m8 (by omega)), Mod.drew (F := fun k => k = p) ((M5.out.mono (by simp)).trans m8 (fun k hk e => by omega))⟩
                    · have b2 : decide ((len : Int) - (q : Int) < 12) = false := by simp; omega
                      have hwn2 : 12 ≤ len - q := by omega
                      clear hwn
                      replace S5 := hide S5; replace M5 := hide M5; replace r5 := hide r5
                      go_wp2_with fail
                      go_loop [6, 8, 16, 17] (fun _ _ u _ => ∃ i : Nat, 2 ≤ i ∧ i ≤ 12 ∧ u = .int .i64 i ∧ Hid (Clean (L.drop q) 10 i)) (fun _ _ u _ => 12 - (intOf u).toNat)
                      case atStart => exact ⟨2, by omega, by omega, rfl, hide (fun j h1 h2 => by omega)⟩
                      case round =>
                        obtain ⟨i, hi2, hi, rfl, hR⟩ := hrel
                        by_cases hlt : i < 12
                        · have hx := M5.out.cell (hcs.out (q + i) (by omega)) (by simp)
                          obtain ⟨hx0, hx1'⟩ := hbs.out (q + i) (by omega)
                          obtain ⟨ca, -⟩ := r5.out.num i (by show i < 12; exact hlt)
                          have hal3 := can_of 10 i
                          rw [hcan.out i hlt hi2] at ca
                          have hcanx : ∀ b', bitT (gi (L.drop q) i) (canB 10 i) b' = bitT (gi L (q + i)) (canB 10 i) b' := fun b' => by rw [hgR.out]
                          generalize gi L (q + i) = x at *
                          obtain ⟨al, hal⟩ : ∃ al, al = canB 10 i := ⟨_, rfl⟩
                          rw [← hal] at ca hal3 hcanx
                          replace hal := hide hal
                          have e5 : IntKind.i64.wrap ((q : Int) + i) = (q : Int) + i := IntWalk.i64_in _ (by omega)
                          have hal0 : 0 ≤ al := by omega
                          have hal1 : al ≤ 255 := by omega
                          have him : q + i < len := by omega
                          have him2 : (q : Int) + i < (len : Int) := by omega
                          replace hcanx := hide hcanx; replace hal3 := hide hal3
                          go_wp2_with fail
                          go_loop [6, 8, 17] (fun _ _ u => ∃ k : Nat, k ≤ 8 ∧ u = .int .i64 ((k : Int) - 1) ∧ Hid (∀ b', k ≤ b' → b' ≤ 7 → bitT x al b' = false)) (fun _ _ u => ((intOf u) + 1).toNat)
                          case atStart => exact ⟨8, by omega, rfl, hide (fun b' h1 h2 => by omega)⟩
                          case round =>
                            obtain ⟨k, hk, rfl, hK⟩ := hrel
                            by_cases hk0 : 0 < k
                            · have hbr := bit_ref x al ⟨hx0, hx1'⟩ hal3.out (k - 1) (by omega)
                              have hK2 : bitT x al (k - 1) = false → ∀ b', k - 1 ≤ b' → b' ≤ 7 → bitT x al b' = false := fun hbit b' h1 h2 => by
                                by_cases e : b' = k - 1
                                · rw [e]; exact hbit
                                · exact hK.out b' (by omega) h2
                              cases hT1 : (bits BinOp.and IntKind.u8 (x / 2 ^ (k - 1)) 1 == 1)
                              · rw [hT1] at hbr
                                have hK3 := hide (hK2 (by rw [← hbr]; rfl))
                                clear hK2 hbr
                                go_wp2_with fail
                                go_round
                                case rel => exact ⟨k - 1, by omega, int_eq (by omega), hK3⟩
                                case measure => simp [intOf]; omega
                              · cases hT2 : (bits BinOp.and IntKind.u8 (al / 2 ^ (k - 1)) 1 == 0)
                                · rw [hT1, hT2] at hbr
                                  have hK3 := hide (hK2 (by rw [← hbr]; rfl))
                                  clear hK2 hbr
                                  go_wp2_with fail
                                  go_round
                                  case rel => exact ⟨k - 1, by omega, int_eq (by omega), hK3⟩
                                  case measure => simp [intOf]; omega
                                · rw [hT1, hT2] at hbr
                                  have hbit : bitT x al (k - 1) = true := by rw [← hbr]; rfl
                                  have hfirst : ∀ al', al' = al → canB 10 i = al' → First (L.drop q) (gi (L.drop q) 0) i (k - 1) := fun al' ha hc => by
                                    subst ha
                                    rw [hg0.out]
                                    refine ⟨hi2, hlt, by omega, hR.out, ?_, fun b' h1 h2 => ?_⟩
                                    · rw [hc, hcanx.out]; exact hbit
                                    · rw [hc, hcanx.out]; exact hK.out b' (by omega) h2
                                  have hkk : ((k : Int) - 1) = ((k - 1 : Nat) : Int) := by omega
                                  replace hbit := hide hbit; replace hfirst := hide hfirst; replace hkk := hide hkk
                                  clear hK2 hbr
                                  go_wp2_with (go_at_call 22; (with_reducible refine (fault_any _ _ _ _ _).mono ?_); rintro e w6 ⟨rfl, mw6⟩
                                               have Sw6 := S5.out.q mw6
                                               have Mw6 := M5.out.trans mw6 (by simp)
                                               obtain ⟨tf0, tf1, tf2, tf3, tf4, tf5, tf6, tf7⟩ := eights Sw6.z
                                               have hf0 := Sw6.fz 0; have hf1 := Sw6.fz 1; have hf2 := Sw6.fz 2; have hf3 := Sw6.fz 3; have hf4 := Sw6.fz 4; have hf5 := Sw6.fz 5; have hf6 := Sw6.fz 6; have hf7 := Sw6.fz 7
                                               have zz1 : w.heap.size + 1 + 1 < w6.heap.size := Sw6.size
                                               have zz2 : w.heap.size + 1 < w6.heap.size := by omega
                                               replace Sw6 := hide Sw6; replace Mw6 := hide Mw6; replace mw6 := hide mw6)
                                  obtain ⟨g8, m8⟩ := set8 Sw6.out.z (.int .u8 5) (.int .u16 9728) (.int .u64 0) (.bool false) (.int .i64 (↑q + ↑i)) (.int .i64 (↑k - 1)) (.bool true) (.bool false)
                                  generalize ((((((((w6.setCell ⟨w.heap.size + 1, 0, none⟩ (.int .u8 5)).setCell ⟨w.heap.size + 1, 1, none⟩ (.int .u16 9728)).setCell ⟨w.heap.size + 1, 2, none⟩ (.int .u64 0)).setCell ⟨w.heap.size + 1, 3, none⟩ (.bool false)).setCell ⟨w.heap.size + 1, 4, none⟩ (.int .i64 (↑q + ↑i))).setCell ⟨w.heap.size + 1, 5, none⟩ (.int .i64 (↑k - 1))).setCell ⟨w.heap.size + 1, 6, none⟩ (.bool true)).setCell ⟨w.heap.size + 1, 7, none⟩ (.bool false)) = w9 at *
                                  obtain ⟨c0, c1, c2, c3, c4, c5, c6, c7⟩ := eights g8
                                  exact bodyPost_ret (v := .tuple #[.bool false, .agg #[.int .u8 5, .int .u16 9728, .int .u64 0, .bool false, .int .i64 (↑q + ↑i), .int .i64 (↑k - 1), .bool true, .bool false], .bool false]) (by simp [results, Try.results16, go_sem, c0, c1, c2, c3, c4, c5, c6, c7]) rfl
                                    ⟨false, badS ((q : Int) + (i : Nat)) ((k - 1 : Nat) : Int) false, false, n, s, .inr ⟨by rw [hLl.out]; exact h0, .inr (.inr (.inl ⟨by rw [hLl.out]; show 8 ≤ len; omega, hhead.out, q, v1, v1, 0, hst.out, by rw [hLl.out]; exact hqn, .inr ⟨(.inr hg0.out), .inr (.inr (.inl ⟨by rw [hRl.out, hg0.out]; exact hwn2, by rw [hg0.out, hgx1.out]; rfl, i, k - 1, hfirst.out _ rfl hal.out.symm, rfl, rfl, rfl, rfl⟩))⟩, rfl, rfl, rfl, rfl⟩))⟩, by rw [← hkk.out]; rfl, (show RG w9 p _ _ from Sw6.out.rg.mod m8 (by omega)), ((Mw6.out.mono (by simp)).trans m8 (fun k hk e => by omega))⟩
                            · obtain rfl : k = 0 := by omega
                              have hcl : ∀ al', al' = al → canB 10 i = al' → Clean (L.drop q) 10 (i + 1) := fun al' ha hc j h1 h2 b' h3 => by
                                subst ha
                                by_cases e : j = i
                                · rw [e, hc, hcanx.out]; exact hK.out b' (by omega) h3
                                · exact hR.out j h1 (by omega) b' h3
                              have hcl2 := hide (hcl _ rfl hal.out.symm)
                              clear hcl
                              go_wp2_with fail
                              go_round
                              case rel => exact ⟨i + 1, by omega, by omega, by go_num, hcl2⟩
                              case measure => simp [intOf]; omega
                        · obtain rfl : i = 12 := by omega
                          have hcl := hR.out
                          have hx := M5.out.cell (hcs.out q hqn) (by simp)
                          rw [hx8.out] at hx
                          have hx2 := M5.out.cell (hcs.out (q + 2) (by omega)) (by simp)
                          have hx2f : w5.cell? ⟨A.block, A.off + (q + 2), none⟩ = some (.int .u8 (gi L (q + 2))) := by have h := hx2; simp only [Addr.add, if_neg (show ¬ q + 2 = 0 by omega)] at h; exact h
                          obtain ⟨y0, y1⟩ := hbs.out (q + 2) (by omega)
                          obtain ⟨hv0, hv7⟩ := bitsV_bound v1
                          have h2n : q + 2 < len := by omega
                          have hx4 := M5.out.cell (hcs.out (q + 4) (by omega)) (by simp)
                          have hx4f : w5.cell? ⟨A.block, A.off + (q + 4), none⟩ = some (.int .u8 (gi L (q + 4))) := by have h := hx4; simp only [Addr.add, if_neg (show ¬ q + 4 = 0 by omega)] at h; exact h
                          obtain ⟨u0, u1⟩ := hbs.out (q + 4) (by omega)
                          have h4n : q + 4 < len := by omega
                          have hup := updV10 (L.drop q) v1 hg0.out (by rw [hgR.out]; exact ⟨y0, y1⟩) (by rw [hgR.out]; exact ⟨u0, u1⟩) hcl
                          have k2 : gi L (q + 2) = 0 ∨ gi L (q + 2) = 4 := clean4 _ ⟨y0, y1⟩ fun b h => by have := hcl 2 (by decide) (by decide) b h; rwa [hgR.out] at this
                          have k4 : gi L (q + 4) = 0 ∨ gi L (q + 4) = 8 := clean8 _ ⟨u0, u1⟩ fun b h => by have := hcl 4 (by decide) (by decide) b h; rwa [hgR.out] at this
                          rw [hgR.out, hgR.out] at hup
                          have hpr : PageR (L.drop q) q v1 (updV (L.drop q) v1) 12 noSense true := .inr ⟨(.inr hg0.out), .inr (.inr (.inr ⟨by rw [hRl.out, hg0.out]; exact hwn2, by rw [hg0.out, hgx1.out]; rfl, by rw [hg0.out]; exact hcl, rfl, by rw [hg0.out]; rfl, rfl, rfl⟩))⟩
                          have hst2 : Steps L 8 n (q + 12) (updV (L.drop q) v1) := .step hst.out (by rw [hLl.out]; exact hqn) hpr
                          generalize updV (L.drop q) v1 = v2 at *
                          generalize gi L (q + 2) = x2 at *
                          generalize gi L (q + 4) = x4 at *
                          have ev : (bitsV v1).tmod 2 = bitsV v1 % 2 := Int.tmod_eq_emod_of_nonneg hv0
                          rw [ev] at hup
                          replace hup := hide hup; replace hst2 := hide hst2
                          clear hcl hpr hR
                          obtain ⟨m2, hm2⟩ : ∃ m2, m2 = bitsV v1 % 2 := ⟨_, rfl⟩
                          have hm2a : 0 ≤ m2 := by omega
                          have hm2b : m2 ≤ 1 := by omega
                          have ev2 : (bitsV v1).tmod 2 = m2 := by rw [ev, hm2]
                          have eq2 : IntKind.i64.wrap ((q : Int) + 2) = (q : Int) + 2 := IntWalk.i64_in _ (by omega)
                          have eq4 : IntKind.i64.wrap ((q : Int) + 4) = (q : Int) + 4 := IntWalk.i64_in _ (by omega)
                          have eq2a : (0 : Int) ≤ (q : Int) + 2 := by omega
                          have eq2b : (q : Int) + 2 < (len : Int) := by omega
                          have eq2c : ((q : Int) + 2).toNat = q + 2 := by omega
                          have eq4a : (0 : Int) ≤ (q : Int) + 4 := by omega
                          have eq4b : (q : Int) + 4 < (len : Int) := by omega
                          have eq4c : ((q : Int) + 4).toNat = q + 4 := by omega
                          have w0 : IntKind.i64.wrap m2 = m2 := IntWalk.i64_in _ (by omega)
                          have w2 : IntKind.i64.wrap (m2 + 2) = m2 + 2 := IntWalk.i64_in _ (by omega)
                          have w4' : IntKind.i64.wrap (m2 + 4) = m2 + 4 := IntWalk.i64_in _ (by omega)
                          have w6 : IntKind.i64.wrap (m2 + 2 + 4) = m2 + 2 + 4 := IntWalk.i64_in _ (by omega)
                          replace hm2 := hide hm2
                          clear ev hv0 hv7
                          rcases k2 with rfl | rfl <;> rcases k4 with rfl | rfl
                          all_goals
                            go_wp2_with fail
                            go_quiet (fail)
                            go_wp2_with fail
                            go_roundw
                            case rel => exact ⟨q + 12, v2, by omega, by omega, by go_num, int_eq (by have := hup.out; rw [hm2.out]; simpa using this), hide ⟨hst2.out, H5.out.drewN _⟩⟩
                            case measure => simp [intOf]; omega
                  · have hq2 : 2 ≤ len - q := by omega
                    have b3 : (x1 == 10) = false := by simpa using hlen
                    have b4 : (x1 != 10) = true := by simpa using hlen
                    replace hlen := hide hlen
                    go_quiet (fail)
                    obtain ⟨w5, hw5⟩ : ∃ w5, w5 = w4.drewN nq := ⟨_, rfl⟩
                    have H5 : Mod (fun _ => False) w4 w5 := by rw [hw5]; exact (Mod.refl _ w4).drewN nq
                    refine q_at hw5 ?_
                    clear hw5 c1 d1 d1f e1a e1b e1c hx hx0
                    have S5 := S4.out.q H5
                    have M5 := M4.out.trans H5 (by simp)
                    replace S5 := hide S5; replace M5 := hide M5; replace H5 := hide H5
                    go_wp2_with (go_at_call 22; (with_reducible refine (fault_any _ _ _ _ _).mono ?_); rintro e w6 ⟨rfl, mw6⟩
                                 have Sw6 := S5.out.q mw6
                                 have Mw6 := M5.out.trans mw6 (by simp)
                                 obtain ⟨tf0, tf1, tf2, tf3, tf4, tf5, tf6, tf7⟩ := eights Sw6.z
                                 have hf0 := Sw6.fz 0; have hf1 := Sw6.fz 1; have hf2 := Sw6.fz 2; have hf3 := Sw6.fz 3; have hf4 := Sw6.fz 4; have hf5 := Sw6.fz 5; have hf6 := Sw6.fz 6; have hf7 := Sw6.fz 7
                                 have zz1 : w.heap.size + 1 + 1 < w6.heap.size := Sw6.size
                                 have zz2 : w.heap.size + 1 < w6.heap.size := by omega
                                 replace Sw6 := hide Sw6; replace Mw6 := hide Mw6; replace mw6 := hide mw6)
                    obtain ⟨g8, m8⟩ := set8 Sw6.out.z (.int .u8 5) (.int .u16 9728) (.int .u64 0) (.bool false) (.int .i64 (↑q + 1)) (.int .i64 (-1)) (.bool true) (.bool false)
                    generalize ((((((((w6.setCell ⟨w.heap.size + 1, 0, none⟩ (.int .u8 5)).setCell ⟨w.heap.size + 1, 1, none⟩ (.int .u16 9728)).setCell ⟨w.heap.size + 1, 2, none⟩ (.int .u64 0)).setCell ⟨w.heap.size + 1, 3, none⟩ (.bool false)).setCell ⟨w.heap.size + 1, 4, none⟩ (.int .i64 (↑q + 1))).setCell ⟨w.heap.size + 1, 5, none⟩ (.int .i64 (-1))).setCell ⟨w.heap.size + 1, 6, none⟩ (.bool true)).setCell ⟨w.heap.size + 1, 7, none⟩ (.bool false)) = w9 at *
                    obtain ⟨c0, c1, c2, c3, c4, c5, c6, c7⟩ := eights g8
                    exact bodyPost_ret (v := .tuple #[.bool false, .agg #[.int .u8 5, .int .u16 9728, .int .u64 0, .bool false, .int .i64 (↑q + 1), .int .i64 (-1), .bool true, .bool false], .bool false]) (by simp [results, Try.results16, go_sem, c0, c1, c2, c3, c4, c5, c6, c7]) rfl
                      ⟨false, badS ((q : Int) + 1) (-1) false, false, n, s, .inr ⟨by rw [hLl.out]; exact h0, .inr (.inr (.inl ⟨by rw [hLl.out]; show 8 ≤ len; omega, hhead.out, q, v1, v1, 0, hst.out, by rw [hLl.out]; exact hqn, .inr ⟨(.inr hg0.out), .inr (.inl ⟨by rw [hRl.out]; exact hq2, by rw [hg0.out, hgx1.out]; exact hlen.out, rfl, rfl, rfl, rfl⟩)⟩, rfl, rfl, rfl, rfl⟩))⟩, rfl, (show RG w9 p _ _ from Sw6.out.rg.mod m8 (by omega)), ((Mw6.out.mono (by simp)).trans m8 (fun k hk e => by omega))⟩
              · have b1 : (gi L q != 8) = true := by simpa using hx8
                have b2 : (gi L q != 10) = true := by simpa using hx10
                replace hx8 := hide hx8; replace hx10 := hide hx10
                go_wp2_with (go_at_call 22; (with_reducible refine (fault_any _ _ _ _ _).mono ?_); rintro e w5 ⟨rfl, mw5⟩
                             have Sw5 := SR.out.q mw5
                             have Mw5 := MR.out.trans mw5 (by simp)
                             obtain ⟨tf0, tf1, tf2, tf3, tf4, tf5, tf6, tf7⟩ := eights Sw5.z
                             have hf0 := Sw5.fz 0; have hf1 := Sw5.fz 1; have hf2 := Sw5.fz 2; have hf3 := Sw5.fz 3; have hf4 := Sw5.fz 4; have hf5 := Sw5.fz 5; have hf6 := Sw5.fz 6; have hf7 := Sw5.fz 7
                             have zz1 : w.heap.size + 1 + 1 < w5.heap.size := Sw5.size
                             have zz2 : w.heap.size + 1 < w5.heap.size := by omega
                             replace Sw5 := hide Sw5; replace Mw5 := hide Mw5; replace mw5 := hide mw5)
                obtain ⟨g8, m8⟩ := set8 Sw5.out.z (.int .u8 5) (.int .u16 9728) (.int .u64 0) (.bool false) (.int .i64 ↑q) (.int .i64 (-1)) (.bool true) (.bool false)
                generalize ((((((((w5.setCell ⟨w.heap.size + 1, 0, none⟩ (.int .u8 5)).setCell ⟨w.heap.size + 1, 1, none⟩ (.int .u16 9728)).setCell ⟨w.heap.size + 1, 2, none⟩ (.int .u64 0)).setCell ⟨w.heap.size + 1, 3, none⟩ (.bool false)).setCell ⟨w.heap.size + 1, 4, none⟩ (.int .i64 ↑q)).setCell ⟨w.heap.size + 1, 5, none⟩ (.int .i64 (-1))).setCell ⟨w.heap.size + 1, 6, none⟩ (.bool true)).setCell ⟨w.heap.size + 1, 7, none⟩ (.bool false)) = w9 at *
                obtain ⟨c0, c1, c2, c3, c4, c5, c6, c7⟩ := eights g8
                exact bodyPost_ret (v := .tuple #[.bool false, .agg #[.int .u8 5, .int .u16 9728, .int .u64 0, .bool false, .int .i64 ↑q, .int .i64 (-1), .bool true, .bool false], .bool false]) (by simp [results, Try.results16, go_sem, c0, c1, c2, c3, c4, c5, c6, c7]) rfl
                  ⟨false, badS q (-1) false, false, n, s, .inr ⟨by rw [hLl.out]; exact h0, .inr (.inr (.inl ⟨by rw [hLl.out]; show 8 ≤ len; omega, hhead.out, q, v1, v1, 0, hst.out, by rw [hLl.out]; exact hqn, .inl ⟨by rw [hgR.out]; exact hx8.out, by rw [hgR.out]; exact hx10.out, rfl, rfl, rfl, rfl⟩, rfl, rfl, rfl, rfl⟩))⟩, rfl, (show RG w9 p _ _ from Sw5.out.rg.mod m8 (by omega)), ((Mw5.out.mono (by simp)).trans m8 (fun k hk e => by omega))⟩
          · obtain rfl : q = len := by omega
            obtain ⟨f0, f1⟩ := SR.out.rg.cells
            have r0 := SR.out.fp 0; have r1 := SR.out.fp 1
            have s11 := SR.out.save
            obtain ⟨t40, t41, t42, t43, t44, t45, t46, t47⟩ := eights SR.out.z
            have h40 := SR.out.fz 0; have h41 := SR.out.fz 1; have h42 := SR.out.fz 2; have h43 := SR.out.fz 3; have h44 := SR.out.fz 4; have h45 := SR.out.fz 5; have h46 := SR.out.fz 6; have h47 := SR.out.fz 7
            have hp3 : p < wr.heap.size := SR.out.rg.lt
            have w1n : ¬ p = w.heap.size := by omega
            have w2n : ¬ w.heap.size = p := by omega
            have w5n : ¬ p = w.heap.size + 1 := by omega
            have w6n : ¬ w.heap.size + 1 = p := by omega
            have hbn := hide (bits_ne v1 n)
            cases save
            all_goals
              go_wp2_with fail
            · obtain ⟨p3, q3⟩ := rset1 SR.out.rg (bitsV v1)
              obtain ⟨g8, m8⟩ := set8 (q3.heap SR.out.z (by omega)) (.int .u8 0) (.int .u16 0) (.int .u64 0) (.bool false) (.int .i64 0) (.int .i64 0) (.bool false) (.bool false)
              have p8 := p3.mod m8 (by omega)
              have M8 := ((MR.out.mono (G := fun k => k = p) (by simp)).trans q3 (fun _ _ h => h)).trans m8 (fun i hi e => by omega)
              generalize (((((((((wr.setCell ⟨p, 0, none⟩ (.int .i64 (bitsV v1))).setCell ⟨w.heap.size + 1, 0, none⟩ (.int .u8 0)).setCell ⟨w.heap.size + 1, 1, none⟩ (.int .u16 0)).setCell ⟨w.heap.size + 1, 2, none⟩ (.int .u64 0)).setCell ⟨w.heap.size + 1, 3, none⟩ (.bool false)).setCell ⟨w.heap.size + 1, 4, none⟩ (.int .i64 0)).setCell ⟨w.heap.size + 1, 5, none⟩ (.int .i64 0)).setCell ⟨w.heap.size + 1, 6, none⟩ (.bool false)).setCell ⟨w.heap.size + 1, 7, none⟩ (.bool false)) = w9 at *
              obtain ⟨c0, c1, c2, c3, c4, c5, c6, c7⟩ := eights g8
              exact bodyPost_ret (v := .tuple #[.bool (bitsV v1 != bitsV n), .agg #[.int .u8 0, .int .u16 0, .int .u64 0, .bool false, .int .i64 0, .int .i64 0, .bool false, .bool false], .bool true]) (by simp [results, Try.results16, go_sem, c0, c1, c2, c3, c4, c5, c6, c7]) rfl
                ⟨v1 != n, noSense, true, v1, s, .inr ⟨by rw [hLl.out]; exact h0, .inr (.inr (.inr ⟨by rw [hLl.out]; show 8 ≤ q; omega, hhead.out, v1, by rw [hLl.out]; exact hst.out, rfl, rfl, rfl, rfl, rfl⟩))⟩, by rw [hbn.out]; rfl, p8, M8⟩
            · obtain ⟨p3, q3⟩ := rset1 SR.out.rg (bitsV v1)
              obtain ⟨p6, q6⟩ := rset2 p3 (bitsV v1)
              obtain ⟨g8, m8⟩ := set8 (q6.heap (q3.heap SR.out.z (by omega)) (by omega)) (.int .u8 0) (.int .u16 0) (.int .u64 0) (.bool false) (.int .i64 0) (.int .i64 0) (.bool false) (.bool false)
              have p8 := p6.mod m8 (by omega)
              have M8 := (((MR.out.mono (G := fun k => k = p) (by simp)).trans q3 (fun _ _ h => h)).trans q6 (fun _ _ h => h)).trans m8 (fun i hi e => by omega)
              generalize ((((((((((wr.setCell ⟨p, 0, none⟩ (.int .i64 (bitsV v1))).setCell ⟨p, 1, none⟩ (.int .i64 (bitsV v1))).setCell ⟨w.heap.size + 1, 0, none⟩ (.int .u8 0)).setCell ⟨w.heap.size + 1, 1, none⟩ (.int .u16 0)).setCell ⟨w.heap.size + 1, 2, none⟩ (.int .u64 0)).setCell ⟨w.heap.size + 1, 3, none⟩ (.bool false)).setCell ⟨w.heap.size + 1, 4, none⟩ (.int .i64 0)).setCell ⟨w.heap.size + 1, 5, none⟩ (.int .i64 0)).setCell ⟨w.heap.size + 1, 6, none⟩ (.bool false)).setCell ⟨w.heap.size + 1, 7, none⟩ (.bool false)) = w9 at *
              obtain ⟨c0, c1, c2, c3, c4, c5, c6, c7⟩ := eights g8
              exact bodyPost_ret (v := .tuple #[.bool (bitsV v1 != bitsV n), .agg #[.int .u8 0, .int .u16 0, .int .u64 0, .bool false, .int .i64 0, .int .i64 0, .bool false, .bool false], .bool true]) (by simp [results, Try.results16, go_sem, c0, c1, c2, c3, c4, c5, c6, c7]) rfl
                ⟨v1 != n, noSense, true, v1, v1, .inr ⟨by rw [hLl.out]; exact h0, .inr (.inr (.inr ⟨by rw [hLl.out]; show 8 ≤ q; omega, hhead.out, v1, by rw [hLl.out]; exact hst.out, rfl, rfl, rfl, rfl, rfl⟩))⟩, by rw [hbn.out]; rfl, p8, M8⟩
end Go.Proofs.Ytieieinaijopnaa
