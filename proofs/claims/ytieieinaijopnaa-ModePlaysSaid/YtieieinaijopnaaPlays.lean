/-
  For all values and every script of calls, ModePlays returns true: its walk. Condition: the script reads as a list of acts whose bytes read as bytes.
-/
import Derived.Test.YtieieinaijopnaaPlw
namespace Go.Proofs.Ytieieinaijopnaa.modePlays
open Go.RowKit
set_option linter.unusedVariables false
set_option maxRecDepth 100000 in
set_option maxHeartbeats 8000000 in
theorem walk0 (v : V) (A : Option Addr) (len cap : Nat) (s : List Ac) (w : World) (hrd : Rd w 17 encAc A len s) (hwf : ∀ a ∈ s, Rd w 1 (ic .u8) a.A a.n a.L ∧ a.n ≤ a.cap ∧ a.cap ≤ maxLen ∧ ∀ x ∈ a.L, 0 ≤ x ∧ x ≤ 255) :
    Calls Try.prog 5 #[vv v, .slice A len cap] w fun e w' => e = .returned (.bool true) ∧ Below w.heap.size w w' := by
  obtain ⟨va, vb, vc⟩ := v
  have hb0 : (w.alloc (.cells #[.bool va, .bool vb, .bool vc] 23)).heap[w.heap.size]? = some (.cells #[.bool va, .bool vb, .bool vc] 23 (0, 0)) := heap_alloc_new _ _
  have m0 : Mod (fun _ => False) w (w.alloc (.cells #[.bool va, .bool vb, .bool vc] 23)) := (Mod.refl _ w).alloc _
  have i1 : ∀ w, (binOp .neq 23 (.agg #[.bool true, .bool false, .bool false]) (.agg #[.bool true, .bool false, .bool false])).run Try.prog w = .ok (.bool false) w := fun w => by rw [neq23]; rfl
  have i2 := eqIn23 true false false
  have i3 := guard23
  replace hrd := hide hrd; replace hwf := hide hwf; replace hb0 := hide hb0; replace m0 := hide m0
  go_enter Try.func5, Try.ntmps5
  go_wp2_with (first
    | (go_at_call 8; (with_reducible refine (awake_any _).mono ?_); rintro e w1 ⟨rfl, m1⟩
       have b1 := m1.heap hb0.out (by simp)
       have M1 := m0.out.trans m1 (by simp)
       replace b1 := hide b1; replace M1 := hide M1; replace m1 := hide m1)
    | (go_at_call 14; (with_reducible refine (default_any _).mono ?_); rintro e w2 ⟨rfl, m2⟩
       have b2 := m2.heap b1.out (by simp)
       have M2 := M1.out.trans m2 (by simp)
       obtain ⟨x0, x1, x2⟩ := vals (v := ⟨va, vb, vc⟩) b2
       replace b2 := hide b2; replace M2 := hide M2; replace m2 := hide m2)
    | (go_at_call 9; (with_reducible refine (new_any ⟨va, vb, vc⟩ _).mono ?_); rintro e w3 ⟨p, rfl, hp3, m3, o3⟩
       have b3 := m3.heap b2.out (by simp)
       have M3 := M2.out.trans m3 (by simp)
       have o3' : w.heap.size ≤ p := Nat.le_trans M2.out.size o3
       replace b3 := hide b3; replace M3 := hide M3; replace m3 := hide m3; replace hp3 := hide hp3))
  clear i1 i2
  go_region_held3 (fun w' => w'.cell? ⟨w.heap.size, 0, none⟩ = some (.bool va) ∧ w'.cell? ⟨w.heap.size, 1, none⟩ = some (.bool vb) ∧ w'.cell? ⟨w.heap.size, 2, none⟩ = some (.bool vc))
    (first | exact vals (v := ⟨va, vb, vc⟩) b3.out | exact vals (W := w3.drew) (v := ⟨va, vb, vc⟩) b3.out | exact vals (v := ⟨va, vb, vc⟩) b4.out | exact vals (v := ⟨va, vb, vc⟩) b5.out | exact vals (v := ⟨va, vb, vc⟩) (((Mod.refl (fun _ => False) w5).alloc _).heap b5.out (fun h => h)))
    (first
    | (go_at_call 15; (with_reducible refine (bits_any ⟨va, vb, vc⟩ w3.drew).mono ?_); rintro e w4 ⟨rfl, m4⟩
       have b4 := Mod.heap (F := fun _ => False) m4 (show w3.drew.heap[w.heap.size]? = _ from b3.out) (fun h => h)
       have hp4 := PG.mod (F := fun _ => False) (show PG w3.drew p ⟨va, vb, vc⟩ ⟨va, vb, vc⟩ from hp3.out) m4 (fun h => h)
       have M4 := M3.out.drew.trans m4 (fun _ _ h => h)
       replace b4 := hide b4; replace M4 := hide M4; replace m4 := hide m4; replace hp4 := hide hp4)
    | (go_at_call 15; (with_reducible refine (bits_any ⟨va, vb, vc⟩ w4).mono ?_); rintro e w5 ⟨rfl, m5⟩
       have b5 := Mod.heap (F := fun _ => False) m5 b4.out (fun h => h)
       have hp5 := PG.mod (F := fun _ => False) hp4.out m5 (fun h => h)
       have M5 := M4.out.trans m5 (fun _ _ h => h)
       replace b5 := hide b5; replace M5 := hide M5; replace m5 := hide m5; replace hp5 := hide hp5))
  all_goals
    go_wp2_with fail
    have M6 := M5.out.alloc (.cells #[.int .i64 (bitsV ⟨va, vb, vc⟩), .int .i64 (bitsV ⟨va, vb, vc⟩)] 46)
    have hst : Hid (∃ n s, PG (w5.alloc (.cells #[.int .i64 (bitsV ⟨va, vb, vc⟩), .int .i64 (bitsV ⟨va, vb, vc⟩)] 46)) p n s ∧ RG (w5.alloc (.cells #[.int .i64 (bitsV ⟨va, vb, vc⟩), .int .i64 (bitsV ⟨va, vb, vc⟩)] 46)) w5.heap.size (bitsV n) (bitsV s) ∧ Below w.heap.size w (w5.alloc (.cells #[.int .i64 (bitsV ⟨va, vb, vc⟩), .int .i64 (bitsV ⟨va, vb, vc⟩)] 46))) :=
      hide ⟨⟨va, vb, vc⟩, ⟨va, vb, vc⟩, hp5.out.mod ((Mod.refl (fun _ => False) w5).alloc _) (by simp), heap_alloc_new _ _, M6.below (Nat.le_refl _) (by simp)⟩
    have hpq : p < w5.heap.size := hp5.out.lt
    clear M6
    generalize w5.alloc (.cells #[.int .i64 (bitsV ⟨va, vb, vc⟩), .int .i64 (bitsV ⟨va, vb, vc⟩)] 46) = W0 at *
    generalize w5.heap.size = q at *
    clear b3 M3 m3 hp3 b4 M4 m4 hp4 b5 M5 m5 hp5 b1 M1 m1 b2 M2 m2 x0 x1 x2 hb0 m0
    go_loopw [7] (fun i wr => ∃ k : Nat, k ≤ len ∧ k ≤ 100 ∧ i = .int .i64 k ∧ Hid (∃ n s, PG wr p n s ∧ RG wr q (bitsV n) (bitsV s) ∧ Below w.heap.size w wr)) (fun i _ => len - (intOf i).toNat)
    case atStart => exact ⟨0, by omega, by omega, rfl, hst⟩
    case round =>
      obtain ⟨k, hk, hk100, rfl, hpr⟩ := hrel
      clear hst
      by_cases hlt : k < len ∧ k < 100
      · obtain ⟨hlt, hlt100⟩ := hlt
        obtain ⟨ad, rfl, hcell⟩ := hrd.out.2 k hlt
        have hwk := hwf.out (gi s k) (by rw [gi_eq s k (by rw [hrd.out.1]; exact hlt)]; exact List.getElem_mem _)
        obtain ⟨n, sv0, hpg, hrg, hbel⟩ := hpr.out
        clear hpr
        obtain ⟨a, ha⟩ : ∃ a, a = gi s k := ⟨_, rfl⟩
        rw [← ha] at hwk hcell
        clear ha
        obtain ⟨sel, ⟨kind, long, lba, blocks, alloc, fua, prot, unmap, evpd, page, control, save, service, type, bytes⟩, A1, n1, cap1, L1⟩ := a
        obtain ⟨hra, hnc, hcm, hby⟩ := hwk
        replace hra := hra
        dsimp only at hra hnc hcm hby
        have hc : ∀ j u, ([.bool sel, .int .u8 kind, .bool long, .int .u64 lba, .int .u64 blocks, .int .i64 alloc, .bool fua, .int .u8 prot, .bool unmap, .bool evpd, .int .u8 page, .int .u8 control, .bool save, .int .u8 service, .int .u8 type, .bool bytes, .slice A1 n1 cap1] : List Value)[j]? = some u → wr.cell? ((ad.add (k * 17)).add j) = some u := fun j u hu => by
          rw [addr_add]
          exact (hbel.cell (World.block_lt_of_cell? w _ (hcell j u hu))).trans (hcell j u hu)
        clear hcell
        have mb := (Mod.refl (fun _ => False) wr).alloc (.cells #[.bool sel, .int .u8 kind, .bool long, .int .u64 lba, .int .u64 blocks, .int .i64 alloc, .bool fua, .int .u8 prot, .bool unmap, .bool evpd, .int .u8 page, .int .u8 control, .bool save, .int .u8 service, .int .u8 type, .bool bytes, .slice A1 n1 cap1] 48)
        have B1 : BA (wr.alloc (.cells #[.bool sel, .int .u8 kind, .bool long, .int .u64 lba, .int .u64 blocks, .int .i64 alloc, .bool fua, .int .u8 prot, .bool unmap, .bool evpd, .int .u8 page, .int .u8 control, .bool save, .int .u8 service, .int .u8 type, .bool bytes, .slice A1 n1 cap1] 48)) wr.heap.size
            ⟨sel, ⟨kind, long, lba, blocks, alloc, fua, prot, unmap, evpd, page, control, save, service, type, bytes⟩, A1, n1, cap1, L1⟩ := heap_alloc_new _ _
        have hp1 := hpg.mod mb (by simp)
        have hq1 := hrg.mod mb (by simp)
        have hr1 := (hra.below hbel).mod mb (by simp)
        have hpl : p < wr.heap.size := hpg.lt
        have hql : q < wr.heap.size := hrg.lt
        have hbl1 := hbel.trans (mb.below hbel.size (by simp))
        have hws : w.heap.size ≤ wr.heap.size := hbel.size
        clear hpg hrg hbel
        replace hra := hide hra
        obtain ⟨W1, hW1⟩ : ∃ W1, W1 = wr.alloc (.cells #[.bool sel, .int .u8 kind, .bool long, .int .u64 lba, .int .u64 blocks, .int .i64 alloc, .bool fua, .int .u8 prot, .bool unmap, .bool evpd, .int .u8 page, .int .u8 control, .bool save, .int .u8 service, .int .u8 type, .bool bytes, .slice A1 n1 cap1] 48) := ⟨_, rfl⟩
        have hz1 : w.heap.size ≤ W1.heap.size := by rw [hW1]; simp; omega
        have hz2 : wr.heap.size < W1.heap.size := by rw [hW1]; simp
        have hsel := select_any p ⟨kind, long, lba, blocks, alloc, fua, prot, unmap, evpd, page, control, save, service, type, bytes⟩ A1 n1 cap1 L1 n sv0 _ hp1 hnc hcm hr1 hby
        have hsen := sense_told p ⟨kind, long, lba, blocks, alloc, fua, prot, unmap, evpd, page, control, save, service, type, bytes⟩ n sv0 _ hp1
        rw [← hW1] at B1 hp1 hq1 hr1 hbl1 mb hsel hsen
        replace hc := hide hc; replace hW1 := hide hW1; replace hcm := hide hcm; replace hby := hide hby; replace hsel := hide hsel; replace hsen := hide hsen; replace mb := hide mb
        replace B1 := hide B1; replace hp1 := hide hp1; replace hq1 := hide hq1; replace hr1 := hide hr1; replace hbl1 := hide hbl1
        have i4 := guard31
        cases sel
        · have hsen2 : ∀ W, RG W q (bitsV n) (bitsV sv0) → _ := fun W h => rsense_told q ⟨kind, long, lba, blocks, alloc, fua, prot, unmap, evpd, page, control, save, service, type, bytes⟩ n sv0 W h
          replace hsen := hsen.out
          generalize saysS ⟨kind, long, lba, blocks, alloc, fua, prot, unmap, evpd, page, control, save, service, type, bytes⟩ = ss at *
          generalize saysB ⟨kind, long, lba, blocks, alloc, fua, prot, unmap, evpd, page, control, save, service, type, bytes⟩ = bb at *
          generalize saysL ⟨kind, long, lba, blocks, alloc, fua, prot, unmap, evpd, page, control, save, service, type, bytes⟩ n sv0 = Ls at *
          obtain ⟨tk, tc, tf, tb, th, tm⟩ := ss
          obtain ⟨mL, hmL⟩ : ∃ mL, mL = Ls.length := ⟨_, rfl⟩
          rw [← hmL] at hsen hsen2
          dsimp only at hsen hsen2
          obtain ⟨S, hS⟩ : ∃ S, S = strOf Ls := ⟨_, rfl⟩
          replace hsen := hide hsen; replace hsen2 := hide hsen2; replace hmL := hide hmL; replace hS := hide hS
          go_wp2_with (first
            | (refine list_load 48 (.tmp 48) rfl rfl _ Try.underlying48 rfl (ad.add (k * 17)) [.bool false, .int .u8 kind, .bool long, .int .u64 lba, .int .u64 blocks, .int .i64 alloc, .bool fua, .int .u8 prot, .bool unmap, .bool evpd, .int .u8 page, .int .u8 control, .bool save, .int .u8 service, .int .u8 type, .bool bytes, .slice A1 n1 cap1] size48 rfl hc.out ?_)
            | (go_at_call 10; rw [← hW1.out]; (with_reducible refine hsen.out.mono ?_); rintro e w2 ⟨A2, c2, rfl, hr2, m2⟩
               have z2 := m2.size
               have m3 := (Mod.refl (fun _ => False) w2).alloc (.cells #[.int .u8 tk, .int .u16 tc, .int .u64 0, .bool false, .int .i64 tf, .int .i64 tb, .bool th, .bool tm] 31)
               have B3 := (B1.out.mod m2 (by simp)).mod m3 (by simp)
               have hp3 := (hp1.out.mod m2 (by simp)).mod m3 (by simp)
               have hq3 := (hq1.out.mod m2 (by simp)).mod m3 (by simp)
               have hbl3 := (hbl1.out.trans (m2.below hz1 (by simp))).trans (m3.below (Nat.le_trans hz1 z2) (by simp))
               have hr3 := hr2.mod m3 (by simp)
               have T3 : (w2.alloc (.cells #[.int .u8 tk, .int .u16 tc, .int .u64 0, .bool false, .int .i64 tf, .int .i64 tb, .bool th, .bool tm] 31)).heap[w2.heap.size]? = some (.cells #[.int .u8 tk, .int .u16 tc, .int .u64 0, .bool false, .int .i64 tf, .int .i64 tb, .bool th, .bool tm] 31 (0, 0)) := heap_alloc_new _ _
               have hsen3 := hsen2.out _ hq3
               replace m2 := hide m2; replace m3 := hide m3; replace B3 := hide B3; replace hp3 := hide hp3; replace hq3 := hide hq3; replace hbl3 := hide hbl3; replace hr3 := hide hr3; replace hr2 := hide hr2; replace T3 := hide T3; replace hsen3 := hide hsen3)
            | ((with_reducible refine load_cmd2 ⟨false, ⟨kind, long, lba, blocks, alloc, fua, prot, unmap, evpd, page, control, save, service, type, bytes⟩, A1, n1, cap1, L1⟩ (.tmp 95) wr.heap.size ?_ ?_ ?_ B3.out ?_); exact rfl; exact rfl; exact rfl)
            | (go_at_call 17; (with_reducible refine hsen3.out.mono ?_); rintro e w4 ⟨A4, c4, rfl, hr4, m4⟩
               have z4 := m4.size
               simp only [World.size_alloc] at z4
               have m5 := (Mod.refl (fun _ => False) w4).alloc (.cells #[.int .u8 tk, .int .u16 tc, .int .u64 0, .bool false, .int .i64 tf, .int .i64 tb, .bool th, .bool tm] 31)
               have hp5 := (hp3.out.mod m4 (by simp)).mod m5 (by simp)
               have hq5 := (hq3.out.mod m4 (by simp)).mod m5 (by simp)
               have T5 := m5.heap (m4.heap T3.out (by simp)) (by simp)
               obtain ⟨u0, u1, u2, u3, u4, u5, u6, u7⟩ := eights T5
               have hbl5 := (hbl3.out.trans (m4.below hbl3.out.size (by simp))).trans (m5.below (Nat.le_trans hbl3.out.size m4.size) (by simp))
               have z5 : w2.heap.size < w4.heap.size := by omega
               have i5 := eqIn31s tk tc tf tb th tm
               have v1 := conv_str (c := c2) ((hr3.out.mod m4 (by simp)).mod m5 (by simp))
               have v2 := conv_str (c := c4) (hr4.mod m5 (by simp))
               rw [← hS.out] at v1 v2
               replace m4 := hide m4; replace m5 := hide m5; replace hp5 := hide hp5; replace hq5 := hide hq5; replace hbl5 := hide hbl5; replace T5 := hide T5; replace hr4 := hide hr4))
          go_region_held3 (fun w' => w'.cell? ⟨q, 0, none⟩ = some (.int .i64 (bitsV n)) ∧ w'.cell? ⟨q, 1, none⟩ = some (.int .i64 (bitsV sv0)))
            (first | exact RG.cells hq5.out | exact RG.cells (w := (w4.alloc (.cells #[.int .u8 tk, .int .u16 tc, .int .u64 0, .bool false, .int .i64 tf, .int .i64 tb, .bool th, .bool tm] 31)).drew) hq5.out | exact RG.cells hq6.out | exact RG.cells hq7.out | exact RG.cells hq8.out | exact RG.cells hq9.out)
            (first
            | (go_at_call 12; (with_reducible refine (now_some p n sv0 (w4.alloc (.cells #[.int .u8 tk, .int .u16 tc, .int .u64 0, .bool false, .int .i64 tf, .int .i64 tb, .bool th, .bool tm] 31)).drew ?_).mono ?_); (exact hp5.out); rintro e w6 ⟨rfl, m6⟩
               have hp6 := PG.mod (F := fun _ => False) (show PG (w4.alloc (.cells #[.int .u8 tk, .int .u16 tc, .int .u64 0, .bool false, .int .i64 tf, .int .i64 tb, .bool th, .bool tm] 31)).drew p n sv0 from hp5.out) m6 (fun h => h)
               have hq6 := RG.mod (F := fun _ => False) (show RG (w4.alloc (.cells #[.int .u8 tk, .int .u16 tc, .int .u64 0, .bool false, .int .i64 tf, .int .i64 tb, .bool th, .bool tm] 31)).drew q (bitsV n) (bitsV sv0) from hq5.out) m6 (fun h => h)
               have hbl6 := (show Below w.heap.size w (w4.alloc (.cells #[.int .u8 tk, .int .u16 tc, .int .u64 0, .bool false, .int .i64 tf, .int .i64 tb, .bool th, .bool tm] 31)).drew from hbl5.out.drew).trans (Mod.below (F := fun _ => False) m6 hbl5.out.size (fun _ h => h.elim))
               replace m6 := hide m6; replace hp6 := hide hp6; replace hq6 := hide hq6; replace hbl6 := hide hbl6)
            | (go_at_call 15; (with_reducible refine (bits_any n w6).mono ?_); rintro e w7 ⟨rfl, m7⟩
               have hp7 := PG.mod (F := fun _ => False) hp6.out m7 (fun h => h)
               have hq7 := RG.mod (F := fun _ => False) hq6.out m7 (fun h => h)
               have hbl7 := hbl6.out.trans (Mod.below (F := fun _ => False) m7 hbl6.out.size (fun _ h => h.elim))
               replace m7 := hide m7; replace hp7 := hide hp7; replace hq7 := hide hq7; replace hbl7 := hide hbl7)
            | (go_at_call 13; (with_reducible refine (saved_some p n sv0 w7 ?_).mono ?_); (exact hp7.out); rintro e w8 ⟨rfl, m8⟩
               have hp8 := PG.mod (F := fun _ => False) hp7.out m8 (fun h => h)
               have hq8 := RG.mod (F := fun _ => False) hq7.out m8 (fun h => h)
               have hbl8 := hbl7.out.trans (Mod.below (F := fun _ => False) m8 hbl7.out.size (fun _ h => h.elim))
               replace m8 := hide m8; replace hp8 := hide hp8; replace hq8 := hide hq8; replace hbl8 := hide hbl8)
            | (go_at_call 15; (with_reducible refine (bits_any sv0 w8).mono ?_); rintro e w9 ⟨rfl, m9⟩
               have hp9 := PG.mod (F := fun _ => False) hp8.out m9 (fun h => h)
               have hq9 := RG.mod (F := fun _ => False) hq8.out m9 (fun h => h)
               have hbl9 := hbl8.out.trans (Mod.below (F := fun _ => False) m9 hbl8.out.size (fun _ h => h.elim))
               replace m9 := hide m9; replace hp9 := hide hp9; replace hq9 := hide hq9; replace hbl9 := hide hbl9))
          all_goals
            go_wp2_with fail
            go_roundw
            case rel => exact ⟨k + 1, by omega, by omega, by go_num, hide ⟨_, _, hp9.out, hq9.out, hbl9.out⟩⟩
            case measure => simp [intOf]; omega
        · go_wp2_with (first
            | (refine list_load 48 (.tmp 48) rfl rfl _ Try.underlying48 rfl (ad.add (k * 17)) [.bool true, .int .u8 kind, .bool long, .int .u64 lba, .int .u64 blocks, .int .i64 alloc, .bool fua, .int .u8 prot, .bool unmap, .bool evpd, .int .u8 page, .int .u8 control, .bool save, .int .u8 service, .int .u8 type, .bool bytes, .slice A1 n1 cap1] size48 rfl hc.out ?_)
            | (go_at_call 11; rw [← hW1.out]; (with_reducible refine hsel.out.mono ?_); rintro e w2 ⟨ch, ⟨tk, tc, tf, tb, th, tm⟩, ok, ⟨na, nb, nc⟩, ⟨sa, sb, sc⟩, hR, rfl, hp2, m2⟩
               have z2 := m2.size
               have m3 := (Mod.refl (fun _ => False) w2).alloc (.cells #[.int .u8 tk, .int .u16 tc, .int .u64 0, .bool false, .int .i64 tf, .int .i64 tb, .bool th, .bool tm] 31)
               have B3 := (B1.out.mod m2 (by omega)).mod m3 (by simp)
               obtain ⟨-, c16⟩ := B3.cells
               have hp3 := hp2.mod m3 (by simp)
               have hq3 := (hq1.out.mod m2 (by omega)).mod m3 (by simp)
               have hbl3 := (hbl1.out.trans (m2.below hz1 (fun j e => by omega))).trans (m3.below (Nat.le_trans hz1 z2) (by simp))
               have hr3 := (hra.out.below (hbl1.out.trans (m2.below hz1 (fun j e => by omega)))).mod m3 (by simp)
               have T3 : (w2.alloc (.cells #[.int .u8 tk, .int .u16 tc, .int .u64 0, .bool false, .int .i64 tf, .int .i64 tb, .bool th, .bool tm] 31)).heap[w2.heap.size]? = some (.cells #[.int .u8 tk, .int .u16 tc, .int .u64 0, .bool false, .int .i64 tf, .int .i64 tb, .bool th, .bool tm] 31 (0, 0)) := heap_alloc_new _ _
               have hsel2 := rselect_like q ⟨kind, long, lba, blocks, alloc, fua, prot, unmap, evpd, page, control, save, service, type, bytes⟩ A1 n1 cap1 L1 n sv0 _ hq3 hnc hcm.out hr3 hby.out hR
               replace m2 := hide m2; replace m3 := hide m3; replace B3 := hide B3; replace hp3 := hide hp3; replace hq3 := hide hq3; replace hbl3 := hide hbl3; replace hr3 := hide hr3; replace hR := hide hR; replace hp2 := hide hp2; replace T3 := hide T3; replace hsel2 := hide hsel2)
            | ((with_reducible refine load_cmd2 ⟨true, ⟨kind, long, lba, blocks, alloc, fua, prot, unmap, evpd, page, control, save, service, type, bytes⟩, A1, n1, cap1, L1⟩ (.tmp 64) wr.heap.size ?_ ?_ ?_ B3.out ?_); exact rfl; exact rfl; exact rfl)
            | (go_at_call 16; (with_reducible refine hsel2.out.mono ?_); rintro e w4 ⟨rfl, hq4, m4⟩
               have z4 := m4.size
               simp only [World.size_alloc] at z4
               have m5 := (Mod.refl (fun _ => False) w4).alloc (.cells #[.int .u8 tk, .int .u16 tc, .int .u64 0, .bool false, .int .i64 tf, .int .i64 tb, .bool th, .bool tm] 31)
               have hp5 := (hp3.out.mod m4 (by omega)).mod m5 (by simp)
               have hq5 := hq4.mod m5 (by simp)
               have T5 := m5.heap (m4.heap T3.out (by omega)) (by simp)
               obtain ⟨u0, u1, u2, u3, u4, u5, u6, u7⟩ := eights T5
               have hbl5 := (hbl3.out.trans (m4.below hbl3.out.size (fun j e => by omega))).trans (m5.below (Nat.le_trans hbl3.out.size m4.size) (by simp))
               have z5 : w2.heap.size < w4.heap.size := by omega
               have i5 := eqIn31s tk tc tf tb th tm
               replace m4 := hide m4; replace m5 := hide m5; replace hp5 := hide hp5; replace hq5 := hide hq5; replace hbl5 := hide hbl5; replace T5 := hide T5; replace hq4 := hide hq4))
          go_region_held3 (fun w' => w'.cell? ⟨q, 0, none⟩ = some (.int .i64 (bitsV ⟨na, nb, nc⟩)) ∧ w'.cell? ⟨q, 1, none⟩ = some (.int .i64 (bitsV ⟨sa, sb, sc⟩)))
            (first | exact RG.cells hq5.out | exact RG.cells (w := (w4.alloc (.cells #[.int .u8 tk, .int .u16 tc, .int .u64 0, .bool false, .int .i64 tf, .int .i64 tb, .bool th, .bool tm] 31)).drew) hq5.out | exact RG.cells hq6.out | exact RG.cells hq7.out | exact RG.cells hq8.out | exact RG.cells hq9.out)
            (first
            | (go_at_call 12; (with_reducible refine (now_some p ⟨na, nb, nc⟩ ⟨sa, sb, sc⟩ (w4.alloc (.cells #[.int .u8 tk, .int .u16 tc, .int .u64 0, .bool false, .int .i64 tf, .int .i64 tb, .bool th, .bool tm] 31)).drew ?_).mono ?_); (exact hp5.out); rintro e w6 ⟨rfl, m6⟩
               have hp6 := PG.mod (F := fun _ => False) (show PG (w4.alloc (.cells #[.int .u8 tk, .int .u16 tc, .int .u64 0, .bool false, .int .i64 tf, .int .i64 tb, .bool th, .bool tm] 31)).drew p ⟨na, nb, nc⟩ ⟨sa, sb, sc⟩ from hp5.out) m6 (fun h => h)
               have hq6 := RG.mod (F := fun _ => False) (show RG (w4.alloc (.cells #[.int .u8 tk, .int .u16 tc, .int .u64 0, .bool false, .int .i64 tf, .int .i64 tb, .bool th, .bool tm] 31)).drew q (bitsV ⟨na, nb, nc⟩) (bitsV ⟨sa, sb, sc⟩) from hq5.out) m6 (fun h => h)
               have hbl6 := (show Below w.heap.size w (w4.alloc (.cells #[.int .u8 tk, .int .u16 tc, .int .u64 0, .bool false, .int .i64 tf, .int .i64 tb, .bool th, .bool tm] 31)).drew from hbl5.out.drew).trans (Mod.below (F := fun _ => False) m6 hbl5.out.size (fun _ h => h.elim))
               replace m6 := hide m6; replace hp6 := hide hp6; replace hq6 := hide hq6; replace hbl6 := hide hbl6)
            | (go_at_call 15; (with_reducible refine (bits_any ⟨na, nb, nc⟩ w6).mono ?_); rintro e w7 ⟨rfl, m7⟩
               have hp7 := PG.mod (F := fun _ => False) hp6.out m7 (fun h => h)
               have hq7 := RG.mod (F := fun _ => False) hq6.out m7 (fun h => h)
               have hbl7 := hbl6.out.trans (Mod.below (F := fun _ => False) m7 hbl6.out.size (fun _ h => h.elim))
               replace m7 := hide m7; replace hp7 := hide hp7; replace hq7 := hide hq7; replace hbl7 := hide hbl7)
            | (go_at_call 13; (with_reducible refine (saved_some p ⟨na, nb, nc⟩ ⟨sa, sb, sc⟩ w7 ?_).mono ?_); (exact hp7.out); rintro e w8 ⟨rfl, m8⟩
               have hp8 := PG.mod (F := fun _ => False) hp7.out m8 (fun h => h)
               have hq8 := RG.mod (F := fun _ => False) hq7.out m8 (fun h => h)
               have hbl8 := hbl7.out.trans (Mod.below (F := fun _ => False) m8 hbl7.out.size (fun _ h => h.elim))
               replace m8 := hide m8; replace hp8 := hide hp8; replace hq8 := hide hq8; replace hbl8 := hide hbl8)
            | (go_at_call 15; (with_reducible refine (bits_any ⟨sa, sb, sc⟩ w8).mono ?_); rintro e w9 ⟨rfl, m9⟩
               have hp9 := PG.mod (F := fun _ => False) hp8.out m9 (fun h => h)
               have hq9 := RG.mod (F := fun _ => False) hq8.out m9 (fun h => h)
               have hbl9 := hbl8.out.trans (Mod.below (F := fun _ => False) m9 hbl8.out.size (fun _ h => h.elim))
               replace m9 := hide m9; replace hp9 := hide hp9; replace hq9 := hide hq9; replace hbl9 := hide hbl9))
          all_goals
            go_wp2_with fail
            go_roundw
            case rel => exact ⟨k + 1, by omega, by omega, by go_num, hide ⟨_, _, hp9.out, hq9.out, hbl9.out⟩⟩
            case measure => simp [intOf]; omega
      · have hcases : k = len ∨ (k < len ∧ k = 100) := by omega
        have hbel : Below w.heap.size w wr := by obtain ⟨_, _, _, _, h⟩ := hpr.out; exact h
        replace hbel := hide hbel
        clear hpr
        rcases hcases with rfl | ⟨hk1, rfl⟩
        all_goals
          go_wp2_with fail
          go_ret
          exact ⟨rfl, hbel.out⟩
end Go.Proofs.Ytieieinaijopnaa.modePlays
