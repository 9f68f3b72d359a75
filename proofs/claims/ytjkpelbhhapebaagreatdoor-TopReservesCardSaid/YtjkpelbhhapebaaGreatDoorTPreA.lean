/-
  The table's preempt, walked. Conditions: the table stands in memory as the unit lets it be.
-/
import Derived.Test.YtjkpelbhhapebaaGreatDoorTPreL
namespace Go.Proofs.YtjkpelbhhapebaaGreatDoor
open Go.RowKit
set_option maxRecDepth 100000
set_option maxHeartbeats 16000000 in
theorem preempt_a (t : Nat) (n sv ty key act : Int) (v : Value) (T : Tb) (N : Nat) (w : World) (h : TR w t v T) (hk : TOk N T) (hN : N ≤ 900) (hX : (T.kind == 7 || T.kind == 8) = false) :
    Calls Tryz.prog 129 #[.pointer (some ⟨t, 0, none⟩), .int .i64 n, .agg (outA sv ty key act)] w (SvR t w v N) := by
  have ht := h.1.lt
  have hl := hk.len
  have hN8 := hk.nex
  have hall := fun W => all_any T.kind hk.kind W
  have hty := fun W => types_any ty W
  obtain ⟨A, m, c, rfl⟩ := h.2.1.form
  have hlen : T.regs.length = m := (h.2.1.rd encR_len rfl).1
  obtain ⟨kd, hkd⟩ : ∃ kd, kd = T.kind := ⟨_, rfl⟩
  obtain ⟨gn, hgn⟩ : ∃ gn, gn = T.gen := ⟨_, rfl⟩
  obtain ⟨ho, hho⟩ : ∃ ho, ho = T.holder := ⟨_, rfl⟩
  obtain ⟨l, hl0⟩ : ∃ l, l = T.regs := ⟨_, rfl⟩
  obtain ⟨ab, hab⟩ : ∃ ab, ab = (kd == 7 || kd == 8) := ⟨_, rfl⟩
  obtain ⟨ng, hng⟩ : ∃ ng, IntKind.u32.wrap (gn + 1) = ng := ⟨_, rfl⟩
  have hcell : ∀ W, TR W t (.slice A m c) T → (W.cell? ⟨t, 0, none⟩ = some (.slice A m c) ∧ W.cell? ⟨t, 1, none⟩ = some (.int .u32 gn) ∧ W.cell? ⟨t, 2, none⟩ = some (.int .u8 kd) ∧ W.cell? ⟨t, 3, none⟩ = some (.int .i64 ho)) ∧ W.frozen? ⟨t, 0, none⟩ = false ∧ W.frozen? ⟨t, 1, none⟩ = false ∧ W.frozen? ⟨t, 2, none⟩ = false ∧ W.frozen? ⟨t, 3, none⟩ = false := fun W q => by
    rw [hkd, hgn, hho]
    exact ⟨⟨q.1.cells.1, q.1.cells.2.1, q.1.cells.2.2.1, q.1.cells.2.2.2.1⟩, q.1.fr 0, q.1.fr 1, q.1.fr 2, q.1.fr 3⟩
  have hrdr : ∀ W, TR W t (.slice A m c) T → Rd W 2 encR A m l := fun W q => by rw [hl0]; exact q.2.1.rd encR_len rfl
  rw [← hkd, ← hab] at hall
  rw [← hl0] at hlen hl hN8
  have hlm : m ≤ 900 := by omega
  have hmN : m ≤ N := by omega
  replace ht := hide ht; replace hlen := hide hlen; replace hN8 := hide hN8; replace hall := hide hall; replace hty := hide hty; replace hcell := hide hcell; replace hrdr := hide hrdr; replace h := hide h; have hk0 := hk; replace hk0 := hide hk0; clear hk; replace hab := hide hab; replace hng := hide hng; replace hkd := hide hkd; replace hgn := hide hgn; replace hho := hide hho; replace hl0 := hide hl0
  obtain rfl : ab = false := by rw [hab.out, hkd.out]; exact hX
  clear hX
  go_enter Tryz.func129, Tryz.ntmps129
  go_wp2_with (first
    | (refine list_box 43 (.tmp 2) rfl rfl (outA sv ty key act) rfl ?_
       intro w1 g hg hcm1 m1 hz
       obtain ⟨o0, o1, o2, o3, o4⟩ := outA_cells hcm1
       have R1 := h.out.mod m1
       obtain ⟨⟨c0, c1, c2, c3⟩, f0, f1, f2, f3⟩ := hcell.out w1 R1
       replace hcm1 := hide hcm1; replace m1 := hide m1; replace hz := hide hz; replace hg := hide hg; replace R1 := hide R1))
  go_quiet ((go_at_call 64; exact (hall.out _).mono fun e w' h => ⟨h.1, _, h.2.symm⟩))
  go_wp2_with fail
  go_loopw [9, 38] (fun v x wr => ∃ k : Nat, k ≤ m ∧ x = .int .i64 k ∧ (∃ hd, v = .bool hd) ∧ Hid (Mod (fun _ => False) w1 wr)) (fun _ x _ => m - (intOf x).toNat)
  case atStart => exact ⟨0, Nat.zero_le _, rfl, ⟨_, rfl⟩, hide ((Mod.refl _ w1).drewN _)⟩
  case round =>
    obtain ⟨k, hk, rfl, ⟨hd, rfl⟩, hR⟩ := hrel
    by_cases hkm : k < m
    · obtain ⟨ad, rfl, hc⟩ := (hrdr.out wr (R1.out.mod hR.out)).2 k hkm
      obtain ⟨r, hrk⟩ : ∃ r, r = gi l k := ⟨_, rfl⟩
      rw [← hrk] at hc
      have hcc : ∀ j u, ([.int .i64 r.1, .int .u64 r.2] : List Value)[j]? = some u → wr.cell? ((ad.add (k * 2)).add j) = some u := fun j u hu => by rw [addr_add]; exact hc j u hu
      have q1 : (k : Int) < m := by omega
      clear hc
      replace hcc := hide hcc; replace hrk := hide hrk
      have hcs : hd = true ∨ hd = false ∧ (kd != 0) = false ∨ hd = false ∧ (kd != 0) = true ∧ (r.1 == ho) = false ∨ hd = false ∧ (kd != 0) = true ∧ (r.1 == ho) = true ∧ (r.2 == act) = true ∨ hd = false ∧ (kd != 0) = true ∧ (r.1 == ho) = true ∧ (r.2 == act) = false := by
        cases hd <;> cases (kd != 0) <;> cases (r.1 == ho) <;> cases (r.2 == act) <;> simp
      rcases hcs with rfl | ⟨rfl, t1⟩ | ⟨rfl, t1, t2⟩ | ⟨rfl, t1, t2, t3⟩ | ⟨rfl, t1, t2, t3⟩
      all_goals
        go_wp2_with (first
        | ((with_reducible refine list_load 50 (.tmp 40) ?_ ?_ _ Tryz.underlying50 ?_ (ad.add (k * 2)) ([.int .i64 r.1, .int .u64 r.2] : List Value) ?_ ?_ hcc.out ?_)
           exact rfl
           exact rfl
           exact rfl
           exact size50
           exact rfl
           skip)
        | ((with_reducible refine list_al 50 _ new50 ?_ ?_ ?_)
           exact rfl
           exact rfl
           intro w2 g2 hg2 h2 m2 s2
           replace hg2 := hide hg2; replace h2 := hide h2; replace m2 := hide m2; replace s2 := hide s2)
        | ((with_reducible refine list_put 50 (.tmp 12) (.tmp 41) ?_ ?_ g2 #[.int .i64 r.1, .int .u64 r.2] ?_ ?_ z50 h2.out ?_ ?_ ?_ ?_)
           exact rfl
           exact rfl
           exact rfl
           exact rfl
           exact rfl
           exact size50
           exact rg_one r
           intro w3 h3 m3
           have x0 : w3.cell? ⟨g2, 0, none⟩ = some (.int .i64 r.1) := by rw [cell_of_row w3 _ _ _ 50 (0, 0) h3]; rfl
           have x1 : w3.cell? ⟨g2, 1, none⟩ = some (.int .u64 r.2) := by rw [cell_of_row w3 _ _ _ 50 (0, 0) h3]; rfl
           have M3 : Mod (fun _ => False) wr w3 := m2.out.trans m3 (fun k hk e => by have := hg2.out; omega)
           have hb0 : ∀ j u, ([.int .i64 r.1, .int .u64 r.2] : List Value)[j]? = some u → w3.cell? ((⟨g2, 0, none⟩ : Addr).add j) = some u := fun j u hu => box_cells h3 j u hu
           have M13 := hR.out.trans M3 (fun _ _ e => e)
           obtain ⟨⟨y0, y1, y2, y3⟩, -⟩ := hcell.out w3 (R1.out.mod M13)
           obtain ⟨z0, z1, z2, z3, z4⟩ := outA_cells (M13.heap hcm1.out (fun e => e))
           replace M3 := hide M3; replace h3 := hide h3; replace m3 := hide m3; replace M13 := hide M13; replace hb0 := hide hb0))
        refine wp_region_quiet_lit (by kernel_rfl) (by kernel_rfl) ?_
        refine quiet_gen ?_
        intro Z hy hn hz
        repeat (first
          | (refine hn _ _ _ (by rfl) ?_; simp only [Act.put, List.setIfInBounds_toArray, List.set_cons_zero, List.set_cons_succ])
          | (refine hy _ _ _ (by kernel_rfl) ?_; go_simp; first | (apply Exists.intro; refine ⟨fun _ => ?_, ?_⟩; (go_at_call 64; exact (hall.out _).mono fun e w' h => ⟨h.1, _, h.2.symm⟩)) | skip))
        refine hz _ ?_
        intro _ hw'
        obtain ⟨nq, hw''⟩ := hw'
        subst hw''
        go_wp2_with fail
      all_goals exact ⟨⟨k + 1, by omega, rfl, ⟨_, rfl⟩, hide (M13.out.drewN _)⟩, by simp [intOf]; omega⟩
    · obtain rfl : m = k := by omega
      have q1 : decide ((m : Int) < m) = false := by simp
      obtain ⟨⟨c00, c11, c22, c33⟩, -⟩ := hcell.out wr (R1.out.mod hR.out)
      obtain ⟨p0, p1, p2, p3, p4⟩ := outA_cells (hR.out.heap hcm1.out (fun e => e))
      have ha0 : (act == 0) = true ∨ (act == 0) = false := by cases (act == 0) <;> simp
      rcases ha0 with a0 | a0
      · go_wp2_with fail
        go_ret3
        exact ⟨_, _, _, _, _, rfl, .inr (.inl rfl), SvP.same h.out hk0.out (m1.out.trans hR.out (fun _ _ e => e))⟩
      cases hd
      · go_wp2_with fail
        have hP2 : Hid (∃ evs l', L2 w1 wr 0 (.slice none 0 0) (.slice none 0 0) evs l') := hide ⟨[], [], L2.nil w1 hR.out⟩
        go_loopw [13, 14, 99] (fun u v x wr => ∃ k : Nat, k ≤ m ∧ x = .int .i64 k ∧ (∃ A n c, u = .slice A n c) ∧ (∃ A n c, v = .slice A n c) ∧ Hid (∃ evs l', L2 w1 wr k u v evs l')) (fun _ _ x _ => m - (intOf x).toNat)
        case atStart => exact ⟨0, Nat.zero_le _, rfl, ⟨_, _, _, rfl⟩, ⟨_, _, _, rfl⟩, hP2⟩
        case round =>
          clear hP2 hR
          obtain ⟨k, hk, rfl, ⟨A1, n1, c1, rfl⟩, ⟨A2, n2, c2, rfl⟩, hR⟩ := hrel
          obtain ⟨evs, l', hR⟩ := hR.out
          replace hR := hide hR
          by_cases hkm : k < m
          · obtain ⟨ad, rfl, hc⟩ := (hrdr.out wr (R1.out.mod hR.out.mo)).2 k hkm
            have hr8 := hN8.out.at_ k (by rw [hlen.out]; exact hkm)
            have fe : evs.length ≤ 900 := by have := hR.out.2.2.1; omega
            have fl : l'.length ≤ 900 := by have := hR.out.2.2.2.1; omega
            replace fe := hide fe; replace fl := hide fl
            obtain ⟨r, hrk⟩ : ∃ r, r = gi l k := ⟨_, rfl⟩
            rw [← hrk] at hc
            have hcc : ∀ j u, ([.int .i64 r.1, .int .u64 r.2] : List Value)[j]? = some u → wr.cell? ((ad.add (k * 2)).add j) = some u := fun j u hu => by rw [addr_add]; exact hc j u hu
            have q1 : (k : Int) < m := by omega
            rw [← hrk] at hr8
            clear hc
            replace hr8 := hide hr8
            replace hcc := hide hcc; replace hrk := hide hrk
            have hcs : (r.1 == n) = true ∨ (r.1 == n) = false ∧ (r.2 != act) = true ∨ (r.1 == n) = false ∧ (r.2 != act) = false := by cases (r.1 == n) <;> cases (r.2 != act) <;> simp
            rcases hcs with t5 | ⟨t5, t6⟩ | ⟨t5, t6⟩
            all_goals
              go_wp2_with (first
              | ((with_reducible refine list_load 50 (.tmp 101) ?_ ?_ _ Tryz.underlying50 ?_ (ad.add (k * 2)) ([.int .i64 r.1, .int .u64 r.2] : List Value) ?_ ?_ hcc.out ?_)
                 exact rfl
                 exact rfl
                 exact rfl
                 exact size50
                 exact rfl
                 skip)
              | ((with_reducible refine list_al 50 _ new50 ?_ ?_ ?_)
                 exact rfl
                 exact rfl
                 intro w2 g2 hg2 h2 m2 s2
                 replace hg2 := hide hg2; replace h2 := hide h2; replace m2 := hide m2; replace s2 := hide s2)
              | ((with_reducible refine list_put 50 (.tmp 16) (.tmp 102) ?_ ?_ g2 #[.int .i64 r.1, .int .u64 r.2] ?_ ?_ z50 h2.out ?_ ?_ ?_ ?_)
                 exact rfl
                 exact rfl
                 exact rfl
                 exact rfl
                 exact rfl
                 exact size50
                 exact rg_one r
                 intro w3 h3 m3
                 have x0 : w3.cell? ⟨g2, 0, none⟩ = some (.int .i64 r.1) := by rw [cell_of_row w3 _ _ _ 50 (0, 0) h3]; rfl
                 have x1 : w3.cell? ⟨g2, 1, none⟩ = some (.int .u64 r.2) := by rw [cell_of_row w3 _ _ _ 50 (0, 0) h3]; rfl
                 have M3 : Mod (fun _ => False) wr w3 := m2.out.trans m3 (fun k hk e => by have := hg2.out; omega)
                 have hb0 : ∀ j u, ([.int .i64 r.1, .int .u64 r.2] : List Value)[j]? = some u → w3.cell? ((⟨g2, 0, none⟩ : Addr).add j) = some u := fun j u hu => box_cells h3 j u hu
                 have M13 := hR.out.mo.trans M3 (fun _ _ e => e)
                 obtain ⟨⟨y0, y1, y2, y3⟩, -⟩ := hcell.out w3 (R1.out.mod M13)
                 obtain ⟨z0, z1, z2, z3, z4⟩ := outA_cells (M13.heap hcm1.out (fun e => e))
                 have K3 := hR.out.keep M3
                 replace K3 := hide K3
                 replace M3 := hide M3; replace h3 := hide h3; replace m3 := hide m3; replace M13 := hide M13; replace hb0 := hide hb0)
              | ((with_reducible refine list_load 50 (.tmp 16) ?_ ?_ _ Tryz.underlying50 ?_ ⟨g2, 0, none⟩ ([.int .i64 r.1, .int .u64 r.2] : List Value) ?_ ?_ hb0.out ?_)
                 exact rfl
                 exact rfl
                 exact rfl
                 exact size50
                 exact rfl
                 skip)
              | (at_builtin; refine list_app (.tmp 123) (.tmp 125) 46 50 _ 2 16 encR rfl rfl encR_len encR_one Tryz.underlying46 elem50 (.slice A2 n2 c2) l' (some ⟨w3.heap.size, 0, none⟩) 1 1 [r] rfl rfl (K3.out.2.1.1.alloc _) (Rd.box _ _ _ _) (by have := fl.out; simp only [maxLen]; omega) (by have := fl.out; omega) ?_
                 intro v4 w4 r4 g4 a4
                 have R4 := K3.out.addL r hr8.out r4 g4 a4
                 obtain ⟨A4, n4, c4, rfl⟩ := r4.form
                 replace R4 := hide R4; clear r4 g4 a4)
              | (at_builtin; refine list_app (.tmp 103) (.tmp 107) 197 201 _ 2 16 encE rfl rfl encE_len encE_one Tryz.underlying197 elem201 (.slice A1 n1 c1) evs (some ⟨w3.heap.size, 0, none⟩) 1 1 [(r.1, (10757 : Int))] rfl rfl (K3.out.1.1.alloc _) (Rd.box _ _ _ _) (by have := fe.out; simp only [maxLen]; omega) (by have := fe.out; omega) ?_
                 intro v4 w4 r4 g4 a4
                 have R4 := K3.out.addO (r.1, (10757 : Int)) ⟨hr8.out.1, hr8.out.2, u16_57⟩ r4 g4 a4
                 obtain ⟨A4, n4, c4, rfl⟩ := r4.form
                 replace R4 := hide R4; clear r4 g4 a4))
            all_goals exact ⟨⟨k + 1, by omega, rfl, ⟨_, _, _, rfl⟩, ⟨_, _, _, rfl⟩, hide ⟨_, _, R4.out⟩⟩, by simp [intOf]; omega⟩
          · obtain rfl : m = k := by omega
            have q1 : decide ((m : Int) < m) = false := by simp
            obtain ⟨⟨c00, -⟩, -⟩ := hcell.out wr (R1.out.mod hR.out.mo)
            go_wp2_with fail
            obtain ⟨l2, hl2⟩ : ∃ l2, l2 = l'.length := ⟨_, rfl⟩
            go_loopw [17, 133] (fun v x wr => ∃ k : Nat, k ≤ m ∧ x = .int .i64 k ∧ (∃ b, v = .bool b) ∧ Hid (L2 w1 wr m (.slice A1 n1 c1) (.slice A2 n2 c2) evs l')) (fun _ x _ => m - (intOf x).toNat)
            case atStart => exact ⟨0, Nat.zero_le _, rfl, ⟨_, rfl⟩, hR⟩
            case round =>
              clear hR
              obtain ⟨k, hk, rfl, ⟨hit, rfl⟩, hR⟩ := hrel
              by_cases hkm : k < m
              · obtain ⟨ad, rfl, hc⟩ := (hrdr.out wr (R1.out.mod hR.out.mo)).2 k hkm
                obtain ⟨r, hrk⟩ : ∃ r, r = gi l k := ⟨_, rfl⟩
                rw [← hrk] at hc
                have hcc : ∀ j u, ([.int .i64 r.1, .int .u64 r.2] : List Value)[j]? = some u → wr.cell? ((ad.add (k * 2)).add j) = some u := fun j u hu => by rw [addr_add]; exact hc j u hu
                have q1 : (k : Int) < m := by omega
                clear hc
                replace hcc := hide hcc; replace hrk := hide hrk
                have hcs : hit = true ∨ hit = false ∧ (r.2 == act) = true ∨ hit = false ∧ (r.2 == act) = false := by cases hit <;> cases (r.2 == act) <;> simp
                rcases hcs with rfl | ⟨rfl, t7⟩ | ⟨rfl, t7⟩
                all_goals
                  go_wp2_with (first
                  | ((with_reducible refine list_load 50 (.tmp 135) ?_ ?_ _ Tryz.underlying50 ?_ (ad.add (k * 2)) ([.int .i64 r.1, .int .u64 r.2] : List Value) ?_ ?_ hcc.out ?_)
                     exact rfl
                     exact rfl
                     exact rfl
                     exact size50
                     exact rfl
                     skip)
                  | ((with_reducible refine list_al 50 _ new50 ?_ ?_ ?_)
                     exact rfl
                     exact rfl
                     intro w2 g2 hg2 h2 m2 s2
                     replace hg2 := hide hg2; replace h2 := hide h2; replace m2 := hide m2; replace s2 := hide s2)
                  | ((with_reducible refine list_put 50 (.tmp 19) (.tmp 136) ?_ ?_ g2 #[.int .i64 r.1, .int .u64 r.2] ?_ ?_ z50 h2.out ?_ ?_ ?_ ?_)
                     exact rfl
                     exact rfl
                     exact rfl
                     exact rfl
                     exact rfl
                     exact size50
                     exact rg_one r
                     intro w3 h3 m3
                     have x0 : w3.cell? ⟨g2, 0, none⟩ = some (.int .i64 r.1) := by rw [cell_of_row w3 _ _ _ 50 (0, 0) h3]; rfl
                     have x1 : w3.cell? ⟨g2, 1, none⟩ = some (.int .u64 r.2) := by rw [cell_of_row w3 _ _ _ 50 (0, 0) h3]; rfl
                     have M3 : Mod (fun _ => False) wr w3 := m2.out.trans m3 (fun k hk e => by have := hg2.out; omega)
                     have hb0 : ∀ j u, ([.int .i64 r.1, .int .u64 r.2] : List Value)[j]? = some u → w3.cell? ((⟨g2, 0, none⟩ : Addr).add j) = some u := fun j u hu => box_cells h3 j u hu
                     have M13 := hR.out.mo.trans M3 (fun _ _ e => e)
                     obtain ⟨⟨y0, y1, y2, y3⟩, -⟩ := hcell.out w3 (R1.out.mod M13)
                     obtain ⟨z0, z1, z2, z3, z4⟩ := outA_cells (M13.heap hcm1.out (fun e => e))
                     have K3 := hR.out.keep M3
                     replace K3 := hide K3
                     replace M3 := hide M3; replace h3 := hide h3; replace m3 := hide m3; replace M13 := hide M13; replace hb0 := hide hb0))
                all_goals exact ⟨⟨k + 1, by omega, rfl, ⟨_, rfl⟩, K3⟩, by simp [intOf]; omega⟩
              · obtain rfl : m = k := by omega
                have q1 : decide ((m : Int) < m) = false := by simp
                have M1r := hR.out.mo
                obtain ⟨⟨c00, c11, c22, c33⟩, g00, g11, g22, g33⟩ := hcell.out wr (R1.out.mod M1r)
                obtain ⟨p0, p1, p2, p3, p4⟩ := outA_cells (M1r.heap hcm1.out (fun e => e))
                have hT0 := hR.out.table R1.out
                have h1t : t < w1.heap.size := by have := ht.out; have := m1.out.size; omega
                have fe : evs.length ≤ N := by have := hR.out.2.2.1; omega
                have fl : l'.length ≤ N := by have := hR.out.2.2.2.1; omega
                have fx : NexL l' := hR.out.2.2.2.2.2.1
                have M0r := m1.out.trans M1r (fun _ _ e => e)
                replace hng := hng.out
                replace M0r := hide M0r; replace M1r := hide M1r; replace hT0 := hide hT0; replace h1t := hide h1t; replace fe := hide fe; replace fl := hide fl; replace fx := hide fx; replace hl2 := hide hl2
                have hEnd := SvP.back m1.out ((hT0.out.gen h1t.out ng).fin (v0 := .slice A m c) (N := N) (by have := fe.out; omega) ⟨hk0.out.kind, fl.out, fx.out, hk0.out.low⟩)
                replace hEnd := hide hEnd
                cases hit
                · go_wp2_with fail
                  go_ret3
                  exact ⟨_, _, _, _, _, rfl, .inr (.inr rfl), SvP.same h.out hk0.out M0r.out⟩
                · go_wp2_with fail
                  go_ret3
                  exact ⟨_, _, _, _, _, rfl, .inl rfl, hEnd.out⟩
      · go_wp2_with ((go_at_call 118; (with_reducible refine (hty.out _).mono ?_); rintro e w2 ⟨⟨b, rfl, hbt⟩, rfl⟩; replace hbt := hide hbt; rcases b; skip; skip))
        · go_ret3
          exact ⟨_, _, _, _, _, rfl, .inr (.inl rfl), SvP.same h.out hk0.out (m1.out.trans hR.out (fun _ _ e => e))⟩
        · skip
          have hP2 : Hid (∃ evs l', L2 w1 wr 0 (.slice none 0 0) (.slice none 0 0) evs l') := hide ⟨[], [], L2.nil w1 hR.out⟩
          go_loopw [13, 14, 99] (fun u v x wr => ∃ k : Nat, k ≤ m ∧ x = .int .i64 k ∧ (∃ A n c, u = .slice A n c) ∧ (∃ A n c, v = .slice A n c) ∧ Hid (∃ evs l', L2 w1 wr k u v evs l')) (fun _ _ x _ => m - (intOf x).toNat)
          case atStart => exact ⟨0, Nat.zero_le _, rfl, ⟨_, _, _, rfl⟩, ⟨_, _, _, rfl⟩, hP2⟩
          case round =>
            clear hP2 hR
            obtain ⟨k, hk, rfl, ⟨A1, n1, c1, rfl⟩, ⟨A2, n2, c2, rfl⟩, hR⟩ := hrel
            obtain ⟨evs, l', hR⟩ := hR.out
            replace hR := hide hR
            by_cases hkm : k < m
            · obtain ⟨ad, rfl, hc⟩ := (hrdr.out wr (R1.out.mod hR.out.mo)).2 k hkm
              have hr8 := hN8.out.at_ k (by rw [hlen.out]; exact hkm)
              have fe : evs.length ≤ 900 := by have := hR.out.2.2.1; omega
              have fl : l'.length ≤ 900 := by have := hR.out.2.2.2.1; omega
              replace fe := hide fe; replace fl := hide fl
              obtain ⟨r, hrk⟩ : ∃ r, r = gi l k := ⟨_, rfl⟩
              rw [← hrk] at hc
              have hcc : ∀ j u, ([.int .i64 r.1, .int .u64 r.2] : List Value)[j]? = some u → wr.cell? ((ad.add (k * 2)).add j) = some u := fun j u hu => by rw [addr_add]; exact hc j u hu
              have q1 : (k : Int) < m := by omega
              rw [← hrk] at hr8
              clear hc
              replace hr8 := hide hr8
              replace hcc := hide hcc; replace hrk := hide hrk
              have hcs : (r.1 == n) = true ∨ (r.1 == n) = false ∧ (r.2 != act) = true ∨ (r.1 == n) = false ∧ (r.2 != act) = false := by cases (r.1 == n) <;> cases (r.2 != act) <;> simp
              rcases hcs with t5 | ⟨t5, t6⟩ | ⟨t5, t6⟩
              all_goals
                go_wp2_with (first
                | ((with_reducible refine list_load 50 (.tmp 101) ?_ ?_ _ Tryz.underlying50 ?_ (ad.add (k * 2)) ([.int .i64 r.1, .int .u64 r.2] : List Value) ?_ ?_ hcc.out ?_)
                   exact rfl
                   exact rfl
                   exact rfl
                   exact size50
                   exact rfl
                   skip)
                | ((with_reducible refine list_al 50 _ new50 ?_ ?_ ?_)
                   exact rfl
                   exact rfl
                   intro w2 g2 hg2 h2 m2 s2
                   replace hg2 := hide hg2; replace h2 := hide h2; replace m2 := hide m2; replace s2 := hide s2)
                | ((with_reducible refine list_put 50 (.tmp 16) (.tmp 102) ?_ ?_ g2 #[.int .i64 r.1, .int .u64 r.2] ?_ ?_ z50 h2.out ?_ ?_ ?_ ?_)
                   exact rfl
                   exact rfl
                   exact rfl
                   exact rfl
                   exact rfl
                   exact size50
                   exact rg_one r
                   intro w3 h3 m3
                   have x0 : w3.cell? ⟨g2, 0, none⟩ = some (.int .i64 r.1) := by rw [cell_of_row w3 _ _ _ 50 (0, 0) h3]; rfl
                   have x1 : w3.cell? ⟨g2, 1, none⟩ = some (.int .u64 r.2) := by rw [cell_of_row w3 _ _ _ 50 (0, 0) h3]; rfl
                   have M3 : Mod (fun _ => False) wr w3 := m2.out.trans m3 (fun k hk e => by have := hg2.out; omega)
                   have hb0 : ∀ j u, ([.int .i64 r.1, .int .u64 r.2] : List Value)[j]? = some u → w3.cell? ((⟨g2, 0, none⟩ : Addr).add j) = some u := fun j u hu => box_cells h3 j u hu
                   have M13 := hR.out.mo.trans M3 (fun _ _ e => e)
                   obtain ⟨⟨y0, y1, y2, y3⟩, -⟩ := hcell.out w3 (R1.out.mod M13)
                   obtain ⟨z0, z1, z2, z3, z4⟩ := outA_cells (M13.heap hcm1.out (fun e => e))
                   have K3 := hR.out.keep M3
                   replace K3 := hide K3
                   replace M3 := hide M3; replace h3 := hide h3; replace m3 := hide m3; replace M13 := hide M13; replace hb0 := hide hb0)
                | ((with_reducible refine list_load 50 (.tmp 16) ?_ ?_ _ Tryz.underlying50 ?_ ⟨g2, 0, none⟩ ([.int .i64 r.1, .int .u64 r.2] : List Value) ?_ ?_ hb0.out ?_)
                   exact rfl
                   exact rfl
                   exact rfl
                   exact size50
                   exact rfl
                   skip)
                | (at_builtin; refine list_app (.tmp 123) (.tmp 125) 46 50 _ 2 16 encR rfl rfl encR_len encR_one Tryz.underlying46 elem50 (.slice A2 n2 c2) l' (some ⟨w3.heap.size, 0, none⟩) 1 1 [r] rfl rfl (K3.out.2.1.1.alloc _) (Rd.box _ _ _ _) (by have := fl.out; simp only [maxLen]; omega) (by have := fl.out; omega) ?_
                   intro v4 w4 r4 g4 a4
                   have R4 := K3.out.addL r hr8.out r4 g4 a4
                   obtain ⟨A4, n4, c4, rfl⟩ := r4.form
                   replace R4 := hide R4; clear r4 g4 a4)
                | (at_builtin; refine list_app (.tmp 103) (.tmp 107) 197 201 _ 2 16 encE rfl rfl encE_len encE_one Tryz.underlying197 elem201 (.slice A1 n1 c1) evs (some ⟨w3.heap.size, 0, none⟩) 1 1 [(r.1, (10757 : Int))] rfl rfl (K3.out.1.1.alloc _) (Rd.box _ _ _ _) (by have := fe.out; simp only [maxLen]; omega) (by have := fe.out; omega) ?_
                   intro v4 w4 r4 g4 a4
                   have R4 := K3.out.addO (r.1, (10757 : Int)) ⟨hr8.out.1, hr8.out.2, u16_57⟩ r4 g4 a4
                   obtain ⟨A4, n4, c4, rfl⟩ := r4.form
                   replace R4 := hide R4; clear r4 g4 a4))
              all_goals exact ⟨⟨k + 1, by omega, rfl, ⟨_, _, _, rfl⟩, ⟨_, _, _, rfl⟩, hide ⟨_, _, R4.out⟩⟩, by simp [intOf]; omega⟩
            · obtain rfl : m = k := by omega
              have q1 : decide ((m : Int) < m) = false := by simp
              obtain ⟨⟨c00, -⟩, -⟩ := hcell.out wr (R1.out.mod hR.out.mo)
              go_wp2_with fail
              obtain ⟨l2, hl2⟩ : ∃ l2, l2 = l'.length := ⟨_, rfl⟩
              go_loopw [17, 133] (fun v x wr => ∃ k : Nat, k ≤ m ∧ x = .int .i64 k ∧ (∃ b, v = .bool b) ∧ Hid (L2 w1 wr m (.slice A1 n1 c1) (.slice A2 n2 c2) evs l')) (fun _ x _ => m - (intOf x).toNat)
              case atStart => exact ⟨0, Nat.zero_le _, rfl, ⟨_, rfl⟩, hR⟩
              case round =>
                clear hR
                obtain ⟨k, hk, rfl, ⟨hit, rfl⟩, hR⟩ := hrel
                by_cases hkm : k < m
                · obtain ⟨ad, rfl, hc⟩ := (hrdr.out wr (R1.out.mod hR.out.mo)).2 k hkm
                  obtain ⟨r, hrk⟩ : ∃ r, r = gi l k := ⟨_, rfl⟩
                  rw [← hrk] at hc
                  have hcc : ∀ j u, ([.int .i64 r.1, .int .u64 r.2] : List Value)[j]? = some u → wr.cell? ((ad.add (k * 2)).add j) = some u := fun j u hu => by rw [addr_add]; exact hc j u hu
                  have q1 : (k : Int) < m := by omega
                  clear hc
                  replace hcc := hide hcc; replace hrk := hide hrk
                  have hcs : hit = true ∨ hit = false ∧ (r.2 == act) = true ∨ hit = false ∧ (r.2 == act) = false := by cases hit <;> cases (r.2 == act) <;> simp
                  rcases hcs with rfl | ⟨rfl, t7⟩ | ⟨rfl, t7⟩
                  all_goals
                    go_wp2_with (first
                    | ((with_reducible refine list_load 50 (.tmp 135) ?_ ?_ _ Tryz.underlying50 ?_ (ad.add (k * 2)) ([.int .i64 r.1, .int .u64 r.2] : List Value) ?_ ?_ hcc.out ?_)
                       exact rfl
                       exact rfl
                       exact rfl
                       exact size50
                       exact rfl
                       skip)
                    | ((with_reducible refine list_al 50 _ new50 ?_ ?_ ?_)
                       exact rfl
                       exact rfl
                       intro w2 g2 hg2 h2 m2 s2
                       replace hg2 := hide hg2; replace h2 := hide h2; replace m2 := hide m2; replace s2 := hide s2)
                    | ((with_reducible refine list_put 50 (.tmp 19) (.tmp 136) ?_ ?_ g2 #[.int .i64 r.1, .int .u64 r.2] ?_ ?_ z50 h2.out ?_ ?_ ?_ ?_)
                       exact rfl
                       exact rfl
                       exact rfl
                       exact rfl
                       exact rfl
                       exact size50
                       exact rg_one r
                       intro w3 h3 m3
                       have x0 : w3.cell? ⟨g2, 0, none⟩ = some (.int .i64 r.1) := by rw [cell_of_row w3 _ _ _ 50 (0, 0) h3]; rfl
                       have x1 : w3.cell? ⟨g2, 1, none⟩ = some (.int .u64 r.2) := by rw [cell_of_row w3 _ _ _ 50 (0, 0) h3]; rfl
                       have M3 : Mod (fun _ => False) wr w3 := m2.out.trans m3 (fun k hk e => by have := hg2.out; omega)
                       have hb0 : ∀ j u, ([.int .i64 r.1, .int .u64 r.2] : List Value)[j]? = some u → w3.cell? ((⟨g2, 0, none⟩ : Addr).add j) = some u := fun j u hu => box_cells h3 j u hu
                       have M13 := hR.out.mo.trans M3 (fun _ _ e => e)
                       obtain ⟨⟨y0, y1, y2, y3⟩, -⟩ := hcell.out w3 (R1.out.mod M13)
                       obtain ⟨z0, z1, z2, z3, z4⟩ := outA_cells (M13.heap hcm1.out (fun e => e))
                       have K3 := hR.out.keep M3
                       replace K3 := hide K3
                       replace M3 := hide M3; replace h3 := hide h3; replace m3 := hide m3; replace M13 := hide M13; replace hb0 := hide hb0))
                  all_goals exact ⟨⟨k + 1, by omega, rfl, ⟨_, rfl⟩, K3⟩, by simp [intOf]; omega⟩
                · obtain rfl : m = k := by omega
                  have q1 : decide ((m : Int) < m) = false := by simp
                  have M1r := hR.out.mo
                  obtain ⟨⟨c00, c11, c22, c33⟩, g00, g11, g22, g33⟩ := hcell.out wr (R1.out.mod M1r)
                  obtain ⟨p0, p1, p2, p3, p4⟩ := outA_cells (M1r.heap hcm1.out (fun e => e))
                  have hT0 := hR.out.table R1.out
                  have h1t : t < w1.heap.size := by have := ht.out; have := m1.out.size; omega
                  have fe : evs.length ≤ N := by have := hR.out.2.2.1; omega
                  have fl : l'.length ≤ N := by have := hR.out.2.2.2.1; omega
                  have fx : NexL l' := hR.out.2.2.2.2.2.1
                  have M0r := m1.out.trans M1r (fun _ _ e => e)
                  replace hng := hng.out
                  replace M0r := hide M0r; replace M1r := hide M1r; replace hT0 := hide hT0; replace h1t := hide h1t; replace fe := hide fe; replace fl := hide fl; replace fx := hide fx; replace hl2 := hide hl2
                  have hT1 := hT0.out.take h1t.out ty n
                  have hk1 : TOk N { T with regs := l', kind := ty, holder := n } := ⟨KindOk.of (hbt.out trivial), fl.out, fx.out, hk0.out.low⟩
                  have hEnd := SvP.back m1.out ((hT1.gen h1t.out ng).fin (v0 := .slice A m c) (N := N) (by have := fe.out; omega) ⟨hk1.kind, hk1.len, hk1.nex, hk1.low⟩)
                  replace hEnd := hide hEnd; replace hT1 := hide hT1; replace hk1 := hide hk1
                  cases hit
                  · go_wp2_with fail
                    go_ret3
                    exact ⟨_, _, _, _, _, rfl, .inr (.inr rfl), SvP.same h.out hk0.out M0r.out⟩
                  · have hk5 : decide (5 ≤ kd) = false ∨ decide (5 ≤ kd) = true ∧ (kd != ty) = false ∨ decide (5 ≤ kd) = true ∧ (kd != ty) = true := by cases decide (5 ≤ kd) <;> cases (kd != ty) <;> simp
                    rcases hk5 with t8 | ⟨t8, t9⟩ | ⟨t8, t9⟩
                    · go_wp2_with fail
                      go_ret3
                      exact ⟨_, _, _, _, _, rfl, .inl rfl, hEnd.out⟩
                    · go_wp2_with fail
                      go_ret3
                      exact ⟨_, _, _, _, _, rfl, .inl rfl, hEnd.out⟩
                    · clear hEnd
                      have hL2 : n2 = l'.length := ((hR.out.2.1.1).rd encR_len rfl).1.symm
                      have hn2 : n2 ≤ 900 := by have := fl.out; omega
                      have hR4 : Hid (L4 t w1 (((wr.setCell ⟨t, 0, none⟩ (.slice A2 n2 c2)).setCell ⟨t, 2, none⟩ (.int .u8 ty)).setCell ⟨t, 3, none⟩ (.int .i64 n)) (.slice A1 n1 c1) (.slice A2 n2 c2) evs { T with regs := l', kind := ty, holder := n }) := hT1
                      replace hL2 := hide hL2; replace hgn := hgn
                      go_wp2_with fail
                      go_loopw [13, 183] (fun u x wr => ∃ k : Nat, k ≤ n2 ∧ x = .int .i64 k ∧ (∃ A n c, u = .slice A n c) ∧ Hid (∃ ev2, ev2.length ≤ N + k ∧ L4 t w1 wr u (.slice A2 n2 c2) ev2 { T with regs := l', kind := ty, holder := n })) (fun _ x _ => n2 - (intOf x).toNat)
                      case atStart => exact ⟨0, Nat.zero_le _, rfl, ⟨_, _, _, rfl⟩, hide ⟨evs, fe.out, hR4.out⟩⟩
                      case round =>
                        clear hR4 hT1 hR hT0 c00 c11 c22 c33 g00 g11 g22 g33 p0 p1 p2 p3 p4
                        obtain ⟨k, hk, rfl, ⟨A5, n5, c5, rfl⟩, hR⟩ := hrel
                        obtain ⟨ev2, fe2, hQ⟩ := hR.out
                        clear hR
                        have hR := hide hQ
                        clear hQ
                        by_cases hkm : k < n2
                        · obtain ⟨ad, rfl, hc⟩ := (hR.out.tab.2.1.rd encR_len rfl).2 k hkm
                          have hr8 : 0 ≤ (gi l' k).1 ∧ (gi l' k).1 < 8 := fx.out.at_ k (by rw [← hL2.out]; exact hkm)
                          have fe3 : ev2.length ≤ 1800 := by omega
                          obtain ⟨r, hrk⟩ : ∃ r, r = gi l' k := ⟨_, rfl⟩
                          have hc : ∀ j u, (encR (gi l' k))[j]? = some u → wr.cell? (ad.add (k * 2 + j)) = some u := hc
                          rw [← hrk] at hc hr8
                          have hcc : ∀ j u, ([.int .i64 r.1, .int .u64 r.2] : List Value)[j]? = some u → wr.cell? ((ad.add (k * 2)).add j) = some u := fun j u hu => by rw [addr_add]; exact hc j u hu
                          have q1 : (k : Int) < n2 := by omega
                          clear hc
                          replace hcc := hide hcc; replace hrk := hide hrk; replace hr8 := hide hr8; replace fe2 := hide fe2; replace fe3 := hide fe3
                          cases hb : (r.1 != n)
                          all_goals
                            replace hb := hide hb
                            have hbb := hb.out
                            go_wp2_with (first
                            | ((with_reducible refine list_load 50 (.tmp 185) ?_ ?_ _ Tryz.underlying50 ?_ (ad.add (k * 2)) ([.int .i64 r.1, .int .u64 r.2] : List Value) ?_ ?_ hcc.out ?_)
                               exact rfl
                               exact rfl
                               exact rfl
                               exact size50
                               exact rfl
                               skip)
                            | ((with_reducible refine list_al 50 _ new50 ?_ ?_ ?_)
                               exact rfl
                               exact rfl
                               intro w2 g2 hg2 h2 m2 s2
                               replace hg2 := hide hg2; replace h2 := hide h2; replace m2 := hide m2; replace s2 := hide s2)
                            | ((with_reducible refine list_put 50 (.tmp 22) (.tmp 186) ?_ ?_ g2 #[.int .i64 r.1, .int .u64 r.2] ?_ ?_ z50 h2.out ?_ ?_ ?_ ?_)
                               exact rfl
                               exact rfl
                               exact rfl
                               exact rfl
                               exact rfl
                               exact size50
                               exact rg_one r
                               intro w3 h3 m3
                               have x0 : w3.cell? ⟨g2, 0, none⟩ = some (.int .i64 r.1) := by rw [cell_of_row w3 _ _ _ 50 (0, 0) h3]; rfl
                               have x1 : w3.cell? ⟨g2, 1, none⟩ = some (.int .u64 r.2) := by rw [cell_of_row w3 _ _ _ 50 (0, 0) h3]; rfl
                               have M3 : Mod (fun _ => False) wr w3 := m2.out.trans m3 (fun k hk e => by have := hg2.out; omega)
                               have hb0 : ∀ j u, ([.int .i64 r.1, .int .u64 r.2] : List Value)[j]? = some u → w3.cell? ((⟨g2, 0, none⟩ : Addr).add j) = some u := fun j u hu => box_cells h3 j u hu
                               have R3 := hR.out.keep M3
                               replace M3 := hide M3; replace h3 := hide h3; replace m3 := hide m3; replace R3 := hide R3; replace hb0 := hide hb0)
                            | (at_builtin; refine list_app (.tmp 191) (.tmp 195) 197 201 _ 2 16 encE rfl rfl encE_len encE_one Tryz.underlying197 elem201 (.slice A5 n5 c5) ev2 (some ⟨w3.heap.size, 0, none⟩) 1 1 [(r.1, (10756 : Int))] rfl rfl (R3.out.row.alloc _) (Rd.box _ _ _ _) (by have := fe3.out; simp only [maxLen]; omega) (by have := fe3.out; omega) ?_
                               intro v4 w4 r4 g4 a4
                               have R4 := R3.out.add (r.1, (10756 : Int)) ⟨hr8.out.1, hr8.out.2, u16_56⟩ r4 g4 a4 h1t.out
                               obtain ⟨A4, n4, c4, rfl⟩ := r4.form
                               replace R4 := hide R4; clear r4 g4 a4))
                          · exact ⟨⟨k + 1, by omega, rfl, ⟨_, _, _, rfl⟩, hide ⟨ev2, by have := fe2.out; omega, R3.out⟩⟩, by simp [intOf]; omega⟩
                          · exact ⟨⟨k + 1, by omega, rfl, ⟨_, _, _, rfl⟩, hide ⟨ev2 ++ [(r.1, (10756 : Int))], by have := fe2.out; simp; omega, R4.out⟩⟩, by simp [intOf]; omega⟩
                        · obtain rfl : n2 = k := by omega
                          have q1 : decide ((n2 : Int) < n2) = false := by simp
                          have c11 := hR.out.tab.1.cells.2.1
                          have g11 := hR.out.tab.1.fr 1
                          have hc11 : wr.cell? ⟨t, 1, none⟩ = some (.int .u32 gn) := by rw [hgn.out]; exact c11
                          have hEnd := SvP.back m1.out ((hR.out.gen h1t.out ng).fin (v0 := .slice A m c) (N := N) (by have := hL2.out; have := fl.out; omega) ⟨hk1.out.kind, hk1.out.len, hk1.out.nex, hk1.out.low⟩)
                          clear c11
                          replace hEnd := hide hEnd
                          go_wp2_with fail
                          go_ret3
                          exact ⟨_, _, _, _, _, rfl, .inl rfl, hEnd.out⟩
end Go.Proofs.YtjkpelbhhapebaaGreatDoor
