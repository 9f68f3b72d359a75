/-
  The table's preempt, walked. Conditions: the table stands in memory as the unit lets it be. The table's preempt, of any table, and Do, walked. Conditions: the table stands in memory as the unit lets it be; the nexus is one of eight.
-/
import Derived.Test.YtjkpelbhhapebaaGreatDoorTPreL
import Derived.Test.YtjkpelbhhapebaaGreatDoorTPreA
import Derived.Test.YtjkpelbhhapebaaGreatDoorTPreC
namespace Go.Proofs.YtjkpelbhhapebaaGreatDoor
open Go.RowKit
set_option maxRecDepth 100000
set_option maxHeartbeats 16000000 in
theorem preempt_d (t : Nat) (n sv ty key act : Int) (v : Value) (T : Tb) (N : Nat) (w : World) (h : TR w t v T) (hk : TOk N T) (hN : N ≤ 900) (hX : (T.kind == 7 || T.kind == 8) = true ∧ (act == 0) = false) :
    Calls Tryz.prog 129 #[.pointer (some ⟨t, 0, none⟩), .int .i64 n, .agg (outA sv ty key act)] w (SvR t w v N) := by
  have ht := h.1.lt
  have hl := hk.len
  have hN8 := hk.nex
  have hall := fun W => all_any T.kind hk.kind W
  have hty := fun W => types_any ty W
  obtain ⟨A, m, c, rfl⟩ := h.2.1.form
  have hlen : T.regs.length = m := (h.2.1.rd encR_len rfl).1
  obtain ⟨kd, hkd⟩ : ∃ kd, kd = T.kind := ⟨_, rfl⟩
  obtain ⟨gn, hgn⟩ : ∃ gn, gn = T.gen := ⟨_, rfl⟩
  obtain ⟨ho, hho⟩ : ∃ ho, ho = T.holder := ⟨_, rfl⟩
  obtain ⟨l, hl0⟩ : ∃ l, l = T.regs := ⟨_, rfl⟩
  obtain ⟨ab, hab⟩ : ∃ ab, ab = (kd == 7 || kd == 8) := ⟨_, rfl⟩
  obtain ⟨ng, hng⟩ : ∃ ng, IntKind.u32.wrap (gn + 1) = ng := ⟨_, rfl⟩
  have hcell : ∀ W, TR W t (.slice A m c) T → (W.cell? ⟨t, 0, none⟩ = some (.slice A m c) ∧ W.cell? ⟨t, 1, none⟩ = some (.int .u32 gn) ∧ W.cell? ⟨t, 2, none⟩ = some (.int .u8 kd) ∧ W.cell? ⟨t, 3, none⟩ = some (.int .i64 ho)) ∧ W.frozen? ⟨t, 0, none⟩ = false ∧ W.frozen? ⟨t, 1, none⟩ = false ∧ W.frozen? ⟨t, 2, none⟩ = false ∧ W.frozen? ⟨t, 3, none⟩ = false := fun W q => by
    rw [hkd, hgn, hho]
    exact ⟨⟨q.1.cells.1, q.1.cells.2.1, q.1.cells.2.2.1, q.1.cells.2.2.2.1⟩, q.1.fr 0, q.1.fr 1, q.1.fr 2, q.1.fr 3⟩
  have hrdr : ∀ W, TR W t (.slice A m c) T → Rd W 2 encR A m l := fun W q => by rw [hl0]; exact q.2.1.rd encR_len rfl
  rw [← hkd, ← hab] at hall
  rw [← hl0] at hlen hl hN8
  have hlm : m ≤ 900 := by omega
  have hmN : m ≤ N := by omega
  replace ht := hide ht; replace hlen := hide hlen; replace hN8 := hide hN8; replace hall := hide hall; replace hty := hide hty; replace hcell := hide hcell; replace hrdr := hide hrdr; replace h := hide h; have hk0 := hk; replace hk0 := hide hk0; clear hk; replace hab := hide hab; replace hng := hide hng; replace hkd := hide hkd; replace hgn := hide hgn; replace hho := hide hho; replace hl0 := hide hl0
  obtain ⟨hX, a0⟩ := hX
  obtain rfl : ab = true := by rw [hab.out, hkd.out]; exact hX
  clear hX
  go_enter Tryz.func129, Tryz.ntmps129
  go_wp2_with (first
    | (refine list_box 43 (.tmp 2) rfl rfl (outA sv ty key act) rfl ?_
       intro w1 g hg hcm1 m1 hz
       obtain ⟨o0, o1, o2, o3, o4⟩ := outA_cells hcm1
       have R1 := h.out.mod m1
       obtain ⟨⟨c0, c1, c2, c3⟩, f0, f1, f2, f3⟩ := hcell.out w1 R1
       replace hcm1 := hide hcm1; replace m1 := hide m1; replace hz := hide hz; replace hg := hide hg; replace R1 := hide R1))
  go_quiet ((go_at_call 64; exact (hall.out _).mono fun e w' h => ⟨h.1, _, h.2.symm⟩))
  go_wp2_with fail
  go_loopw [9, 38] (fun v x wr => ∃ k : Nat, k ≤ m ∧ x = .int .i64 k ∧ v = .bool false ∧ Hid (Mod (fun _ => False) w1 wr)) (fun _ x _ => m - (intOf x).toNat)
  case atStart => exact ⟨0, Nat.zero_le _, rfl, rfl, hide ((Mod.refl _ w1).drewN _)⟩
  case round =>
    obtain ⟨k, hk, rfl, rfl, hR⟩ := hrel
    by_cases hkm : k < m
    · obtain ⟨ad, rfl, hc⟩ := (hrdr.out wr (R1.out.mod hR.out)).2 k hkm
      obtain ⟨r, hrk⟩ : ∃ r, r = gi l k := ⟨_, rfl⟩
      rw [← hrk] at hc
      have hcc : ∀ j u, ([.int .i64 r.1, .int .u64 r.2] : List Value)[j]? = some u → wr.cell? ((ad.add (k * 2)).add j) = some u := fun j u hu => by rw [addr_add]; exact hc j u hu
      have q1 : (k : Int) < m := by omega
      clear hc
      replace hcc := hide hcc; replace hrk := hide hrk
      have hcs : (kd != 0) = false ∨ (kd != 0) = true := by cases (kd != 0) <;> simp
      rcases hcs with t1 | t1
      all_goals
        go_wp2_with (first
        | ((with_reducible refine list_load 50 (.tmp 40) ?_ ?_ _ Tryz.underlying50 ?_ (ad.add (k * 2)) ([.int .i64 r.1, .int .u64 r.2] : List Value) ?_ ?_ hcc.out ?_)
           exact rfl
           exact rfl
           exact rfl
           exact size50
           exact rfl
           skip)
        | ((with_reducible refine list_al 50 _ new50 ?_ ?_ ?_)
           exact rfl
           exact rfl
           intro w2 g2 hg2 h2 m2 s2
           replace hg2 := hide hg2; replace h2 := hide h2; replace m2 := hide m2; replace s2 := hide s2)
        | ((with_reducible refine list_put 50 (.tmp 12) (.tmp 41) ?_ ?_ g2 #[.int .i64 r.1, .int .u64 r.2] ?_ ?_ z50 h2.out ?_ ?_ ?_ ?_)
           exact rfl
           exact rfl
           exact rfl
           exact rfl
           exact rfl
           exact size50
           exact rg_one r
           intro w3 h3 m3
           have x0 : w3.cell? ⟨g2, 0, none⟩ = some (.int .i64 r.1) := by rw [cell_of_row w3 _ _ _ 50 (0, 0) h3]; rfl
           have x1 : w3.cell? ⟨g2, 1, none⟩ = some (.int .u64 r.2) := by rw [cell_of_row w3 _ _ _ 50 (0, 0) h3]; rfl
           have M3 : Mod (fun _ => False) wr w3 := m2.out.trans m3 (fun k hk e => by have := hg2.out; omega)
           have hb0 : ∀ j u, ([.int .i64 r.1, .int .u64 r.2] : List Value)[j]? = some u → w3.cell? ((⟨g2, 0, none⟩ : Addr).add j) = some u := fun j u hu => box_cells h3 j u hu
           have M13 := hR.out.trans M3 (fun _ _ e => e)
           obtain ⟨⟨y0, y1, y2, y3⟩, -⟩ := hcell.out w3 (R1.out.mod M13)
           obtain ⟨z0, z1, z2, z3, z4⟩ := outA_cells (M13.heap hcm1.out (fun e => e))
           replace M3 := hide M3; replace h3 := hide h3; replace m3 := hide m3; replace M13 := hide M13; replace hb0 := hide hb0))
        refine wp_region_quiet_lit (by kernel_rfl) (by kernel_rfl) ?_
        refine quiet_gen ?_
        intro Z hy hn hz
        repeat (first
          | (refine hn _ _ _ (by rfl) ?_; simp only [Act.put, List.setIfInBounds_toArray, List.set_cons_zero, List.set_cons_succ])
          | (refine hy _ _ _ (by kernel_rfl) ?_; go_simp; first | (apply Exists.intro; refine ⟨fun _ => ?_, ?_⟩; (go_at_call 64; exact (hall.out _).mono fun e w' h => ⟨h.1, _, h.2.symm⟩)) | skip))
        refine hz _ ?_
        intro _ hw'
        obtain ⟨nq, hw''⟩ := hw'
        subst hw''
        go_wp2_with fail
      all_goals exact ⟨⟨k + 1, by omega, rfl, rfl, hide (M13.out.drewN _)⟩, by simp [intOf]; omega⟩
    · obtain rfl : m = k := by omega
      have q1 : decide ((m : Int) < m) = false := by simp
      obtain ⟨⟨c00, c11, c22, c33⟩, -⟩ := hcell.out wr (R1.out.mod hR.out)
      obtain ⟨p0, p1, p2, p3, p4⟩ := outA_cells (hR.out.heap hcm1.out (fun e => e))
      go_wp2_with fail
      have hP2 : Hid (∃ evs l', L2 w1 wr 0 (.slice none 0 0) (.slice none 0 0) evs l') := hide ⟨[], [], L2.nil w1 hR.out⟩
      go_loopw [13, 14, 99] (fun u v x wr => ∃ k : Nat, k ≤ m ∧ x = .int .i64 k ∧ (∃ A n c, u = .slice A n c) ∧ (∃ A n c, v = .slice A n c) ∧ Hid (∃ evs l', L2 w1 wr k u v evs l')) (fun _ _ x _ => m - (intOf x).toNat)
      case atStart => exact ⟨0, Nat.zero_le _, rfl, ⟨_, _, _, rfl⟩, ⟨_, _, _, rfl⟩, hP2⟩
      case round =>
        clear hP2 hR
        obtain ⟨k, hk, rfl, ⟨A1, n1, c1, rfl⟩, ⟨A2, n2, c2, rfl⟩, hR⟩ := hrel
        obtain ⟨evs, l', hR⟩ := hR.out
        replace hR := hide hR
        by_cases hkm : k < m
        · obtain ⟨ad, rfl, hc⟩ := (hrdr.out wr (R1.out.mod hR.out.mo)).2 k hkm
          have hr8 := hN8.out.at_ k (by rw [hlen.out]; exact hkm)
          have fe : evs.length ≤ 900 := by have := hR.out.2.2.1; omega
          have fl : l'.length ≤ 900 := by have := hR.out.2.2.2.1; omega
          replace fe := hide fe; replace fl := hide fl
          obtain ⟨r, hrk⟩ : ∃ r, r = gi l k := ⟨_, rfl⟩
          rw [← hrk] at hc
          have hcc : ∀ j u, ([.int .i64 r.1, .int .u64 r.2] : List Value)[j]? = some u → wr.cell? ((ad.add (k * 2)).add j) = some u := fun j u hu => by rw [addr_add]; exact hc j u hu
          have q1 : (k : Int) < m := by omega
          rw [← hrk] at hr8
          clear hc
          replace hr8 := hide hr8
          replace hcc := hide hcc; replace hrk := hide hrk
          have hcs : (r.1 == n) = true ∨ (r.1 == n) = false ∧ (r.2 != act) = true ∨ (r.1 == n) = false ∧ (r.2 != act) = false := by cases (r.1 == n) <;> cases (r.2 != act) <;> simp
          rcases hcs with t5 | ⟨t5, t6⟩ | ⟨t5, t6⟩
          all_goals
            go_wp2_with (first
            | ((with_reducible refine list_load 50 (.tmp 101) ?_ ?_ _ Tryz.underlying50 ?_ (ad.add (k * 2)) ([.int .i64 r.1, .int .u64 r.2] : List Value) ?_ ?_ hcc.out ?_)
               exact rfl
               exact rfl
               exact rfl
               exact size50
               exact rfl
               skip)
            | ((with_reducible refine list_al 50 _ new50 ?_ ?_ ?_)
               exact rfl
               exact rfl
               intro w2 g2 hg2 h2 m2 s2
               replace hg2 := hide hg2; replace h2 := hide h2; replace m2 := hide m2; replace s2 := hide s2)
            | ((with_reducible refine list_put 50 (.tmp 16) (.tmp 102) ?_ ?_ g2 #[.int .i64 r.1, .int .u64 r.2] ?_ ?_ z50 h2.out ?_ ?_ ?_ ?_)
               exact rfl
               exact rfl
               exact rfl
               exact rfl
               exact rfl
               exact size50
               exact rg_one r
               intro w3 h3 m3
               have x0 : w3.cell? ⟨g2, 0, none⟩ = some (.int .i64 r.1) := by rw [cell_of_row w3 _ _ _ 50 (0, 0) h3]; rfl
               have x1 : w3.cell? ⟨g2, 1, none⟩ = some (.int .u64 r.2) := by rw [cell_of_row w3 _ _ _ 50 (0, 0) h3]; rfl
               have M3 : Mod (fun _ => False) wr w3 := m2.out.trans m3 (fun k hk e => by have := hg2.out; omega)
               have hb0 : ∀ j u, ([.int .i64 r.1, .int .u64 r.2] : List Value)[j]? = some u → w3.cell? ((⟨g2, 0, none⟩ : Addr).add j) = some u := fun j u hu => box_cells h3 j u hu
               have M13 := hR.out.mo.trans M3 (fun _ _ e => e)
               obtain ⟨⟨y0, y1, y2, y3⟩, -⟩ := hcell.out w3 (R1.out.mod M13)
               obtain ⟨z0, z1, z2, z3, z4⟩ := outA_cells (M13.heap hcm1.out (fun e => e))
               have K3 := hR.out.keep M3
               replace K3 := hide K3
               replace M3 := hide M3; replace h3 := hide h3; replace m3 := hide m3; replace M13 := hide M13; replace hb0 := hide hb0)
            | ((with_reducible refine list_load 50 (.tmp 16) ?_ ?_ _ Tryz.underlying50 ?_ ⟨g2, 0, none⟩ ([.int .i64 r.1, .int .u64 r.2] : List Value) ?_ ?_ hb0.out ?_)
               exact rfl
               exact rfl
               exact rfl
               exact size50
               exact rfl
               skip)
            | (at_builtin; refine list_app (.tmp 123) (.tmp 125) 46 50 _ 2 16 encR rfl rfl encR_len encR_one Tryz.underlying46 elem50 (.slice A2 n2 c2) l' (some ⟨w3.heap.size, 0, none⟩) 1 1 [r] rfl rfl (K3.out.2.1.1.alloc _) (Rd.box _ _ _ _) (by have := fl.out; simp only [maxLen]; omega) (by have := fl.out; omega) ?_
               intro v4 w4 r4 g4 a4
               have R4 := K3.out.addL r hr8.out r4 g4 a4
               obtain ⟨A4, n4, c4, rfl⟩ := r4.form
               replace R4 := hide R4; clear r4 g4 a4)
            | (at_builtin; refine list_app (.tmp 103) (.tmp 107) 197 201 _ 2 16 encE rfl rfl encE_len encE_one Tryz.underlying197 elem201 (.slice A1 n1 c1) evs (some ⟨w3.heap.size, 0, none⟩) 1 1 [(r.1, (10757 : Int))] rfl rfl (K3.out.1.1.alloc _) (Rd.box _ _ _ _) (by have := fe.out; simp only [maxLen]; omega) (by have := fe.out; omega) ?_
               intro v4 w4 r4 g4 a4
               have R4 := K3.out.addO (r.1, (10757 : Int)) ⟨hr8.out.1, hr8.out.2, u16_57⟩ r4 g4 a4
               obtain ⟨A4, n4, c4, rfl⟩ := r4.form
               replace R4 := hide R4; clear r4 g4 a4))
          all_goals exact ⟨⟨k + 1, by omega, rfl, ⟨_, _, _, rfl⟩, ⟨_, _, _, rfl⟩, hide ⟨_, _, R4.out⟩⟩, by simp [intOf]; omega⟩
        · obtain rfl : m = k := by omega
          have q1 : decide ((m : Int) < m) = false := by simp
          obtain ⟨⟨c00, -⟩, -⟩ := hcell.out wr (R1.out.mod hR.out.mo)
          go_wp2_with fail
          obtain ⟨l2, hl2⟩ : ∃ l2, l2 = l'.length := ⟨_, rfl⟩
          go_loopw [17, 133] (fun v x wr => ∃ k : Nat, k ≤ m ∧ x = .int .i64 k ∧ (∃ b, v = .bool b) ∧ Hid (L2 w1 wr m (.slice A1 n1 c1) (.slice A2 n2 c2) evs l')) (fun _ x _ => m - (intOf x).toNat)
          case atStart => exact ⟨0, Nat.zero_le _, rfl, ⟨_, rfl⟩, hR⟩
          case round =>
            clear hR
            obtain ⟨k, hk, rfl, ⟨hit, rfl⟩, hR⟩ := hrel
            by_cases hkm : k < m
            · obtain ⟨ad, rfl, hc⟩ := (hrdr.out wr (R1.out.mod hR.out.mo)).2 k hkm
              obtain ⟨r, hrk⟩ : ∃ r, r = gi l k := ⟨_, rfl⟩
              rw [← hrk] at hc
              have hcc : ∀ j u, ([.int .i64 r.1, .int .u64 r.2] : List Value)[j]? = some u → wr.cell? ((ad.add (k * 2)).add j) = some u := fun j u hu => by rw [addr_add]; exact hc j u hu
              have q1 : (k : Int) < m := by omega
              clear hc
              replace hcc := hide hcc; replace hrk := hide hrk
              have hcs : hit = true ∨ hit = false ∧ (r.2 == act) = true ∨ hit = false ∧ (r.2 == act) = false := by cases hit <;> cases (r.2 == act) <;> simp
              rcases hcs with rfl | ⟨rfl, t7⟩ | ⟨rfl, t7⟩
              all_goals
                go_wp2_with (first
                | ((with_reducible refine list_load 50 (.tmp 135) ?_ ?_ _ Tryz.underlying50 ?_ (ad.add (k * 2)) ([.int .i64 r.1, .int .u64 r.2] : List Value) ?_ ?_ hcc.out ?_)
                   exact rfl
                   exact rfl
                   exact rfl
                   exact size50
                   exact rfl
                   skip)
                | ((with_reducible refine list_al 50 _ new50 ?_ ?_ ?_)
                   exact rfl
                   exact rfl
                   intro w2 g2 hg2 h2 m2 s2
                   replace hg2 := hide hg2; replace h2 := hide h2; replace m2 := hide m2; replace s2 := hide s2)
                | ((with_reducible refine list_put 50 (.tmp 19) (.tmp 136) ?_ ?_ g2 #[.int .i64 r.1, .int .u64 r.2] ?_ ?_ z50 h2.out ?_ ?_ ?_ ?_)
                   exact rfl
                   exact rfl
                   exact rfl
                   exact rfl
                   exact rfl
                   exact size50
                   exact rg_one r
                   intro w3 h3 m3
                   have x0 : w3.cell? ⟨g2, 0, none⟩ = some (.int .i64 r.1) := by rw [cell_of_row w3 _ _ _ 50 (0, 0) h3]; rfl
                   have x1 : w3.cell? ⟨g2, 1, none⟩ = some (.int .u64 r.2) := by rw [cell_of_row w3 _ _ _ 50 (0, 0) h3]; rfl
                   have M3 : Mod (fun _ => False) wr w3 := m2.out.trans m3 (fun k hk e => by have := hg2.out; omega)
                   have hb0 : ∀ j u, ([.int .i64 r.1, .int .u64 r.2] : List Value)[j]? = some u → w3.cell? ((⟨g2, 0, none⟩ : Addr).add j) = some u := fun j u hu => box_cells h3 j u hu
                   have M13 := hR.out.mo.trans M3 (fun _ _ e => e)
                   obtain ⟨⟨y0, y1, y2, y3⟩, -⟩ := hcell.out w3 (R1.out.mod M13)
                   obtain ⟨z0, z1, z2, z3, z4⟩ := outA_cells (M13.heap hcm1.out (fun e => e))
                   have K3 := hR.out.keep M3
                   replace K3 := hide K3
                   replace M3 := hide M3; replace h3 := hide h3; replace m3 := hide m3; replace M13 := hide M13; replace hb0 := hide hb0))
              all_goals exact ⟨⟨k + 1, by omega, rfl, ⟨_, rfl⟩, K3⟩, by simp [intOf]; omega⟩
            · obtain rfl : m = k := by omega
              have q1 : decide ((m : Int) < m) = false := by simp
              have M1r := hR.out.mo
              obtain ⟨⟨c00, c11, c22, c33⟩, g00, g11, g22, g33⟩ := hcell.out wr (R1.out.mod M1r)
              obtain ⟨p0, p1, p2, p3, p4⟩ := outA_cells (M1r.heap hcm1.out (fun e => e))
              have hT0 := hR.out.table R1.out
              have h1t : t < w1.heap.size := by have := ht.out; have := m1.out.size; omega
              have fe : evs.length ≤ N := by have := hR.out.2.2.1; omega
              have fl : l'.length ≤ N := by have := hR.out.2.2.2.1; omega
              have fx : NexL l' := hR.out.2.2.2.2.2.1
              have M0r := m1.out.trans M1r (fun _ _ e => e)
              replace hng := hng.out
              replace M0r := hide M0r; replace M1r := hide M1r; replace hT0 := hide hT0; replace h1t := hide h1t; replace fe := hide fe; replace fl := hide fl; replace fx := hide fx; replace hl2 := hide hl2
              have hEnd := SvP.back m1.out ((hT0.out.gen h1t.out ng).fin (v0 := .slice A m c) (N := N) (by have := fe.out; omega) ⟨hk0.out.kind, fl.out, fx.out, hk0.out.low⟩)
              replace hEnd := hide hEnd
              cases hit
              · go_wp2_with fail
                go_ret3
                exact ⟨_, _, _, _, _, rfl, .inr (.inr rfl), SvP.same h.out hk0.out M0r.out⟩
              · go_wp2_with fail
                go_ret3
                exact ⟨_, _, _, _, _, rfl, .inl rfl, hEnd.out⟩
end Go.Proofs.YtjkpelbhhapebaaGreatDoor
namespace Go.Proofs.YtjkpelbhhapebaaGreatDoor
open Go.RowKit
set_option maxRecDepth 100000
theorem preempt_any (t : Nat) (n sv ty key act : Int) (v : Value) (T : Tb) (N : Nat) (w : World) (h : TR w t v T) (hk : TOk N T) (hN : N ≤ 900) :
    Calls Tryz.prog 129 #[.pointer (some ⟨t, 0, none⟩), .int .i64 n, .agg (outA sv ty key act)] w (SvR t w v N) := by
  cases e : (T.kind == 7 || T.kind == 8)
  · exact preempt_a t n sv ty key act v T N w h hk hN e
  · cases e2 : (act == 0)
    · exact preempt_d t n sv ty key act v T N w h hk hN ⟨e, e2⟩
    · exact preempt_c t n sv ty key act v T N w h hk hN ⟨e, e2⟩
theorem size43 : (Tryz.prog.info? 43).map (·.size) = some 5 := by kernel_rfl
theorem SvS.back {t : Nat} {w w1 : World} {v : Value} {N : Nat} (m : Mod (fun _ => False) w w1) {e : Ending} {W : World} (h : SvS t w1 v N e W) : SvS t w v N e W := by
  obtain ⟨A, k, c, h1, h2⟩ := h
  exact ⟨A, k, c, h1, h2.back m⟩
theorem SvR.back {t : Nat} {w w1 : World} {v : Value} {N : Nat} (m : Mod (fun _ => False) w w1) {e : Ending} {W : World} (h : SvR t w1 v N e W) : SvR t w v N e W := by
  obtain ⟨st, code, A, k, c, h1, h2, h3⟩ := h
  exact ⟨st, code, A, k, c, h1, h2, h3.back m⟩
set_option maxHeartbeats 8000000 in
theorem tdo_any (t : Nat) (n sv ty key act : Int) (v : Value) (T : Tb) (N : Nat) (w : World) (h : TR w t v T) (hk : TOk N T) (hN : N ≤ 900) (hn8 : 0 ≤ n ∧ n < 8) (hsv : 0 ≤ sv ∧ sv ≤ 6) :
    Calls Tryz.prog 92 #[.pointer (some ⟨t, 0, none⟩), .int .i64 n, .agg (outA sv ty key act)] w (SvR t w v N) := by
  obtain ⟨kb, hkb⟩ : ∃ kb, kb = (tkey T.regs n).2 := ⟨_, rfl⟩
  obtain ⟨kv, hkv⟩ : ∃ kv, kv = (tkey T.regs n).1 := ⟨_, rfl⟩
  have hkey := fun W (m : Mod (fun _ => False) w W) => key_any t n v T W (h.mod m).1 (h.mod m).2.1 (Nat.le_trans hk.len (by omega))
  rw [← hkb, ← hkv] at hkey
  clear hkb hkv
  have hreg := fun W (m : Mod (fun _ => False) w W) => (register_any t n sv ty key act kb v T N W (h.mod m) hk hN hn8).mono fun e W' q => SvS.back m q
  have hres := fun W (m : Mod (fun _ => False) w W) => (reserve_any t n sv ty key act v T N W (h.mod m) hk (by omega)).mono fun e W' q => SvR.back m q
  have hrel := fun W (m : Mod (fun _ => False) w W) => (release_any t n sv ty key act v T N W (h.mod m) hk (by omega)).mono fun e W' q => SvR.back m q
  have hclr := fun W (m : Mod (fun _ => False) w W) => (clear_any t n v T N W (h.mod m) hk (by omega)).mono fun e W' q => SvS.back m q
  have hpre := fun W (m : Mod (fun _ => False) w W) => (preempt_any t n sv ty key act v T N W (h.mod m) hk hN).mono fun e W' q => SvR.back m q
  have hsame : ∀ W, Mod (fun _ => False) w W → SvP t w v N (.slice none 0 0) W := fun W m => SvP.same h hk m
  have dn0 : decide (n < 0) = false := by simp; omega
  have dn8 : decide (8 ≤ n) = false := by simp; omega
  have ds6 : decide (6 < sv) = false := by simp; omega
  clear h hk
  replace hkey := hide hkey; replace hreg := hide hreg; replace hres := hide hres; replace hrel := hide hrel; replace hclr := hide hclr; replace hpre := hide hpre; replace hsame := hide hsame
  have hkk : (key != kv) = true ∨ (key != kv) = false := by cases (key != kv) <;> simp
  have hs7 : sv = 6 ∨ sv = 0 ∨ sv = 1 ∨ sv = 2 ∨ sv = 3 ∨ sv = 4 ∨ sv = 5 := by omega
  clear hsv hn8
  rcases hs7 with rfl | rfl | rfl | rfl | rfl | rfl | rfl
  all_goals
    cases kb
    all_goals
      rcases hkk with hkk | hkk
      all_goals
        go_enter Tryz.func92, Tryz.ntmps92
        go_wp2_with (first
          | (refine list_box 43 (.tmp 2) rfl rfl (outA _ ty key act) rfl ?_
             intro w1 g hg hcm1 m1 hz
             obtain ⟨o0, o1, o2, o3, o4⟩ := outA_cells hcm1
             have hky := hkey.out w1 m1
             replace hcm1 := hide hcm1; replace m1 := hide m1; replace hz := hide hz; replace hg := hide hg; replace hky := hide hky)
          | (go_at_call 51; (with_reducible refine hky.out.mono ?_); rintro e w2 ⟨rfl, m2⟩
             have M2 := m1.out.trans m2 (fun _ _ e => e)
             have hcm2 := m2.heap hcm1.out (fun e => e)
             obtain ⟨p0, p1, p2, p3, p4⟩ := outA_cells hcm2
             have h125 := hreg.out w2 M2
             have h126 := hres.out w2 M2
             have h127 := hrel.out w2 M2
             have h128 := hclr.out w2 M2
             have h129 := hpre.out w2 M2
             replace hcm2 := hide hcm2; replace m2 := hide m2; replace M2 := hide M2; replace h125 := hide h125; replace h126 := hide h126; replace h127 := hide h127; replace h128 := hide h128; replace h129 := hide h129)
          | (refine list_whole 43 (.tmp 5) rfl rfl ⟨g, 0, none⟩ (outA _ ty key act) rfl (load_whole hcm2.out Tryz.underlying43 rfl size43) ?_)
          | (go_at_call 125; (with_reducible refine h125.out.mono ?_); rintro e w3 ⟨A3, k3, c3, rfl, q3⟩; replace q3 := hide q3)
          | (go_at_call 128; (with_reducible refine h128.out.mono ?_); rintro e w3 ⟨A3, k3, c3, rfl, q3⟩; replace q3 := hide q3)
          | (go_at_call 126; (with_reducible refine h126.out.mono ?_); rintro e w3 ⟨st3, code3, A3, k3, c3, rfl, s3, q3⟩; replace q3 := hide q3; replace s3 := hide s3)
          | (go_at_call 127; (with_reducible refine h127.out.mono ?_); rintro e w3 ⟨st3, code3, A3, k3, c3, rfl, s3, q3⟩; replace q3 := hide q3; replace s3 := hide s3)
          | (go_at_call 129; (with_reducible refine h129.out.mono ?_); rintro e w3 ⟨st3, code3, A3, k3, c3, rfl, s3, q3⟩; replace q3 := hide q3; replace s3 := hide s3))
        go_ret3
        first
        | exact ⟨_, _, _, _, _, rfl, s3.out, q3.out⟩
        | exact ⟨_, _, _, _, _, rfl, .inl rfl, q3.out⟩
        | exact ⟨_, _, _, _, _, rfl, .inr (.inr rfl), hsame.out _ M2.out⟩
end Go.Proofs.YtjkpelbhhapebaaGreatDoor
