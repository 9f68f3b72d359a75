/-
  The walk of TopProtects. No condition.
-/
import Derived.Test.YtjkpelbhhapebaaGreatDoorPWrl
import Derived.Deep.CutRange
namespace Go.Proofs.YtjkpelbhhapebaaGreatDoor
open Go.RowKit
set_option maxRecDepth 100000
namespace topProtects
set_option maxHeartbeats 16000000 in
theorem walk0 (kp keep : Int) (A : Option Addr) (len cap : Nat) (l : List Wr) (w : World) (hkp : 0 ≤ kp ∧ kp ≤ 255) (hke : 0 ≤ keep ∧ keep ≤ 65535) (hr : Rd w 5 encW A len l) (hb : ∀ x ∈ l, OkWr w x) :
    Calls Tryz.prog 5 #[.int .u8 kp, .slice A len cap, .int .u16 keep] w fun e w' => e = .returned (.bool true) ∧ Below w.heap.size w w' := by
  obtain ⟨B, hB⟩ : ∃ B, B = w.heap.size := ⟨_, rfl⟩
  rw [← hB]
  have haw := awake_any w
  have hl : l.length = len := hr.1
  have hrB : ∀ W, Below B w W → Rd W 5 encW A len l := fun W h => by subst hB; exact hr.below h
  have hbB : ∀ W, Below B w W → ∀ x ∈ l, Rd W 1 (ic .u8) x.A x.m x.l := fun W h x hx => by subst hB; exact (hb x hx).2.2.2.2.2.below h
  obtain ⟨r, hr3⟩ : ∃ r, kp % 3 = r := ⟨_, rfl⟩
  obtain ⟨prot, hpr⟩ : ∃ prot, prot = 1 + r := ⟨_, rfl⟩
  have hk : 0 ≤ prot ∧ prot ≤ 3 := by omega
  have hk0 : 0 < prot := by omega
  have wp : IntKind.u8.wrap (1 + r) = prot := by rw [u8wrap]; omega
  replace haw := hide haw; replace hr := hide hr; replace hb := hide hb; replace hrB := hide hrB; replace hbB := hide hbB; replace hl := hide hl; replace hB := hide hB; replace hpr := hide hpr
  go_enter Tryz.func5, Tryz.ntmps5
  go_wp2_with (first
    | (go_at_call 7; (with_reducible refine haw.out.mono ?_); rintro e w1 ⟨rfl, m1⟩
       have hnew := wu_new w1 B (by rw [hB.out]; exact m1.size)
       replace m1 := hide m1; replace hnew := hide hnew)
    | (go_at_call 9; (with_reducible refine hnew.out.mono ?_); rintro e w2 ⟨b, F, rfl, hW2, m2, hF2⟩
       have hBs : B ≤ w.heap.size := Nat.le_of_eq hB.out
       have q1 : Below B w w1 := m1.out.below hBs (fun _ h => h.elim)
       have q2 : Below B w w2 := q1.trans (m2.below (Nat.le_trans hBs m1.out.size) (fun _ h => h.elim))
       have hwh := PI.new (w0 := w) F wx0 hW2 (WI.new prot) hk (by decide) q2
       clear hF2
       replace hwh := hide hwh; replace hW2 := hide hW2; replace m2 := hide m2; replace q1 := hide q1; replace q2 := hide q2)
    | (go_at_call 8; (with_reducible refine hwh.out.mono ?_); rintro e w3 ⟨u, rfl, hP, m3⟩
       replace hP := hide hP; replace m3 := hide m3))
  clear haw hnew hwh hW2 q1 q2 m1 m2 m3
  go_loopw [10] (fun v wr => ∃ i : Nat, i ≤ len ∧ i ≤ 40 ∧ v = .int .i64 i ∧ Hid (∃ E, PI B u b prot (2 + 13 * i) w E wr)) (fun v _ => 40 - (intOf v).toNat)
  case atStart => exact ⟨0, Nat.zero_le _, by omega, rfl, hide ⟨_, hP.out⟩⟩
  case round =>
    obtain ⟨i, hi, hi2, rfl, hR⟩ := hrel
    clear hP
    obtain ⟨E, hC⟩ := hR.out
    clear hR
    by_cases hlt : i < len ∧ i < 40
    · obtain ⟨hlt, h40⟩ := hlt
      obtain ⟨ad, rfl, hc⟩ := (hrB.out wr hC.bel).2 i hlt
      obtain ⟨x, hx⟩ : ∃ x, x = gi l i := ⟨_, rfl⟩
      have hxm : x ∈ l := by
        rw [hx, gi_eq l i (by rw [hl.out]; exact hlt)]
        exact List.getElem_mem _
      have hxb : OkWr w x := hb.out _ hxm
      have hxd := fun W h => hbB.out W h x hxm
      rw [← hx] at hc
      have hcc : ∀ j u, ([.int .u8 x.kd, .int .u8 x.lba, .int .u8 x.n, .int .u8 x.fill, .slice x.A x.m x.c] : List Value)[j]? = some u → wr.cell? ((ad.add (i * 5)).add j) = some u := fun j u hu => by rw [addr_add]; exact hc j u hu
      clear hc hx hxm
      obtain ⟨hx1, hx2, hx3, hx4, hx6, -⟩ := hxb
      obtain ⟨a, ea⟩ : ∃ a : Nat, (a : Int) = x.lba % 32 := ⟨(x.lba % 32).toNat, by omega⟩
      have ha : a < 32 := by omega
      have wl : IntKind.i64.wrap x.lba = x.lba := IntWalk.i64_in _ (by omega)
      have wn : IntKind.i64.wrap x.n = x.n := IntWalk.i64_in _ (by omega)
      have el : x.lba % 32 = (a : Int) := ea.symm
      have hml : (x.l).length = x.m := (hxd w (Below.refl _ _)).1
      clear ea
      have q1 : (i : Int) < len := by omega
      have q2 : (i : Int) < 40 := by omega
      replace hcc := hide hcc; replace hC := hide hC; replace hxd := hide hxd; replace hx6 := hide hx6; replace hml := hide hml
      obtain ⟨xkd, xl, xn, xf, xA, xm, xc, xd⟩ := x
      dsimp only at *
      obtain ⟨mm, hmm⟩ : ∃ mm : Int, mm = if (32 : Int) - a < 4 then (32 : Int) - a else (4 : Int) := ⟨_, rfl⟩
      have hmm2 : 1 ≤ mm ∧ mm ≤ 4 ∧ mm ≤ 32 - a := by
        rw [hmm]
        split <;> omega
      have hm1 := Int.emod_nonneg xn (show mm ≠ 0 by omega)
      have hm2 := Int.emod_lt_of_pos xn (show 0 < mm by omega)
      obtain ⟨n, en⟩ : ∃ n : Nat, (n : Int) = 1 + xn % mm := ⟨(1 + xn % mm).toNat, by omega⟩
      have hn1 : 1 ≤ n ∧ n ≤ 4 ∧ a + n ≤ 32 := by omega
      replace hmm := hide hmm; replace en := hide en
      clear hmm2 hm1 hm2
      go_upto_region 12 with (first
        | (refine list_load 54 (.tmp 44) rfl rfl _ Tryz.underlying54 rfl (ad.add (i * 5)) [.int .u8 xkd, .int .u8 xl, .int .u8 xn, .int .u8 xf, .slice xA xm xc] size54 rfl hcc.out ?_)
        | (refine list_al 54 _ new54 rfl rfl ?_
           intro w4 g4 hg4 h4 m4 z4
           replace hg4 := hide hg4; replace h4 := hide h4; replace m4 := hide m4; replace z4 := hide z4)
        | (refine list_put 54 (.tmp 11) (.tmp 45) rfl rfl g4 (caW ⟨xkd, xl, xn, xf, xA, xm, xc, xd⟩) rfl rfl z54 h4.out rfl size54 (caW_one _) ?_
           intro w5 h5 m5
           replace h5 := hide h5; replace m5 := hide m5))
      have hC5 : Hid (PI B u b prot (2 + 13 * i) w E w5) := hide (hC.out.keep (m4.out.trans m5.out (fun k hk e => by have := hg4.out; omega)))
      obtain ⟨k0, k1, k2, k3, k4⟩ := caW_cells h5.out
      dsimp only at k0 k1 k2 k3 k4
      go_upto_region 13 with fail
      (try go_frame)
      rw [el]
      go_cut [13] from 32 to 118 (fun v13 wx => v13 = .int .i64 n ∧ wx = w5)
      case first =>
        have hcs : ((32 : Int) - a < 4) ∧ wrap64 (1 + xn % (32 - (a : Int))) = n ∨ (¬ (32 : Int) - a < 4) ∧ wrap64 (1 + xn % 4) = n := by
          have h1 := hmm.out
          have h2 := en.out
          have hw1 : wrap64 (n : Int) = n := IntWalk.wrap64_in _ (by omega)
          by_cases h3 : (32 : Int) - a < 4
          · rw [if_pos h3] at h1
            exact .inl ⟨h3, by rw [← h1, ← h2]; exact hw1⟩
          · rw [if_neg h3] at h1
            exact .inr ⟨h3, by rw [← h1, ← h2]; exact hw1⟩
        have hp1 : 0 < (32 : Int) - a := by omega
        rcases hcs with ⟨e1, e2⟩ | ⟨e1, e2⟩
        all_goals
          go_wp2_with fail
          go_meet
          exact ⟨by first | rfl | rw [e2] | exact int_eq (by have h1 := hmm.out; have h2 := en.out; rw [h2, h1, if_neg (show ¬ (32 : Int) - a < 4 by omega)]), rfl⟩
      case rest =>
        obtain ⟨rfl, hwc⟩ := hcut
        obtain rfl : w5 = wc := hwc.symm
        have hsx := sixteen_all xA xm xc xd xf w5 (hxd.out w5 hC5.out.bel)
        have hsb := sixt_bytes xd xf hx6.out hx4 16
        have hsl := sixt_len xd xf 16
        generalize sixt xd xf 16 = sx at *
        replace hsx := hide hsx; replace hsb := hide hsb; replace hsl := hide hsl
        go_upto_region 17 with (first
          | (go_at_call 13; (with_reducible refine hsx.out.mono ?_); rintro e w6 ⟨g6, rfl, r6, hg6, m6⟩
             replace r6 := hide r6; replace hg6 := hide hg6; replace m6 := hide m6))
        have hP : Hid (Row w6 5 1 (ic .u8) (.slice none 0 0) (repL sx 0) ∧ Mod (fun _ => False) w6 w6 ∧ ∀ j, (Value.slice none 0 0).ownBlock = some j → w6.heap.size ≤ j) := hide ⟨Row.nil _ _ _ _, Mod.refl _ _, by simp [Value.ownBlock]⟩
        go_loopw [15, 16] (fun p v ws => ∃ j : Nat, j ≤ n ∧ v = .int .i64 j ∧ (∃ A m c, p = .slice A m c) ∧ Hid (Row ws 5 1 (ic .u8) p (repL sx j) ∧ Mod (fun _ => False) w6 ws ∧ ∀ j, p.ownBlock = some j → w6.heap.size ≤ j)) (fun _ v _ => n - (intOf v).toNat)
        case atStart => exact ⟨0, by omega, rfl, ⟨_, _, _, rfl⟩, hP⟩
        case round =>
          obtain ⟨j, hj, rfl, ⟨A7, m7, c7, rfl⟩, hR⟩ := hrel
          clear hP
          by_cases hjn : j < n
          · have hone : Rd wr 1 (ic .u8) (some ⟨g6, 0, none⟩) 16 sx := (r6.out.rd (ic_len _) rfl).mod hR.out.2.1 (fun _ _ h => h)
            replace hone := hide hone
            have q3 : (j : Int) < n := by omega
            go_wp2_with (first
              | (at_builtin; refine list_app (.tmp 68) (.tmp 69) 22 5 _ 1 1 (ic .u8) rfl rfl (ic_len _) (ic_one _) Tryz.underlying22 elemU8 (.slice A7 m7 c7) (repL sx j) (some ⟨g6, 0, none⟩) 16 16 sx ?_ ?_ hR.out.1 hone.out ?_ ?_ ?_
                 (rfl)
                 (rfl)
                 (rw [repL_len _ _ hsl.out]; simp [maxLen]; omega)
                 (rw [repL_len _ _ hsl.out]; omega)
                 intro v8 w8 r8 gr8 a8
                 rw [repL_snoc] at r8
                 obtain ⟨A8, n8, c8, rfl⟩ := r8.form
                 replace r8 := hide r8; replace gr8 := hide gr8; replace a8 := hide a8))
            go_roundw
            case rel =>
              have M8 := hR.out.2.1.grown gr8.out (fun k hk => .inr (hR.out.2.2 k hk))
              refine ⟨j + 1, by omega, by go_num, ⟨_, _, _, rfl⟩, hide ⟨r8.out, M8, fun k hk => ?_⟩⟩
              rcases a8.out with e | e <;> rw [e] at hk
              · exact hR.out.2.2 k hk
              · have := hR.out.2.1.size
                simp at hk
                omega
            case measure => simp [intOf]; omega
          · obtain rfl : n = j := by omega
            have q3 : decide ((n : Int) < n) = false := by simp
            have hlen := repL_len sx n hsl.out
            obtain ⟨pb, pc, hv, hpc, hpm⟩ := row_at hR.out.1 (by rw [hlen]; omega)
            obtain ⟨rfl, hm7, rfl⟩ : A7 = some ⟨pb, 0, none⟩ ∧ m7 = (repL sx n).length ∧ pc = c7 := by injection hv with a b c; exact ⟨a, b, c.symm⟩
            rw [hlen] at hm7 hpc
            clear hv
            have M5 : Mod (fun _ => False) w5 wr := m6.out.trans hR.out.2.1 (fun _ _ h => h)
            have hpb5 : w5.heap.size ≤ pb := by have := hR.out.2.2 pb rfl; have := m6.out.size; omega
            have hpd : Rd wr 1 (ic .u8) (some ⟨pb, 0, none⟩) m7 (repL sx n) := hR.out.1.rd (ic_len _) rfl
            have hon : Rd wr 1 (ic .u8) (some ⟨g6, 0, none⟩) 16 sx := (r6.out.rd (ic_len _) rfl).mod hR.out.2.1 (fun _ _ h => h)
            have hrb := repL_bytes sx n hsb.out
            have x0 := M5.cell k0 (fun h => h)
            have x2 := M5.cell k2 (fun h => h)
            generalize repL sx n = pl at *
            replace M5 := hide M5; replace hpb5 := hide hpb5; replace hpd := hide hpd; replace hon := hide hon; replace hrb := hide hrb; replace hpc := hide hpc; replace hpm := hide hpm; replace hm7 := hide hm7; replace hlen := hide hlen
            clear hR k0 k1 k2 k3 k4
            have ho3 : ∀ W, Calls Tryz.prog 11 #[.int .u8 145, .int .u8 0, .int .i64 0, .int .i64 0] W _ := fun W => onb_any 145 0 0 0 W (by decide) (by decide)
            replace ho3 := hide ho3
            have hcs : xkd % 5 = 0 ∨ xkd % 5 = 1 ∨ xkd % 5 = 2 ∨ xkd % 5 = 3 ∨ xkd % 5 = 4 ∧ xn % 2 = 0 ∨ xkd % 5 = 4 ∧ xn % 2 = 1 := by omega
            rcases hcs with e5 | e5 | e5 | e5 | ⟨e5, e2⟩ | ⟨e5, e2⟩
            · go_wp2_with (first
                | (go_at_call 11; (with_reducible refine (onb_any _ _ a n _ (by omega) (by omega)).mono ?_); rintro e w9 ⟨rfl, h9, m9⟩
                   have M9 : Mod (fun _ => False) w5 w9 := M5.out.trans m9 (fun _ _ h => h)
                   have hdo : Calls Tryz.prog 10 #[_, .int .i64 0, _, _] _ _ := hC5.out.write M9 (by omega) hk 0 wr.heap.size a n pb pc m7 0 false pl (by decide) flag0 (by omega) (by omega) (rd_block (k := .u8) (l := onB 138 0 a n) h9 rfl) (.inr M5.out.size) (hpd.out.mod m9 (fun _ _ h => h)) (.inr hpb5.out) hm7.out (by rw [hm7.out]; exact hpc.out) hpm.out hrb.out
                   replace hdo := hide hdo; replace h9 := hide h9; replace m9 := hide m9; replace M9 := hide M9)
                | (go_at_call 10; (with_reducible refine hdo.out.mono ?_); rintro e w10 ⟨A10, n10, c10, Q10, rfl, -, -, hC10, -⟩
                   replace hC10 := hide hC10))
              go_roundw
              case rel => exact ⟨i + 1, by omega, by omega, by go_num, hide ⟨_, hC10.out.mono (by omega)⟩⟩
              case measure => simp [intOf]; omega
            · go_wp2_with (first
                | (go_at_call 11; (with_reducible refine (onb_any _ _ a n _ (by omega) (by omega)).mono ?_); rintro e w9 ⟨rfl, h9, m9⟩
                   have M9 : Mod (fun _ => False) w5 w9 := M5.out.trans m9 (fun _ _ h => h)
                   have hdo : Calls Tryz.prog 10 #[_, .int .i64 0, _, _] _ _ := hC5.out.write M9 (by omega) hk 0 wr.heap.size a n pb pc m7 8 true pl (by decide) flag8 (by omega) (by omega) (rd_block (k := .u8) (l := onB 138 8 a n) h9 rfl) (.inr M5.out.size) (hpd.out.mod m9 (fun _ _ h => h)) (.inr hpb5.out) hm7.out (by rw [hm7.out]; exact hpc.out) hpm.out hrb.out
                   replace hdo := hide hdo; replace h9 := hide h9; replace m9 := hide m9; replace M9 := hide M9)
                | (go_at_call 10; (with_reducible refine hdo.out.mono ?_); rintro e w10 ⟨A10, n10, c10, Q10, rfl, -, -, hC10, -⟩
                   replace hC10 := hide hC10))
              go_roundw
              case rel => exact ⟨i + 1, by omega, by omega, by go_num, hide ⟨_, hC10.out.mono (by omega)⟩⟩
              case measure => simp [intOf]; omega
            · go_wp2_with (first
                | (go_at_call 11; (with_reducible refine (onb_any _ _ a n _ (by omega) (by omega)).mono ?_); rintro e w9 ⟨rfl, h9, m9⟩
                   have M9 : Mod (fun _ => False) w5 w9 := M5.out.trans m9 (fun _ _ h => h)
                   have hdo : Calls Tryz.prog 10 #[_, .int .i64 0, _, .slice none 0 0] _ _ := hC5.out.read M9 (by omega) hk 0 wr.heap.size a n 32 1 (.slice none 0 0) (by decide) flag32 (by omega) ⟨by decide, .inr ⟨hk0, by decide⟩⟩ (rd_block (k := .u8) (l := onB 136 32 a n) h9 rfl) (.inr M5.out.size)
                   replace hdo := hide hdo; replace h9 := hide h9; replace m9 := hide m9; replace M9 := hide M9)
                | (go_at_call 10; (with_reducible refine hdo.out.mono ?_); rintro e w10 ⟨A10, n10, c10, Q10, rfl, r10, ⟨S10, hS10, rfl⟩, hC10, -⟩
                   have hQl : (packL ((1 : Int) != 0) (blks (S10.x.file sd) a n)).length = n * 24 := by
                     have := packT_len _ (blks_all hS10 a n (by omega))
                     rw [blks_len] at this
                     exact this
                   obtain ⟨p2, pc2, hv2, hpc2, hpm2⟩ := row_at r10 (by rw [hQl]; omega)
                   obtain ⟨rfl, hn10, rfl⟩ : A10 = some ⟨p2, 0, none⟩ ∧ n10 = (packL ((1 : Int) != 0) (blks (S10.x.file sd) a n)).length ∧ pc2 = c10 := by injection hv2 with a b c; exact ⟨a, b, c.symm⟩
                   rw [hQl] at hn10 hpc2
                   have hr10 : Rd w10 1 (ic .u8) (some ⟨p2, 0, none⟩) n10 (packL true (blks (S10.x.file sd) a n)) := r10.rd (ic_len _) rfl
                   have hgd := good_res 0 0 0 0 false (some ⟨p2, 0, none⟩) n10 pc2
                   clear hv2
                   replace hC10 := hide hC10; replace hgd := hide hgd; replace hr10 := hide hr10; replace hQl := hide hQl; replace hn10 := hide hn10; replace hpc2 := hide hpc2; replace hpm2 := hide hpm2; replace r10 := hide r10; replace hS10 := hide hS10)
                | ((with_reducible refine list_al 35 _ new35' ?_ ?_ ?_)
                   exact rfl
                   exact rfl
                   intro w11 g11 hg11 h11 m11 s11
                   replace hg11 := hide hg11; replace h11 := hide h11; replace m11 := hide m11; replace s11 := hide s11)
                | ((with_reducible refine list_put 35 (.tmp 17) (.tmp 103) ?_ ?_ g11 (rcA 0 0 0 0 false (.slice (some ⟨p2, 0, none⟩) n10 pc2)) ?_ ?_ zs35 h11.out ?_ ?_ ?_ ?_)
                   exact rfl
                   exact rfl
                   exact rfl
                   exact rfl
                   exact rfl
                   exact size35
                   exact rc_one _ _ _ _ _ _ _ _
                   intro w12 h12 m12
                   have m1012 : Mod (fun _ => False) w10 w12 := m11.out.trans m12 (fun k hk e => by have := hg11.out; omega)
                   replace h12 := hide h12; replace m12 := hide m12; replace m1012 := hide m1012)
                | ((with_reducible refine list_load 35 (.tmp 17) ?_ ?_ _ Tryz.underlying35 ?_ ⟨g11, 0, none⟩ (rcA 0 0 0 0 false (.slice (some ⟨p2, 0, none⟩) n10 pc2)).toList ?_ ?_ ?_ ?_)
                   exact rfl
                   exact rfl
                   exact rfl
                   exact size35
                   exact rfl
                   exact fun j x hx => box_cells h12.out j x hx
                   skip)
                | (go_at_call 12; (with_reducible refine (hgd.out _).mono ?_); rintro e w13 ⟨rfl, m13⟩
                   have m1013 : Mod (fun _ => False) w10 w13 := m1012.out.trans m13 (fun _ _ h => h)
                   have hS13 : w13.cell? ⟨g11, 9, none⟩ = some (.slice (some ⟨p2, 0, none⟩) n10 pc2) := by rw [cell_of_row w13 _ _ _ 35 (0, 0) (m13.heap h12.out (fun e => e))]; rfl
                   replace hS13 := hide hS13; replace m1013 := hide m1013; replace m13 := hide m13))
              go_region_held3 (fun w' => w'.cell? ⟨g11, 9, none⟩ = some (.slice (some ⟨p2, 0, none⟩) n10 pc2))
                (first | exact hS13.out | exact hS14.out | exact hS15.out)
                (first
                | (go_at_call 11; (with_reducible refine (onb_any _ _ a n _ (by omega) (by omega)).mono ?_); rintro e w14 ⟨rfl, h14, m14⟩
                   have M14 : Mod (fun _ => False) w13 w14 := ((Mod.refl (fun _ => False) w13).drew).trans m14 (fun _ _ h => h)
                   have hS14 : w14.cell? ⟨g11, 9, none⟩ = some (.slice (some ⟨p2, 0, none⟩) n10 pc2) := M14.cell hS13.out (fun h => h)
                   have hdo : Calls Tryz.prog 10 #[_, .int .i64 0, _, _] _ _ := hC10.out.writeT (m1013.out.trans M14 (fun _ _ h => h)) (by omega) hk hk0 0 w13.heap.size a n p2 pc2 n10 32 1 S10.x (by decide) flag32 (by decide) (by omega) (by omega) (rd_block (k := .u8) (l := onB 138 32 a n) h14 rfl) (.inr m1013.out.size) hS10.out (hr10.out.mod (m1013.out.trans M14 (fun _ _ h => h)) (fun _ _ h => h)) hn10.out (.inl rfl) (by rw [hn10.out]; exact hpc2.out) hpm2.out
                   replace hdo := hide hdo; replace h14 := hide h14; replace m14 := hide m14; replace M14 := hide M14; replace hS14 := hide hS14)
                | (go_at_call 10; (with_reducible refine hdo.out.mono ?_); rintro e w15 ⟨A15, n15, c15, Q15, rfl, -, -, hC15, hK15⟩
                   have hS15 : w15.cell? ⟨g11, 9, none⟩ = some (.slice (some ⟨p2, 0, none⟩) n10 pc2) := by rw [cell_of_row w15 _ _ _ 35 (0, 0) (hK15 g11 _ (.inr (by have := hg11.out; omega)) (M14.out.heap (m13.out.heap h12.out (fun e => e)) (fun e => e)))]; rfl
                   replace hC15 := hide hC15; replace hS15 := hide hS15; clear hK15))
              go_wp2_with fail
              go_roundw
              case rel => exact ⟨i + 1, by omega, by omega, by go_num, hide ⟨_, hC15.out.mono (by omega)⟩⟩
              case measure => simp [intOf]; omega
            · go_wp2_with (first
                | (go_at_call 11; (with_reducible refine (ho3.out _).mono ?_); rintro e w9 ⟨rfl, h9, m9⟩
                   have M9 : Mod (fun _ => False) w5 w9 := M5.out.trans m9 (fun _ _ h => h)
                   have hdo : Calls Tryz.prog 10 #[_, .int .i64 0, _, .slice none 0 0] _ _ := hC5.out.sync M9 (by omega) hk 0 wr.heap.size (.slice none 0 0) (by decide) (rd_block (k := .u8) (l := onB 145 0 0 0) h9 rfl) (.inr M5.out.size)
                   replace hdo := hide hdo; replace h9 := hide h9; replace m9 := hide m9; replace M9 := hide M9)
                | (go_at_call 10; (with_reducible refine hdo.out.mono ?_); rintro e w10 ⟨A10, n10, c10, Q10, rfl, -, -, hC10, -⟩
                   replace hC10 := hide hC10))
              go_roundw
              case rel => exact ⟨i + 1, by omega, by omega, by go_num, hide ⟨_, hC10.out.mono (by omega)⟩⟩
              case measure => simp [intOf]; omega
            · go_wp2_with (first
                | (go_at_call 11; (with_reducible refine (onb_any _ _ a n _ (by omega) (by omega)).mono ?_); rintro e w9 ⟨rfl, h9, m9⟩
                   have M9 : Mod (fun _ => False) w5 w9 := M5.out.trans m9 (fun _ _ h => h)
                   have hdo : Calls Tryz.prog 10 #[_, .int .i64 0, _, _] _ _ := hC5.out.same M9 (by omega) hk 0 wr.heap.size a n g6 16 0 false sx (by decide) flagS0 (by omega) (by omega) (rd_block (k := .u8) (l := onB 147 0 a n) h9 rfl) (.inr M5.out.size) (hon.out.mod m9 (fun _ _ h => h)) (.inr hg6.out) (by decide) (by decide) hsb.out
                   replace hdo := hide hdo; replace h9 := hide h9; replace m9 := hide m9; replace M9 := hide M9)
                | (go_at_call 10; (with_reducible refine hdo.out.mono ?_); rintro e w10 ⟨A10, n10, c10, Q10, rfl, -, -, hC10, -⟩
                   replace hC10 := hide hC10))
              go_roundw
              case rel => exact ⟨i + 1, by omega, by omega, by go_num, hide ⟨_, hC10.out.mono (by omega)⟩⟩
              case measure => simp [intOf]; omega
            · go_wp2_with (first
                | (go_at_call 11; (with_reducible refine (onb_any _ _ a n _ (by omega) (by omega)).mono ?_); rintro e w9 ⟨rfl, h9, m9⟩
                   have M9 : Mod (fun _ => False) w5 w9 := M5.out.trans m9 (fun _ _ h => h)
                   have hdo : Calls Tryz.prog 10 #[_, .int .i64 0, _, _] _ _ := hC5.out.same M9 (by omega) hk 0 wr.heap.size a n g6 16 8 true sx (by decide) flagS8 (by omega) (by omega) (rd_block (k := .u8) (l := onB 147 8 a n) h9 rfl) (.inr M5.out.size) (hon.out.mod m9 (fun _ _ h => h)) (.inr hg6.out) (by decide) (by decide) hsb.out
                   replace hdo := hide hdo; replace h9 := hide h9; replace m9 := hide m9; replace M9 := hide M9)
                | (go_at_call 10; (with_reducible refine hdo.out.mono ?_); rintro e w10 ⟨A10, n10, c10, Q10, rfl, -, -, hC10, -⟩
                   replace hC10 := hide hC10))
              go_roundw
              case rel => exact ⟨i + 1, by omega, by omega, by go_num, hide ⟨_, hC10.out.mono (by omega)⟩⟩
              case measure => simp [intOf]; omega
    · have hC0 := hC
      have hcx : ¬ (i : Int) < len ∨ (i : Int) < len ∧ ¬ (i : Int) < 40 := by omega
      obtain ⟨kn, rfl⟩ : ∃ kn : Nat, keep = kn := ⟨keep.toNat, by omega⟩
      have wk : IntKind.i64.wrap (kn : Int) = kn := IntWalk.i64_in _ (by omega)
      have hcr := hC.crash (by omega) hk kn
      have ho5 : ∀ f W, Calls Tryz.prog 11 #[.int .u8 136, .int .u8 f, .int .i64 0, .int .i64 32] W _ := fun f W => onb_any 136 f 0 32 W (by decide) (by decide)
      replace hC := hide hC; replace hC0 := hide hC0; replace hcr := hide hcr; replace ho5 := hide ho5
      rcases hcx with hc1 | ⟨hc1, hc2⟩
      all_goals
        go_upto_region 37 with (first
          | (go_at_call 15; (with_reducible refine hcr.out.mono ?_); rintro e w4 ⟨rfl, F4, x4, hW4, hx4, hb4⟩
             have hwh := PI.new (w0 := w) F4 x4 hW4 hx4 hk (by omega) hb4
             replace hwh := hide hwh; replace hW4 := hide hW4; replace hx4 := hide hx4; replace hb4 := hide hb4)
          | (go_at_call 8; (with_reducible refine hwh.out.mono ?_); rintro e w5 ⟨u5, rfl, hP5, m5⟩
             replace hP5 := hide hP5; replace m5 := hide m5))
        clear hcr hwh hW4 hx4 hb4 m5 hC0 hC
        go_loopw [19] (fun v ws => ∃ q : Nat, q ≤ 5 ∧ v = .int .i64 q ∧ Hid (∃ E, PI B u5 b prot (2 + 13 * i + 2 + 32 * q) w E ws)) (fun v _ => 5 - (intOf v).toNat)
        case atStart => exact ⟨0, Nat.zero_le _, rfl, hide ⟨_, hP5.out⟩⟩
        case round =>
          obtain ⟨q, hq, rfl, hR⟩ := hrel
          clear hP5
          obtain ⟨E5, hC5⟩ := hR.out
          clear hR
          by_cases hq5 : q < 5
          · replace hC5 := hide hC5
            rcases (by omega : q = 0 ∨ q = 1 ∨ q = 2 ∨ q = 3 ∨ q = 4) with rfl | rfl | rfl | rfl | rfl
            · go_wp2_with (first
                | (go_at_call 11; (with_reducible refine (ho5.out _ _).mono ?_); rintro e w9 ⟨rfl, h9, m9⟩
                   have hdo : Calls Tryz.prog 10 #[_, .int .i64 0, _, .slice none 0 0] _ _ := hC5.out.read m9 (by omega) hk 0 wr.heap.size 0 32 0 0 (.slice none 0 0) (by decide) flag0 (by decide) ⟨by decide, .inl rfl⟩ (rd_block (k := .u8) (l := onB 136 0 0 32) h9 rfl) (.inr (Nat.le_refl _))
                   replace hdo := hide hdo; replace h9 := hide h9; replace m9 := hide m9)
                | (go_at_call 10; (with_reducible refine hdo.out.mono ?_); rintro e w10 ⟨A10, n10, c10, Q10, rfl, -, -, hC10, -⟩
                   have hgd := good_res 0 0 0 0 false A10 n10 c10
                   replace hC10 := hide hC10; replace hgd := hide hgd)
                | ((with_reducible refine list_al 35 _ new35' ?_ ?_ ?_)
                   exact rfl
                   exact rfl
                   intro w11 g11 hg11 h11 m11 s11
                   replace hg11 := hide hg11; replace h11 := hide h11; replace m11 := hide m11; replace s11 := hide s11)
                | ((with_reducible refine list_put 35 (.tmp 20) (.tmp 137) ?_ ?_ g11 (rcA 0 0 0 0 false (.slice A10 n10 c10)) ?_ ?_ zs35 h11.out ?_ ?_ ?_ ?_)
                   exact rfl
                   exact rfl
                   exact rfl
                   exact rfl
                   exact rfl
                   exact size35
                   exact rc_one _ _ _ _ _ _ _ _
                   intro w12 h12 m12
                   have m1012 : Mod (fun _ => False) w10 w12 := m11.out.trans m12 (fun k hk e => by have := hg11.out; omega)
                   replace h12 := hide h12; replace m12 := hide m12; replace m1012 := hide m1012)
                | ((with_reducible refine list_load 35 (.tmp 20) ?_ ?_ _ Tryz.underlying35 ?_ ⟨g11, 0, none⟩ (rcA 0 0 0 0 false (.slice A10 n10 c10)).toList ?_ ?_ ?_ ?_)
                   exact rfl
                   exact rfl
                   exact rfl
                   exact size35
                   exact rfl
                   exact fun j x hx => box_cells h12.out j x hx
                   skip)
                | (go_at_call 12; (with_reducible refine (hgd.out _).mono ?_); rintro e w13 ⟨rfl, m13⟩
                   have hC13 := hC10.out.keep (m1012.out.trans m13 (fun _ _ h => h))
                   replace hC13 := hide hC13; replace m13 := hide m13))
              go_roundw
              case rel => exact ⟨0 + 1, by omega, by go_num, hide ⟨_, hC13.out.mono (by omega)⟩⟩
              case measure => simp [intOf]
            · go_wp2_with (first
                | (go_at_call 11; (with_reducible refine (ho5.out _ _).mono ?_); rintro e w9 ⟨rfl, h9, m9⟩
                   have hdo : Calls Tryz.prog 10 #[_, .int .i64 0, _, .slice none 0 0] _ _ := hC5.out.read m9 (by omega) hk 0 wr.heap.size 0 32 32 1 (.slice none 0 0) (by decide) flag32 (by decide) ⟨by decide, .inr ⟨hk0, by decide⟩⟩ (rd_block (k := .u8) (l := onB 136 32 0 32) h9 rfl) (.inr (Nat.le_refl _))
                   replace hdo := hide hdo; replace h9 := hide h9; replace m9 := hide m9)
                | (go_at_call 10; (with_reducible refine hdo.out.mono ?_); rintro e w10 ⟨A10, n10, c10, Q10, rfl, -, -, hC10, -⟩
                   have hgd := good_res 0 0 0 0 false A10 n10 c10
                   replace hC10 := hide hC10; replace hgd := hide hgd)
                | ((with_reducible refine list_al 35 _ new35' ?_ ?_ ?_)
                   exact rfl
                   exact rfl
                   intro w11 g11 hg11 h11 m11 s11
                   replace hg11 := hide hg11; replace h11 := hide h11; replace m11 := hide m11; replace s11 := hide s11)
                | ((with_reducible refine list_put 35 (.tmp 20) (.tmp 137) ?_ ?_ g11 (rcA 0 0 0 0 false (.slice A10 n10 c10)) ?_ ?_ zs35 h11.out ?_ ?_ ?_ ?_)
                   exact rfl
                   exact rfl
                   exact rfl
                   exact rfl
                   exact rfl
                   exact size35
                   exact rc_one _ _ _ _ _ _ _ _
                   intro w12 h12 m12
                   have m1012 : Mod (fun _ => False) w10 w12 := m11.out.trans m12 (fun k hk e => by have := hg11.out; omega)
                   replace h12 := hide h12; replace m12 := hide m12; replace m1012 := hide m1012)
                | ((with_reducible refine list_load 35 (.tmp 20) ?_ ?_ _ Tryz.underlying35 ?_ ⟨g11, 0, none⟩ (rcA 0 0 0 0 false (.slice A10 n10 c10)).toList ?_ ?_ ?_ ?_)
                   exact rfl
                   exact rfl
                   exact rfl
                   exact size35
                   exact rfl
                   exact fun j x hx => box_cells h12.out j x hx
                   skip)
                | (go_at_call 12; (with_reducible refine (hgd.out _).mono ?_); rintro e w13 ⟨rfl, m13⟩
                   have hC13 := hC10.out.keep (m1012.out.trans m13 (fun _ _ h => h))
                   replace hC13 := hide hC13; replace m13 := hide m13))
              go_roundw
              case rel => exact ⟨1 + 1, by omega, by go_num, hide ⟨_, hC13.out.mono (by omega)⟩⟩
              case measure => simp [intOf]
            · go_wp2_with (first
                | (go_at_call 11; (with_reducible refine (ho5.out _ _).mono ?_); rintro e w9 ⟨rfl, h9, m9⟩
                   have hdo : Calls Tryz.prog 10 #[_, .int .i64 0, _, .slice none 0 0] _ _ := hC5.out.read m9 (by omega) hk 0 wr.heap.size 0 32 64 2 (.slice none 0 0) (by decide) flag64 (by decide) ⟨by decide, .inr ⟨hk0, by decide⟩⟩ (rd_block (k := .u8) (l := onB 136 64 0 32) h9 rfl) (.inr (Nat.le_refl _))
                   replace hdo := hide hdo; replace h9 := hide h9; replace m9 := hide m9)
                | (go_at_call 10; (with_reducible refine hdo.out.mono ?_); rintro e w10 ⟨A10, n10, c10, Q10, rfl, -, -, hC10, -⟩
                   have hgd := good_res 0 0 0 0 false A10 n10 c10
                   replace hC10 := hide hC10; replace hgd := hide hgd)
                | ((with_reducible refine list_al 35 _ new35' ?_ ?_ ?_)
                   exact rfl
                   exact rfl
                   intro w11 g11 hg11 h11 m11 s11
                   replace hg11 := hide hg11; replace h11 := hide h11; replace m11 := hide m11; replace s11 := hide s11)
                | ((with_reducible refine list_put 35 (.tmp 20) (.tmp 137) ?_ ?_ g11 (rcA 0 0 0 0 false (.slice A10 n10 c10)) ?_ ?_ zs35 h11.out ?_ ?_ ?_ ?_)
                   exact rfl
                   exact rfl
                   exact rfl
                   exact rfl
                   exact rfl
                   exact size35
                   exact rc_one _ _ _ _ _ _ _ _
                   intro w12 h12 m12
                   have m1012 : Mod (fun _ => False) w10 w12 := m11.out.trans m12 (fun k hk e => by have := hg11.out; omega)
                   replace h12 := hide h12; replace m12 := hide m12; replace m1012 := hide m1012)
                | ((with_reducible refine list_load 35 (.tmp 20) ?_ ?_ _ Tryz.underlying35 ?_ ⟨g11, 0, none⟩ (rcA 0 0 0 0 false (.slice A10 n10 c10)).toList ?_ ?_ ?_ ?_)
                   exact rfl
                   exact rfl
                   exact rfl
                   exact size35
                   exact rfl
                   exact fun j x hx => box_cells h12.out j x hx
                   skip)
                | (go_at_call 12; (with_reducible refine (hgd.out _).mono ?_); rintro e w13 ⟨rfl, m13⟩
                   have hC13 := hC10.out.keep (m1012.out.trans m13 (fun _ _ h => h))
                   replace hC13 := hide hC13; replace m13 := hide m13))
              go_roundw
              case rel => exact ⟨2 + 1, by omega, by go_num, hide ⟨_, hC13.out.mono (by omega)⟩⟩
              case measure => simp [intOf]
            · go_wp2_with (first
                | (go_at_call 11; (with_reducible refine (ho5.out _ _).mono ?_); rintro e w9 ⟨rfl, h9, m9⟩
                   have hdo : Calls Tryz.prog 10 #[_, .int .i64 0, _, .slice none 0 0] _ _ := hC5.out.read m9 (by omega) hk 0 wr.heap.size 0 32 96 3 (.slice none 0 0) (by decide) flag96 (by decide) ⟨by decide, .inr ⟨hk0, by decide⟩⟩ (rd_block (k := .u8) (l := onB 136 96 0 32) h9 rfl) (.inr (Nat.le_refl _))
                   replace hdo := hide hdo; replace h9 := hide h9; replace m9 := hide m9)
                | (go_at_call 10; (with_reducible refine hdo.out.mono ?_); rintro e w10 ⟨A10, n10, c10, Q10, rfl, -, -, hC10, -⟩
                   have hgd := good_res 0 0 0 0 false A10 n10 c10
                   replace hC10 := hide hC10; replace hgd := hide hgd)
                | ((with_reducible refine list_al 35 _ new35' ?_ ?_ ?_)
                   exact rfl
                   exact rfl
                   intro w11 g11 hg11 h11 m11 s11
                   replace hg11 := hide hg11; replace h11 := hide h11; replace m11 := hide m11; replace s11 := hide s11)
                | ((with_reducible refine list_put 35 (.tmp 20) (.tmp 137) ?_ ?_ g11 (rcA 0 0 0 0 false (.slice A10 n10 c10)) ?_ ?_ zs35 h11.out ?_ ?_ ?_ ?_)
                   exact rfl
                   exact rfl
                   exact rfl
                   exact rfl
                   exact rfl
                   exact size35
                   exact rc_one _ _ _ _ _ _ _ _
                   intro w12 h12 m12
                   have m1012 : Mod (fun _ => False) w10 w12 := m11.out.trans m12 (fun k hk e => by have := hg11.out; omega)
                   replace h12 := hide h12; replace m12 := hide m12; replace m1012 := hide m1012)
                | ((with_reducible refine list_load 35 (.tmp 20) ?_ ?_ _ Tryz.underlying35 ?_ ⟨g11, 0, none⟩ (rcA 0 0 0 0 false (.slice A10 n10 c10)).toList ?_ ?_ ?_ ?_)
                   exact rfl
                   exact rfl
                   exact rfl
                   exact size35
                   exact rfl
                   exact fun j x hx => box_cells h12.out j x hx
                   skip)
                | (go_at_call 12; (with_reducible refine (hgd.out _).mono ?_); rintro e w13 ⟨rfl, m13⟩
                   have hC13 := hC10.out.keep (m1012.out.trans m13 (fun _ _ h => h))
                   replace hC13 := hide hC13; replace m13 := hide m13))
              go_roundw
              case rel => exact ⟨3 + 1, by omega, by go_num, hide ⟨_, hC13.out.mono (by omega)⟩⟩
              case measure => simp [intOf]
            · go_wp2_with (first
                | (go_at_call 11; (with_reducible refine (ho5.out _ _).mono ?_); rintro e w9 ⟨rfl, h9, m9⟩
                   have hdo : Calls Tryz.prog 10 #[_, .int .i64 0, _, .slice none 0 0] _ _ := hC5.out.read m9 (by omega) hk 0 wr.heap.size 0 32 128 4 (.slice none 0 0) (by decide) flag128 (by decide) ⟨by decide, .inr ⟨hk0, by decide⟩⟩ (rd_block (k := .u8) (l := onB 136 128 0 32) h9 rfl) (.inr (Nat.le_refl _))
                   replace hdo := hide hdo; replace h9 := hide h9; replace m9 := hide m9)
                | (go_at_call 10; (with_reducible refine hdo.out.mono ?_); rintro e w10 ⟨A10, n10, c10, Q10, rfl, -, -, hC10, -⟩
                   have hgd := good_res 0 0 0 0 false A10 n10 c10
                   replace hC10 := hide hC10; replace hgd := hide hgd)
                | ((with_reducible refine list_al 35 _ new35' ?_ ?_ ?_)
                   exact rfl
                   exact rfl
                   intro w11 g11 hg11 h11 m11 s11
                   replace hg11 := hide hg11; replace h11 := hide h11; replace m11 := hide m11; replace s11 := hide s11)
                | ((with_reducible refine list_put 35 (.tmp 20) (.tmp 137) ?_ ?_ g11 (rcA 0 0 0 0 false (.slice A10 n10 c10)) ?_ ?_ zs35 h11.out ?_ ?_ ?_ ?_)
                   exact rfl
                   exact rfl
                   exact rfl
                   exact rfl
                   exact rfl
                   exact size35
                   exact rc_one _ _ _ _ _ _ _ _
                   intro w12 h12 m12
                   have m1012 : Mod (fun _ => False) w10 w12 := m11.out.trans m12 (fun k hk e => by have := hg11.out; omega)
                   replace h12 := hide h12; replace m12 := hide m12; replace m1012 := hide m1012)
                | ((with_reducible refine list_load 35 (.tmp 20) ?_ ?_ _ Tryz.underlying35 ?_ ⟨g11, 0, none⟩ (rcA 0 0 0 0 false (.slice A10 n10 c10)).toList ?_ ?_ ?_ ?_)
                   exact rfl
                   exact rfl
                   exact rfl
                   exact size35
                   exact rfl
                   exact fun j x hx => box_cells h12.out j x hx
                   skip)
                | (go_at_call 12; (with_reducible refine (hgd.out _).mono ?_); rintro e w13 ⟨rfl, m13⟩
                   have hC13 := hC10.out.keep (m1012.out.trans m13 (fun _ _ h => h))
                   replace hC13 := hide hC13; replace m13 := hide m13))
              go_roundw
              case rel => exact ⟨4 + 1, by omega, by go_num, hide ⟨_, hC13.out.mono (by omega)⟩⟩
              case measure => simp [intOf]
          · obtain rfl : q = 5 := by omega
            have hbl := hC5.bel
            replace hbl := hide hbl; replace hC5 := hide hC5
            go_wp2_with fail
            go_ret
            exact ⟨rfl, hbl.out⟩
end topProtects
end Go.Proofs.YtjkpelbhhapebaaGreatDoor
