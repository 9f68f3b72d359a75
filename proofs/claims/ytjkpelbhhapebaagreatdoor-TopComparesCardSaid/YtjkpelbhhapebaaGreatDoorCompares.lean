/-
  The walk of TopCompares. No condition.
-/
import Derived.Test.YtjkpelbhhapebaaGreatDoorCi
namespace Go.Proofs.YtjkpelbhhapebaaGreatDoor
open Go.RowKit
set_option maxRecDepth 100000
namespace topCompares
set_option maxHeartbeats 8000000 in
theorem walk0 (A : Option Addr) (len cap : Nat) (l : List Int) (w : World) (hr : Rd w 1 (ic .u8) A len l) (hb : ∀ x ∈ l, 0 ≤ x ∧ x ≤ 255) :
    Calls Tryz.prog 3 #[.slice A len cap] w fun e w' => e = .returned (.bool true) ∧ Below w.heap.size w w' := by
  obtain ⟨B, hB⟩ : ∃ B, B = w.heap.size := ⟨_, rfl⟩
  rw [← hB]
  have haw := awake_any w
  have hl : l.length = len := hr.1
  have hrB : ∀ W, Below B w W → Rd W 1 (ic .u8) A len l := fun W h => by subst hB; exact hr.below h
  replace haw := hide haw; replace hr := hide hr; replace hb := hide hb; replace hrB := hide hrB; replace hl := hide hl; replace hB := hide hB
  go_enter Tryz.func3, Tryz.ntmps3
  go_wp2_with (first
    | (go_at_call 7; (with_reducible refine haw.out.mono ?_); rintro e w1 ⟨rfl, m1⟩
       have hnew := wu_new w1 B (by rw [hB.out]; exact m1.size)
       replace m1 := hide m1; replace hnew := hide hnew)
    | (go_at_call 9; (with_reducible refine hnew.out.mono ?_); rintro e w2 ⟨b, F, rfl, hW2, m2, hF2⟩
       have hwh := whole_new B b 1 F w2 hW2 (by decide)
       have hwh : Calls Tryz.prog 8 #[_, .int .u8 1] _ _ := hwh
       replace hwh := hide hwh; replace hW2 := hide hW2; replace m2 := hide m2; replace hF2 := hide hF2)
    | (go_at_call 8; (with_reducible refine hwh.out.mono ?_); rintro e w3 ⟨c, a, rfl, hwb, U, m3, hb3, hF3⟩
       obtain ⟨u, hu⟩ : ∃ u, u = a.u := ⟨_, rfl⟩
       rw [← hu]
       replace hu := hide hu; replace U := hide U; replace m3 := hide m3; replace hb3 := hide hb3; replace hF3 := hide hF3; replace hwb := hide hwb)
    | (refine list_al 28 _ new28 rfl rfl ?_
       intro w4 g hg h4 m4 s4
       replace hg := hide hg; replace h4 := hide h4; replace m4 := hide m4; replace s4 := hide s4))
  have hP : Hid (∃ sl, CI B u g sl 0 2 w w4) := by
    have hBs : B ≤ w.heap.size := Nat.le_of_eq hB.out
    have q1 : Below B w w1 := m1.out.below hBs (fun _ h => h.elim)
    have q2 : Below B w w2 := q1.trans (m2.out.below (Nat.le_trans hBs m1.out.size) (fun _ h => h.elim))
    have s3 : B ≤ w3.heap.size := Nat.le_trans hBs (Nat.le_trans m1.out.size (Nat.le_trans m2.out.size m3.out.size))
    have hrow : Row w4 28 1 (ic .u8) (.slice (some ⟨g, 0, none⟩) 8 8) (List.replicate 8 0) := row_lit (k := .u8) (l := List.replicate 8 0) h4.out (by decide)
    exact hide ⟨_, c, a, us1 1, _, (U.out.keep m4.out).1, hu.out.symm, rfl, rfl, us1_L 1, rfl, rfl, wel0 1, rfl, Nat.le_refl _, U.out.sup g (by rw [hg.out]; exact Nat.le_refl _), by rw [hg.out]; exact s3, hrow, rfl, by intro x hx; rw [List.eq_of_mem_replicate hx]; decide,
      (q2.trans hb3.out).trans (m4.out.below s3 (fun _ h => h.elim)), Nat.le_trans s3 m4.out.size⟩
  have ho1 : ∀ W, Calls Tryz.prog 11 #[.int .u8 136, .int .u8 0, .int .i64 3, .int .i64 1] W _ := fun W => onb_any 136 0 3 1 W (by decide) (by decide)
  have ho2 : ∀ W, Calls Tryz.prog 11 #[.int .u8 137, .int .u8 0, .int .i64 3, .int .i64 0] W _ := fun W => onb_any 137 0 3 0 W (by decide) (by decide)
  replace ho1 := hide ho1; replace ho2 := hide ho2
  clear haw hnew hwh
  clear U hF3 hb3 hwb hF2 hW2 h4 m4 s4 m2 m3 m1 hu
  go_loopw [5, 6] (fun v5 v6 wr => ∃ (dn i : Nat), i ≤ len ∧ i ≤ 120 ∧ dn ≤ i ∧ v5 = .int .i64 dn ∧ v6 = .int .i64 i ∧ Hid (∃ sl, CI B u g sl ((dn : Int) % 256) (2 + 5 * i) w wr)) (fun _ v _ => 120 - (intOf v).toNat)
  case atStart => exact ⟨0, 0, Nat.zero_le _, by omega, Nat.le_refl _, rfl, rfl, hP⟩
  case round =>
    obtain ⟨dn, i, hi, hi2, hdi, rfl, rfl, hR⟩ := hrel
    clear hP
    obtain ⟨sl, hC⟩ := hR.out
    clear hR
    by_cases hlt : i < len ∧ i < 120
    · obtain ⟨hlt, h120⟩ := hlt
      obtain ⟨ad, hA, hc⟩ := (hrB.out wr hC.bel).int i hlt
      obtain ⟨x, hx⟩ : ∃ x, x = gi l i := ⟨_, rfl⟩
      have hxb : 0 ≤ x ∧ x ≤ 255 := by
        rw [hx, gi_eq l i (by rw [hl.out]; exact hlt)]
        exact hb.out _ (List.getElem_mem _)
      rw [← hx] at hc
      subst hA
      obtain ⟨n8, e8⟩ : ∃ n8 : Nat, (n8 : Int) = x % 8 := ⟨(x % 8).toNat, by omega⟩
      have h8 : n8 < 8 := by omega
      have wx : IntKind.i64.wrap x = x := IntWalk.i64_in _ (by omega)
      have et : x.tmod 8 = (n8 : Int) := by rw [Int.tmod_eq_emod_of_nonneg hxb.1, e8]
      obtain ⟨v, hv⟩ : ∃ v, v = (dn : Int) % 256 := ⟨_, rfl⟩
      have hvb : 0 ≤ v ∧ v ≤ 255 := by omega
      have wv : IntKind.i64.wrap v = v := IntWalk.i64_in _ (by omega)
      have hvt : (dn : Int).tmod 256 = v := by rw [Int.tmod_eq_emod_of_nonneg (by omega), hv]
      rw [← hv] at hC
      have q1 : (i : Int) < len := by omega
      have q2 : (i : Int) < 120 := by omega
      have n1 : (0 : Int) ≤ n8 := by omega
      have n2 : (n8 : Int) < 8 := by omega
      have hbdC : 2 + 5 * i < 70000 := by omega
      have hrr : gi l i = x := hx.symm
      clear hx
      by_cases hread : x / 8 % 2 = 0
      · have htest : (x.tdiv 8 % 2 == 0) = true := by rw [Int.tdiv_eq_ediv_of_nonneg hxb.1, hread]; rfl
        clear hread
        replace hrr := hide hrr; replace hxb := hide hxb; replace e8 := hide e8; replace hv := hide hv; replace hvb := hide hvb; replace hbdC := hide hbdC; replace hC := hide hC
        go_wp2_with (first
        | (go_at_call 11; (with_reducible refine (ho1.out _).mono ?_); rintro e w5 ⟨rfl, h5, m5⟩
           have hrd : Rd w5 1 (ic .u8) (some ⟨wr.heap.size, 0, none⟩) 16 (onB 136 0 3 1) := rd_block (k := .u8) (l := onB 136 0 3 1) h5 rfl
           have hdo := hC.out.read (by have := hbdC.out; omega) n8 wr.heap.size h8 m5 hrd (Nat.le_refl _)
           clear hrd
           replace hdo := hide hdo; replace h5 := hide h5; replace m5 := hide m5)
        | (go_at_call 10; (with_reducible refine hdo.out.mono ?_); rintro e w6 ⟨A6, cp6, rfl, hrow6, hC6⟩
           obtain ⟨ad6, rfl, -⟩ := (hrow6.rd (ic_len .u8) rfl).int 0 (by decide)
           have hgd := good_res 0 0 0 0 false (some ad6) 16 cp6
           replace hgd := hide hgd; replace hrow6 := hide hrow6; replace hC6 := hide hC6)
        | (refine list_al 35 _ new35' rfl rfl ?_
           intro w7 g7 hg7 h7 m7 s7
           replace hg7 := hide hg7; replace h7 := hide h7; replace m7 := hide m7; replace s7 := hide s7)
        | (refine list_put 35 (.tmp 8) (.tmp 45) rfl rfl g7 (rcA 0 0 0 0 false (.slice (some ad6) 16 cp6)) rfl rfl zs35 h7.out rfl size35 (rc_one _ _ _ _ _ _ _ _) ?_
           intro w8 h8' m8
           have m68 : Mod (fun _ => False) w6 w8 := m7.out.trans m8 (fun k hk e => by have := hg7.out; omega)
           have hC8 := hC6.out.keep m68
           have hrow8 := hrow6.out.mod m68 (fun _ _ e => e)
           replace h8' := hide h8'; replace m8 := hide m8; replace m68 := hide m68; replace hC8 := hide hC8; replace hrow8 := hide hrow8)
        | (refine list_load 35 (.tmp 8) rfl rfl _ (by exact Tryz.underlying35) rfl ⟨g7, 0, none⟩ (rcA 0 0 0 0 false (.slice (some ad6) 16 cp6)).toList size35 rfl (fun j x hx => box_cells h8'.out j x hx) ?_)
        | (go_at_call 12; (with_reducible refine (hgd.out _).mono ?_); rintro e w9 ⟨rfl, m9⟩
           have hcell9 : w9.cell? ⟨g7, 9, none⟩ = some (.slice (some ad6) 16 cp6) := by rw [cell_of_row w9 _ _ _ 35 (0, 0) (m9.heap h8'.out (fun e => e))]; rfl
           have hC9 := hC8.out.keep m9
           obtain ⟨ad6', e6, hd9⟩ := ((hrow8.out.mod m9 (fun _ _ e => e)).rd (ic_len .u8) rfl).int 0 (by decide)
           injection e6 with e6
           subst e6
           have ez : ad6.add 0 = ad6 := by simp [Addr.add]
           rw [ez] at hd9
           replace hd9 : w9.cell? ad6 = some (.int .u8 v) := hd9
           clear ez
           obtain ⟨hat9, hfz9, -, -⟩ := hC9.at_ n8 h8
           have hC10 := (hC9.seen n8 h8 v hvb.out)
           replace hC10 := hide hC10; replace hC9 := hide hC9
           replace m9 := hide m9))
        case roundEnd => exact ⟨⟨dn, i + 1, by omega, by omega, by omega, rfl, by go_num, hide ⟨_, by rw [← hv.out]; exact hC10.out.mono (by omega)⟩⟩, by simp [intOf]; omega⟩
      · have htest : (x.tdiv 8 % 2 == 0) = false := by rw [Int.tdiv_eq_ediv_of_nonneg hxb.1]; simpa using hread
        clear hread
        replace hrr := hide hrr; replace hxb := hide hxb; replace e8 := hide e8; replace hv := hide hv; replace hvb := hide hvb; replace hbdC := hide hbdC; replace hC := hide hC
        obtain ⟨s, hs⟩ : ∃ s, s = gi sl n8 := ⟨_, rfl⟩
        go_wp2_with (first
        | (go_at_call 11; (with_reducible refine (ho2.out _).mono ?_); rintro e w5 ⟨rfl, h5, m5⟩
           obtain ⟨g9, hg9⟩ : ∃ g9, g9 = wr.heap.size := ⟨_, rfl⟩
           rw [← hg9] at h5
           rw [← hg9]
           have hr5 : Row w5 5 1 (ic .u8) (.slice (some ⟨g9, 0, none⟩) 16 16) (onB 137 0 3 0) := row_lit (k := .u8) (l := onB 137 0 3 0) h5 (by decide)
           obtain ⟨hc13, hz13⟩ := hr5.num 13 (by decide)
           obtain ⟨hr6, m6⟩ := hr5.store 13 1
           have hr6 : Row (w5.setCell ⟨g9, 13, none⟩ (.int .u8 1)) 5 1 (ic .u8) (.slice (some ⟨g9, 0, none⟩) 16 16) (onB 137 0 3 1) := hr6
           have m56 : Mod (fun _ => False) wr (w5.setCell ⟨g9, 13, none⟩ (.int .u8 1)) := m5.trans m6 (fun k hk e => by omega)
           have hN : Hid (∀ W, Mod (fun _ => False) (w5.setCell ⟨g9, 13, none⟩ (.int .u8 1)) W → CI B u g sl v (2 + 5 * i) w W ∧ Row W 5 1 (ic .u8) (.slice (some ⟨g9, 0, none⟩) 16 16) (onB 137 0 3 1) ∧ W.cell? ⟨g, n8, none⟩ = some (.int .u8 s)) := hide fun W m => by
             have q := hC.out.keep (m56.trans m (fun k hk e => e))
             exact ⟨q, hr6.mod m (fun _ _ e => e), by rw [hs]; exact (q.at_ n8 h8).1⟩
           have hsb := (hC.out.at_ n8 h8).2.2
           rw [← hs] at hsb
           clear hr5 hr6 h5 m6
           replace hsb := hide hsb; replace m56 := hide m56; replace m5 := hide m5; replace hg9 := hide hg9))
        obtain ⟨t, ht⟩ : ∃ t, t = (s + 1) % 256 := ⟨_, rfl⟩
        have ht1 : IntKind.u8.wrap (s + 1) = t := by rw [u8wrap, ht]
        obtain ⟨W6, hW6⟩ : ∃ W6, W6 = w5.setCell ⟨g9, 13, none⟩ (.int .u8 1) := ⟨_, rfl⟩
        rw [← hW6] at hN m56
        rw [← hW6]
        clear hW6 m5 hc13 hz13
        have C12 := (hN.out _ (Mod.refl _ _)).2.2
        replace hs := hide hs; replace ht := hide ht
        go_region_held3 (fun w' => w'.cell? ⟨g, n8, none⟩ = some (.int .u8 s))
          ((refine (hN.out _ ?_).2.2; (repeat (first | (with_reducible exact Mod.refl _ _) | (with_reducible exact M67.out) | (with_reducible exact M68.out) | (with_reducible exact M69.out) | (with_reducible refine Mod.drew ?_) | (with_reducible refine Mod.alloc ?_ _)))))
          (first
          | (go_at_call 13; (with_reducible refine Calls.mono (sixt_box _ _ s ?hb) ?_)
             case hb => (repeat (first | (with_reducible exact bx_new (by first | rfl | (simp only [World.size_alloc]; done))) | (with_reducible refine bx_drew ?_) | (with_reducible refine bx_alloc ?_)))
             rintro e w7 ⟨g7, rfl, hr7, hg7, m7⟩
             have M67 : Mod (fun _ => False) W6 w7 := (by refine Mod.trans ?_ m7 (fun _ _ h => h); (repeat (first | (with_reducible exact Mod.refl _ _) | (with_reducible refine Mod.drew ?_) | (with_reducible refine Mod.alloc ?_ _))))
             have lo7 : W6.heap.size ≤ g7 := Nat.le_trans (Mod.size (F := fun _ => False) (by (repeat (first | (with_reducible exact Mod.refl _ _) | (with_reducible refine Mod.drew ?_) | (with_reducible refine Mod.alloc ?_ _))))) hg7
             replace lo7 := hide lo7
             replace M67 := hide M67; replace m7 := hide m7; replace hr7 := hide hr7; replace hg7 := hide hg7)
          | (go_at_call 13; (with_reducible refine Calls.mono (sixt_box _ _ t ?hb) ?_)
             case hb => (repeat (first | (with_reducible exact bx_new (by first | rfl | (simp only [World.size_alloc]; done))) | (with_reducible refine bx_drew ?_) | (with_reducible refine bx_alloc ?_) | (with_reducible refine m7.out.heap ?_ (fun h => h))))
             rintro e w8 ⟨g8, rfl, hr8, hg8, m8⟩
             have M78 : Mod (fun _ => False) w7 w8 := (by refine Mod.trans ?_ m8 (fun _ _ h => h); (repeat (first | (with_reducible exact Mod.refl _ _) | (with_reducible refine Mod.drew ?_) | (with_reducible refine Mod.alloc ?_ _))))
             have M68 := M67.out.trans M78 (fun _ _ h => h)
             have hr78 := hr7.out.mod M78 (fun _ _ h => h)
             replace M68 := hide M68; replace hr78 := hide hr78
             replace M78 := hide M78; replace m8 := hide m8; replace hr8 := hide hr8; replace hg8 := hide hg8)
          | (refine step_app (.tmp 78) (.tmp 84) 22 5 _ 1 1 (ic .u8) rfl rfl (ic_len _) (ic_one _) Tryz.underlying22 elemU8 (.slice (some ⟨g7, 0, none⟩) 16 16) (cell3 s) (some ⟨g8, 0, none⟩) 16 16 (cell3 t) ?_ ?_ hr78.out (hr8.out.rd (ic_len _) rfl) ?_ ?_ ?_
             (simp [Act.eval])
             (simp [Act.eval])
             (simp [maxLen, cell3])
             (simp [cell3])
             intro v9 w9 r9 gr9 a9
             obtain ⟨pb, pc, rfl, hpc, hpm⟩ := pay r9
             have hpl : W6.heap.size ≤ pb := by
               rcases a9 with e | e
               · simp [Value.ownBlock] at e; have := lo7.out; omega
               · simp [Value.ownBlock] at e; have := M68.out.size; omega
             have M69 : Mod (fun _ => False) W6 w9 := M68.out.grown gr9 (fun j hj => by
               simp [Value.ownBlock] at hj; have := lo7.out; right; omega)
             replace M69 := hide M69; replace r9 := hide r9; replace gr9 := hide gr9; replace a9 := hide a9; replace hpl := hide hpl; replace hpc := hide hpc; replace hpm := hide hpm))
        all_goals
          have wsx : IntKind.i64.wrap s = s := IntWalk.i64_in _ (by have := hsb.out; omega)
          have h20 := hC.out.cmp (by have := hbdC.out; omega) n8 g9 pb pc s t h8 (m56.out.trans M69.out (fun _ _ e => e)) ((hN.out w9 M69.out).2.1.rd (ic_len _) rfl) (by rw [hg9.out]; exact Nat.le_refl _) hsb.out (by have := ht.out; omega) (r9.out.rd (ic_len _) rfl) (by have := hpl.out; have := m56.out.size; omega) hpc.out hpm.out
          replace h20 := hide h20
          clear hpc hpm hpl r9 gr9 a9 M68 M69 M67 M78 m7 m8 hr7 hr8 hr78 hg7 hg8 lo7 hN m56 ht1
          by_cases hvs : v = s
          · subst hvs
            go_wp2_with (first
            | (go_at_call 10; (with_reducible refine h20.out.mono ?_); rintro e w10 ⟨st, key, code, info, has, A10, n10, c10, rfl, hq, -⟩
               obtain ⟨rfl, hC10⟩ := hq rfl
               have hgd := good_res 0 key code info has A10 n10 c10
               replace hgd := hide hgd; replace hC10 := hide hC10)
            | ((with_reducible refine list_al 35 _ new35' ?_ ?_ ?_)
               exact rfl
               exact rfl
               intro w11 g11 hg11 h11 m11 s11
               replace hg11 := hide hg11; replace h11 := hide h11; replace m11 := hide m11; replace s11 := hide s11)
            | ((with_reducible refine list_put 35 (.tmp 11) (.tmp 90) ?_ ?_ g11 (rcA 0 key code info has (.slice A10 n10 c10)) ?_ ?_ zs35 h11.out ?_ ?_ ?_ ?_)
               exact rfl
               exact rfl
               exact rfl
               exact rfl
               exact rfl
               exact size35
               exact rc_one _ _ _ _ _ _ _ _
               intro w12 h12 m12
               have m1012 : Mod (fun _ => False) w10 w12 := m11.out.trans m12 (fun k hk e => by have := hg11.out; omega)
               have hC12 := hC10.out.keep m1012
               have hat12 := (hC12.at_ n8 h8).1
               rw [← hs.out] at hat12
               replace h12 := hide h12; replace m12 := hide m12; replace m1012 := hide m1012; replace hC12 := hide hC12)
            | ((with_reducible refine list_load 35 (.tmp 11) ?_ ?_ _ Tryz.underlying35 ?_ ⟨g11, 0, none⟩ (rcA 0 key code info has (.slice A10 n10 c10)).toList ?_ ?_ ?_ ?_)
               exact rfl
               exact rfl
               exact rfl
               exact size35
               exact rfl
               exact fun j x hx => box_cells h12.out j x hx
               skip)
            | (go_at_call 12; (with_reducible refine (hgd.out _).mono ?_); rintro e w13 ⟨rfl, m13⟩
               have hk13 : w13.cell? ⟨g11, 1, none⟩ = some (.int .u8 key) := by rw [cell_of_row w13 _ _ _ 35 (0, 0) (m13.heap h12.out (fun e => e))]; rfl
               have hi13 : w13.cell? ⟨g11, 3, none⟩ = some (.int .u64 info) := by rw [cell_of_row w13 _ _ _ 35 (0, 0) (m13.heap h12.out (fun e => e))]; rfl
               have hC13 := hC12.out.keep m13
               replace hC13 := hide hC13
               replace m13 := hide m13))
            case roundEnd => exact ⟨⟨dn + 1, i + 1, by omega, by omega, by omega, by go_num, by go_num, hide ⟨sl, by
              have e : (((dn + 1 : Nat) : Int)) % 256 = t := by have h1 := ht.out; have h2 := hv.out; omega
              rw [e]
              exact hC13.out.mono (by omega)⟩⟩, by simp [intOf]; omega⟩
          · have hsv : (s == v) = false := by exact beq_eq_false_iff_ne.2 (fun e => hvs e.symm)
            replace hvs := hide hvs
            go_wp2_with (first
            | (go_at_call 10; (with_reducible refine h20.out.mono ?_); rintro e w10 ⟨st, key, code, info, has, A10, n10, c10, rfl, -, hq⟩
               obtain ⟨rfl, rfl, rfl, hC10⟩ := hq hvs.out
               have hgd := good_res 2 14 code 0 has A10 n10 c10
               replace hgd := hide hgd; replace hC10 := hide hC10)
            | ((with_reducible refine list_al 35 _ new35' ?_ ?_ ?_)
               exact rfl
               exact rfl
               intro w11 g11 hg11 h11 m11 s11
               replace hg11 := hide hg11; replace h11 := hide h11; replace m11 := hide m11; replace s11 := hide s11)
            | ((with_reducible refine list_put 35 (.tmp 11) (.tmp 90) ?_ ?_ g11 (rcA 2 14 code 0 has (.slice A10 n10 c10)) ?_ ?_ zs35 h11.out ?_ ?_ ?_ ?_)
               exact rfl
               exact rfl
               exact rfl
               exact rfl
               exact rfl
               exact size35
               exact rc_one _ _ _ _ _ _ _ _
               intro w12 h12 m12
               have m1012 : Mod (fun _ => False) w10 w12 := m11.out.trans m12 (fun k hk e => by have := hg11.out; omega)
               have hC12 := hC10.out.keep m1012
               have hat12 := (hC12.at_ n8 h8).1
               rw [← hs.out] at hat12
               replace h12 := hide h12; replace m12 := hide m12; replace m1012 := hide m1012; replace hC12 := hide hC12)
            | ((with_reducible refine list_load 35 (.tmp 11) ?_ ?_ _ Tryz.underlying35 ?_ ⟨g11, 0, none⟩ (rcA 2 14 code 0 has (.slice A10 n10 c10)).toList ?_ ?_ ?_ ?_)
               exact rfl
               exact rfl
               exact rfl
               exact size35
               exact rfl
               exact fun j x hx => box_cells h12.out j x hx
               skip)
            | (go_at_call 12; (with_reducible refine (hgd.out _).mono ?_); rintro e w13 ⟨rfl, m13⟩
               have hk13 : w13.cell? ⟨g11, 1, none⟩ = some (.int .u8 14) := by rw [cell_of_row w13 _ _ _ 35 (0, 0) (m13.heap h12.out (fun e => e))]; rfl
               have hi13 : w13.cell? ⟨g11, 3, none⟩ = some (.int .u64 0) := by rw [cell_of_row w13 _ _ _ 35 (0, 0) (m13.heap h12.out (fun e => e))]; rfl
               have hC13 := hC12.out.keep m13
               replace hC13 := hide hC13
               replace m13 := hide m13))
            case roundEnd => exact ⟨⟨dn, i + 1, by omega, by omega, by omega, rfl, by go_num, hide ⟨sl, by rw [← hv.out]; exact hC13.out.mono (by omega)⟩⟩, by simp [intOf]; omega⟩
    · have hbl := hC.bel
      have hc1 : decide ((i : Int) < len) = false ∨ decide ((i : Int) < len) = true ∧ decide ((i : Int) < 120) = false := by
        by_cases h : i < len
        · exact .inr ⟨decide_eq_true (by omega), decide_eq_false (by omega)⟩
        · exact .inl (decide_eq_false (by omega))
      replace hbl := hide hbl; replace hC := hide hC
      rcases hc1 with hc1 | ⟨hc1, hc2⟩
      · go_wp2_with fail
        all_goals go_ret
        all_goals exact ⟨rfl, hbl.out⟩
      · go_wp2_with fail
        all_goals go_ret
        all_goals exact ⟨rfl, hbl.out⟩
end topCompares
end Go.Proofs.YtjkpelbhhapebaaGreatDoor
