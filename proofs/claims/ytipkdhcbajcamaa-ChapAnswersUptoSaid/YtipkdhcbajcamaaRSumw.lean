/-
  palletref19.Sum, walked: its answer is the sum. Conditions: bytes that take less than 2^47.
-/
import Derived.Test.YtipkdhcbajcamaaRSum
namespace Go.Proofs.Ytipkdhcbajcamaa
open Go.RowKit
set_option maxHeartbeats 8000000 in
set_option maxRecDepth 100000 in
theorem rsum_any (A : Option Addr) (len cap : Nat) (l : List Int) (w : World) (hr : Rd w 1 (ic .u8) A len l) (hlen : len ≤ 140737488351232) (hby : Hid (∀ x ∈ l, 0 ≤ x ∧ x ≤ 255)) :
    Calls Try.prog 9 #[.slice A len cap] w fun e w' => ∃ v, e = .returned v ∧ Row w' 5 1 (ic .u8) v (md l) ∧ (∀ k, v.ownBlock = some k → w.heap.size ≤ k) ∧ Mod (fun _ => False) w w' := by
  have HL : Hid (l.length = len) := hr.1
  have hS0 : Hid (Sr w w (.slice none 0 0) []) := hide ⟨Mod.refl _ w, Row.nil _ _ _ _, by simp [Value.ownBlock]⟩
  replace hr := hide hr
  go_enter Try.func9, Try.ntmps9
  go_wp2_with (first
    | (at_builtin; refine list_app (.tmp 25) (.tmp 26) 22 5 _ 1 1 (ic .u8) rfl rfl (ic_len _) (ic_one _) Try.underlying22 elem5 (.slice none 0 0) [] A len cap l rfl rfl (Row.nil _ _ _ _) hr.out ?_ ?_ ?_
       (have := HL.out; simp [maxLen]; omega)
       (simp; omega)
       intro v1 w1 r1 g1 a1
       obtain ⟨A1, c1, hv1, -, -⟩ := r1.slice
       rw [List.nil_append, HL.out] at hv1
       rw [List.nil_append] at r1
       have hS1 : Hid (Sr w w1 v1 l) := hide ⟨hS0.out.1.grown g1 (by simp [Value.ownBlock]), r1, fun k hk => (by
         rcases a1 with e | e
         · rw [e] at hk; simp [Value.ownBlock] at hk
         · rw [e] at hk; simp at hk; omega)⟩
       subst hv1)
    | (at_builtin; refine list_app (.tmp 28) (.tmp 29) 22 5 _ 1 1 (ic .u8) rfl rfl (ic_len _) (ic_one _) Try.underlying22 elem5 (.slice A1 len c1) l (some ⟨w1.heap.size, 0, none⟩) 1 1 [128] rfl rfl (r1.alloc _) (Rd.box w1 (ic .u8) 128 5) ?_ ?_ ?_
       (have := HL.out; simp [maxLen]; omega)
       (have := HL.out; simp; omega)
       intro v2 w2 r2 g2 a2
       obtain ⟨A2, c2, hv2, -, -⟩ := r2.slice
       rw [padz_zero, padz_len _ _ (Nat.le_refl _), HL.out] at hv2
       rw [padz_zero, HL.out] at r2
       have hS2 : Hid (Sr w w2 v2 (padz l (len + 1))) := hide (hS1.out.app r2 g2 a2)
       subst hv2))
  clear r1 g1 a1 r2 g2 a2 hS1 hS0
  have hz : zz len ≤ 63 := by unfold zz; omega
  have hzm : (len + 1 + zz len) % 64 = 56 := by unfold zz; omega
  have hzn : Hid (∀ m, len + 1 ≤ m → m < len + 1 + zz len → m % 64 ≠ 56) := hide (fun m h1 h2 => by unfold zz at h2; omega)
  obtain ⟨z, hzr⟩ : ∃ z, z = zz len := ⟨_, rfl⟩
  rw [← hzr] at hz hzm hzn
  replace hzr := hide hzr
  go_loopw [3] (fun v wr => ∃ (m : Nat) (A : Option Addr) (c : Nat), len + 1 ≤ m ∧ m ≤ len + 1 + z ∧ v = .slice A m c ∧ Hid (Sr w wr v (padz l m))) (fun v _ => len + 1 + z - slen v)
  case atStart => exact ⟨len + 1, A2, c2, by omega, by omega, rfl, hS2⟩
  case round =>
    clear hS2
    obtain ⟨m, A3, c3, hm1, hm2, rfl, hS⟩ := hrel
    by_cases hlt : m < len + 1 + z
    · have hb : ((m : Int) % 64 == 56) = false := by have := hzn.out m hm1 hlt; simp; omega
      go_wp2_with (first
        | (at_builtin; refine list_app (.tmp 35) (.tmp 36) 22 5 _ 1 1 (ic .u8) rfl rfl (ic_len _) (ic_one _) Try.underlying22 elem5 (.slice A3 m c3) (padz l m) (some ⟨wr.heap.size, 0, none⟩) 1 1 [0] rfl rfl (hS.out.2.1.alloc _) (Rd.box wr (ic .u8) 0 5) ?_ ?_ ?_
           (have := HL.out; rw [padz_len _ _ (by omega)]; simp [maxLen]; omega)
           (have := HL.out; rw [padz_len _ _ (by omega)]; omega)
           intro v4 w4 r4 g4 a4
           obtain ⟨A4, c4, hv4, -, -⟩ := r4.slice
           rw [padz_snoc _ _ (by rw [HL.out]; omega), padz_len _ _ (by rw [HL.out]; omega)] at hv4
           rw [padz_snoc _ _ (by rw [HL.out]; omega)] at r4
           have hS4 : Hid (Sr w w4 v4 (padz l (m + 1))) := hide (hS.out.app r4 g4 a4)
           subst hv4))
      go_roundw
      case rel => exact ⟨m + 1, A4, c4, by omega, by omega, rfl, hS4⟩
      case measure => show len + 1 + z - (m + 1) < len + 1 + z - m; omega
    · obtain rfl : m = len + 1 + z := by omega
      have hb : (((len : Int) + 1 + (z : Int)) % 64 == 56) = true := by simp; omega
      have hb2 : (((len : Int) + 1 + (z : Int)) % 64 != 56) = false := by simp; omega
      have hN : Hid ((padz l (len + 1 + z)).length = len + 1 + z) := hide (padz_len _ _ (by rw [HL.out]; omega))
      have hS1 : Hid (Sr w wr (.slice A3 (len + 1 + z) c3) (padz l (len + 1 + z) ++ lenB ((len : Int) * 8) 0)) := hide (by simpa [lenB] using hS.out)
      go_wp2
      go_loopw [3, 4, 5] (fun v x i wr => ∃ (k m : Nat) (A : Option Addr) (c : Nat), k ≤ 8 ∧ i = .int .i64 k ∧ x = .int .u64 ((len : Int) * 8 / 2 ^ (8 * k)) ∧ Hid (m = len + 1 + z + k) ∧ v = .slice A m c ∧ Hid (Sr w wr v (padz l (len + 1 + z) ++ lenB ((len : Int) * 8) k))) (fun _ _ i _ => 8 - (intOf i).toNat)
      case atStart => exact ⟨0, len + 1 + z, A3, c3, by omega, rfl, by simp, hide rfl, rfl, hS1⟩
      case round =>
        clear hS1 hS hb hb2
        obtain ⟨k, m, A4, c4, hk, rfl, rfl, hmk, rfl, hS⟩ := hrel
        by_cases hlt : k < 8
        · have hmm : m ≤ 140737488351500 := by have := hmk.out; omega
          obtain ⟨y, hy⟩ : ∃ y, y = (len : Int) * 8 / 2 ^ (8 * k) := ⟨_, rfl⟩
          have hy0 : 0 ≤ y ∧ y ≤ (len : Int) * 8 := by
            rw [hy]
            exact ⟨Int.ediv_nonneg (by omega) (Int.pow_nonneg (by decide)), Int.ediv_le_self _ (by omega)⟩
          have hy1 : (len : Int) * 8 / 2 ^ (8 * (k + 1)) = y / 256 := by
            rw [hy, Int.ediv_ediv_of_nonneg (Int.pow_nonneg (by decide)), show (8 * (k + 1)) = 8 * k + 8 from by omega, Int.pow_add]
            rfl
          obtain ⟨hy2, hy3⟩ := hy0
          have hsn : Hid (lenB ((len : Int) * 8) k ++ [y % 256] = lenB ((len : Int) * 8) (k + 1)) := hide (by rw [hy]; exact lenB_snoc _ _)
          rw [← hy]
          replace hy := hide hy
          replace hy1 := hide hy1
          go_wp2_with (first
            | (at_builtin; refine list_app (.tmp 46) (.tmp 49) 22 5 _ 1 1 (ic .u8) rfl rfl (ic_len _) (ic_one _) Try.underlying22 elem5 (.slice A4 m c4) (padz l (len + 1 + z) ++ lenB ((len : Int) * 8) k) (some ⟨wr.heap.size, 0, none⟩) 1 1 [y % 256] rfl rfl (hS.out.2.1.alloc _) (Rd.box wr (ic .u8) _ 5) ?_ ?_ ?_
               (rw [List.length_append, hN.out, lenB_len]; simp [maxLen]; omega)
               (rw [List.length_append, hN.out, lenB_len]; omega)
               intro v5 w5 r5 g5 a5
               obtain ⟨A5, c5, hv5, -, -⟩ := r5.slice
               rw [List.append_assoc, hsn.out] at r5 hv5
               have hS5 : Hid (Sr w w5 v5 (padz l (len + 1 + z) ++ lenB ((len : Int) * 8) (k + 1))) := hide (hS.out.app r5 g5 a5)
               obtain ⟨m5, hm5⟩ : ∃ m5, m5 = (padz l (len + 1 + z) ++ lenB ((len : Int) * 8) (k + 1)).length := ⟨_, rfl⟩
               rw [← hm5] at hv5
               have hm5' : Hid (m5 = len + 1 + z + (k + 1)) := hide (by rw [hm5, List.length_append, hN.out, lenB_len])
               clear hm5
               subst hv5))
          go_roundw
          case rel => exact ⟨k + 1, m5, A5, c5, by omega, by go_num, by rw [hy1.out], hm5', rfl, hS5⟩
          case measure => simp [intOf]; omega
        · have hk8 : k = 8 := by omega
          have hx8 : (len : Int) * 8 / 2 ^ (8 * k) = (len : Int) * 8 / 2 ^ (8 * k) := rfl
          rw [hk8] at hS hmk
          replace hk8 := hide hk8
          clear hx8
          generalize (len : Int) * 8 / 2 ^ (8 * k) = y8
          obtain ⟨wo, hwo⟩ : ∃ wo : World, wo = wr := ⟨_, rfl⟩
          subst hwo
          have hfull : Hid (padz l (len + 1 + z) ++ lenB ((len : Int) * 8) 8 = full l) := hide (by unfold full; rw [HL.out, hzr.out])
          obtain ⟨nb, hnb⟩ : ∃ nb, nb = (full l).length / 64 := ⟨_, rfl⟩
          have hnb2 : m = 64 * nb := by rw [hmk.out, hnb, ← full_mod, full_len, HL.out, hzr.out]; omega
          have hmm : m ≤ 140737488351500 := by have := hmk.out; omega
          have hpos : 0 < m := by have := hmk.out; omega
          have hS6 := hS
          rw [hfull.out] at hS6
          have hqb : ∀ i, 0 ≤ gi (full l) i ∧ gi (full l) i ≤ 255 := gi_by (full_by l hby.out)
          clear hS hzn hzm hmk
          replace hnb := hide hnb
          replace hnb2 := hide hnb2
          replace hqb := hide hqb
          obtain ⟨gq, hA4⟩ : ∃ g, A4 = some ⟨g, 0, none⟩ := by
            obtain ⟨g, c, e, _⟩ := hS6.out.2.1.some_ (by rw [(hS6.out.2.1.rd (ic_len _) rfl).1]; exact hpos)
            injection e with e _ _
            exact ⟨g, e⟩
          subst hA4
          have hR6 := hide (hS6.out.2.1.rd (ic_len _) rfl)
          have hgq : gq < wo.heap.size := hS6.out.2.1.lt gq rfl
          go_wp2_with (first
            | (go_at_call 18; (with_reducible refine (const_any _).mono ?_); rintro e w8 ⟨kb, rfl, r8, s8, m8⟩
               have hRw : Hid (Rw w w8 gq wo.heap.size (wo.heap.size + 1) kb m (full l) (stB (full l) 0)) := hide ⟨((hS6.out.1.alloc _).alloc _).trans m8 (fun _ _ h => h), ((hR6.out.alloc _).alloc _).mod m8 (fun _ _ h => h), m8.heap (heap_alloc2_old wo _ _) (fun h => h), m8.heap (heap_alloc2_new wo _ _) (fun h => h), r8, hgq, by omega, by simp at s8; omega, hS6.out.1.size⟩
               clear r8 s8 m8))
          clear hS6 hR6 hgq
          obtain ⟨hb, hhb⟩ : ∃ hb, hb = wo.heap.size := ⟨_, rfl⟩
          obtain ⟨tb, htb⟩ : ∃ tb, tb = wo.heap.size + 1 := ⟨_, rfl⟩
          rw [← htb, ← hhb] at hRw
          rw [← htb, ← hhb]
          replace hhb := hide hhb
          replace htb := hide htb
          go_loopw [9] (fun a wr => ∃ (j at_ : Nat), j ≤ nb ∧ Hid (at_ = 64 * j) ∧ a = .int .i64 at_ ∧ Hid (Rw w wr gq hb tb kb m (full l) (stB (full l) j))) (fun a _ => m - (intOf a).toNat)
          case atStart => exact ⟨0, 0, by omega, hide rfl, rfl, hRw⟩
          case round =>
            clear hRw
            obtain ⟨j, at_, hj, hat, rfl, hR⟩ := hrel
            by_cases hlt2 : j < nb
            · have hat64 : at_ + 64 ≤ m := by have := hat.out; have := hnb2.out; omega
              have c0 := (hR.out.word 0 (by omega)).1
              have c1 := (hR.out.word 1 (by omega)).1
              have c2 := (hR.out.word 2 (by omega)).1
              have c3 := (hR.out.word 3 (by omega)).1
              simp only [Q.at_] at c0 c1 c2 c3
              have hsu := hide (stB_u (full l) j)
              have hsn : Hid (stB (full l) (j + 1) = blk (stB (full l) j) ((full l).drop (64 * j))) := hide rfl
              generalize stB (full l) j = s at *
              obtain ⟨a, b, c, d⟩ := s
              have c0 : wr.cell? ⟨hb, 0, none⟩ = some (.int .u32 a) := c0
              have c1 : wr.cell? ⟨hb, 1, none⟩ = some (.int .u32 b) := c1
              have c2 : wr.cell? ⟨hb, 2, none⟩ = some (.int .u32 c) := c2
              have c3 : wr.cell? ⟨hb, 3, none⟩ = some (.int .u32 d) := c3
              go_wp2
              go_quiet (fail)
              clear c0 c1 c2 c3
              go_wp2
              obtain ⟨wp, hwp⟩ : ∃ wp : World, wp = wr := ⟨_, rfl⟩
              subst hwp
              go_loopw [10, 11, 12, 13, 14] (fun A B C D i wr => ∃ k : Nat, k ≤ 64 ∧ i = .int .i64 k ∧ Hid (Rw w wr gq hb tb kb m (full l) ⟨a, b, c, d⟩) ∧ A = .int .u32 (rnd (wd ((full l).drop (64 * j))) ⟨a, b, c, d⟩ k).a ∧ B = .int .u32 (rnd (wd ((full l).drop (64 * j))) ⟨a, b, c, d⟩ k).b ∧ C = .int .u32 (rnd (wd ((full l).drop (64 * j))) ⟨a, b, c, d⟩ k).c ∧ D = .int .u32 (rnd (wd ((full l).drop (64 * j))) ⟨a, b, c, d⟩ k).d) (fun _ _ _ _ i _ => 64 - (intOf i).toNat)
              case atStart => exact ⟨0, by omega, rfl, hide (hR.out.drewN _), rfl, rfl, rfl, rfl⟩
              case round =>
                clear hR
                obtain ⟨k, hk, rfl, hR, rfl, rfl, rfl, rfl⟩ := hrel
                obtain ⟨⟨hA1, hA2⟩, ⟨hB1, hB2⟩, ⟨hC1, hC2⟩, ⟨hD1, hD2⟩⟩ := rnd_u (wd ((full l).drop (64 * j))) ⟨a, b, c, d⟩ hsu.out k
                have hS : rnd (wd ((full l).drop (64 * j))) ⟨a, b, c, d⟩ (k + 1) = stp (wd ((full l).drop (64 * j))) k (rnd (wd ((full l).drop (64 * j))) ⟨a, b, c, d⟩ k) := rfl
                by_cases hlt : k < 64
                · generalize rnd (wd ((full l).drop (64 * j))) ⟨a, b, c, d⟩ k = s at *
                  obtain ⟨A, B, C, D⟩ := s
                  dsimp only at hA1 hA2 hB1 hB2 hC1 hC2 hD1 hD2
                  replace hS := hide hS
                  obtain ⟨s1, s2⟩ := sh_bd k hlt
                  obtain ⟨t1, t2⟩ := kl_bd k hlt
                  have hgb := gF_bd k hlt
                  have x1 := hR.out.turn k hlt
                  have x2 := hR.out.const k hlt
                  have ni : (4 * ((k : Int) / 16) + (k : Int) % 4).toNat = 4 * (k / 16) + k % 4 := by omega
                  obtain ⟨B0, hB0⟩ : ∃ B0, B0 = at_ + 4 * gF k := ⟨_, rfl⟩
                  have hB3 : B0 + 3 < m := by omega
                  have hpm : Hid (pm (full l) B0 4 = wd ((full l).drop (64 * j)) (gF k)) := hide (by rw [hB0, hat.out]; exact pm_wd _ _ _)
                  by_cases h0 : k / 16 = 0
                  · have y0 : ((k : Int) / 16 == 0) = true := by simp; omega
                    have y1 : ((k : Int) / 16 == 1) = false := by simp; omega
                    have y2 : ((k : Int) / 16 == 2) = false := by simp; omega
                    have hS' : Hid (stp (wd ((full l).drop (64 * j))) k ⟨A, B, C, D⟩ = ⟨D, (B + rl ((A + bits .or .u32 (bits .and .u32 B C) (bits .and .u32 (bits .xor .u32 IntKind.u32.max B) D) + gi kl k + wd ((full l).drop (64 * j)) (gF k)) % 4294967296) (sh k)) % 4294967296, B, C⟩) := hide (by simp only [stp, fF, nt, if_pos h0])
                    have hg : gF k = k := by unfold gF; rw [if_pos h0]
                    rw [hg] at hpm hB0 hS' hgb
                    clear hg
                    replace hB0 := hide hB0
                    replace h0 := hide h0
                    go_wp2
                    go_loop [18, 19] (fun x i => ∃ t : Nat, t ≤ 4 ∧ i = .int .i64 (3 - (t : Int)) ∧ x = .int .u32 (pm (full l) B0 t)) (fun _ i => (intOf i + 1).toNat)
                    case atStart => exact ⟨0, by omega, rfl, rfl⟩
                    case round =>
                      obtain ⟨t, ht, rfl, rfl⟩ := hrel
                      by_cases hlt4 : t < 4
                      · have hd : decide (3 - (t : Int) < 0) = false := by simp; omega
                        obtain ⟨q1, q2⟩ := pm_bd hqb.out B0 t (by omega)
                        have x3 := hR.out.byte (B0 + 3 - t) (by omega)
                        obtain ⟨q3, q4⟩ := hqb.out (B0 + 3 - t)
                        have hps : pm (full l) B0 (t + 1) = pm (full l) B0 t * 256 + gi (full l) (B0 + 3 - t) := rfl
                        have nj : ((at_ : Int) + 4 * (k : Nat) + (3 - (t : Int))).toNat = B0 + 3 - t := by have := hB0.out; omega
                        have nk : (at_ : Int) + 4 * (k : Nat) + (3 - (t : Int)) < (m : Int) := by have := hB0.out; omega
                        generalize pm (full l) B0 t = M at *
                        generalize gi (full l) (B0 + 3 - t) = X at *
                        replace hps := hide hps
                        go_wp2
                        go_round
                        case rel => exact ⟨t + 1, by omega, int_eq (by omega), by rw [hps.out]⟩
                        case measure => simp [intOf]; omega
                      · have hd : decide (3 - (t : Int) < 0) = true := by simp; omega
                        have ht4 : t = 4 := by omega
                        have hpm4 : Hid (pm (full l) B0 t = wd ((full l).drop (64 * j)) (k)) := hide (by rw [ht4]; exact hpm.out)
                        replace ht4 := hide ht4
                        generalize pm (full l) B0 t = M at *
                        go_wp2_with (first
                          | (go_at_call 19; (with_reducible refine (left_any _ _ _ ⟨by omega, by omega⟩ ⟨by omega, by omega⟩).mono ?_); rintro e w9 ⟨rfl, n9, rfl⟩))
                        go_roundw
                        case rel =>
                          first
                            | refine ⟨k + 1, by omega, by go_num, hide (hR.out.drewN _), ?_⟩
                            | ((repeat apply Exists.intro); refine ⟨⟨k + 1, by omega, by go_num, hide (hR.out.drewN _), ?_⟩, rfl⟩)
                          rw [hS.out, hS'.out, ← hpm4.out]
                          exact ⟨rfl, rfl, rfl, rfl⟩
                        case measure => simp [intOf]; omega
                  by_cases h1 : k / 16 = 1
                  · have y0 : ((k : Int) / 16 == 0) = false := by simp; omega
                    have y1 : ((k : Int) / 16 == 1) = true := by simp; omega
                    have y2 : ((k : Int) / 16 == 2) = false := by simp; omega
                    have hS' : Hid (stp (wd ((full l).drop (64 * j))) k ⟨A, B, C, D⟩ = ⟨D, (B + rl ((A + bits .or .u32 (bits .and .u32 D B) (bits .and .u32 (bits .xor .u32 IntKind.u32.max D) C) + gi kl k + wd ((full l).drop (64 * j)) (gF k)) % 4294967296) (sh k)) % 4294967296, B, C⟩) := hide (by simp only [stp, fF, nt, if_neg h0, if_pos h1])
                    have hg : (5 * (k : Int) + 1) % 16 = ((gF k : Nat) : Int) := by unfold gF; rw [if_neg h0, if_pos h1]; omega
                    replace hB0 := hide hB0
                    replace h0 := hide h0
                    replace h1 := hide h1
                    go_wp2
                    go_loop [18, 19] (fun x i => ∃ t : Nat, t ≤ 4 ∧ i = .int .i64 (3 - (t : Int)) ∧ x = .int .u32 (pm (full l) B0 t)) (fun _ i => (intOf i + 1).toNat)
                    case atStart => exact ⟨0, by omega, rfl, rfl⟩
                    case round =>
                      obtain ⟨t, ht, rfl, rfl⟩ := hrel
                      by_cases hlt4 : t < 4
                      · have hd : decide (3 - (t : Int) < 0) = false := by simp; omega
                        obtain ⟨q1, q2⟩ := pm_bd hqb.out B0 t (by omega)
                        have x3 := hR.out.byte (B0 + 3 - t) (by omega)
                        obtain ⟨q3, q4⟩ := hqb.out (B0 + 3 - t)
                        have hps : pm (full l) B0 (t + 1) = pm (full l) B0 t * 256 + gi (full l) (B0 + 3 - t) := rfl
                        have nj : ((at_ : Int) + 4 * (gF k : Nat) + (3 - (t : Int))).toNat = B0 + 3 - t := by have := hB0.out; omega
                        have nk : (at_ : Int) + 4 * (gF k : Nat) + (3 - (t : Int)) < (m : Int) := by have := hB0.out; omega
                        generalize pm (full l) B0 t = M at *
                        generalize gi (full l) (B0 + 3 - t) = X at *
                        replace hps := hide hps
                        go_wp2
                        go_round
                        case rel => exact ⟨t + 1, by omega, int_eq (by omega), by rw [hps.out]⟩
                        case measure => simp [intOf]; omega
                      · have hd : decide (3 - (t : Int) < 0) = true := by simp; omega
                        have ht4 : t = 4 := by omega
                        have hpm4 : Hid (pm (full l) B0 t = wd ((full l).drop (64 * j)) (gF k)) := hide (by rw [ht4]; exact hpm.out)
                        replace ht4 := hide ht4
                        generalize pm (full l) B0 t = M at *
                        go_wp2_with (first
                          | (go_at_call 19; (with_reducible refine (left_any _ _ _ ⟨by omega, by omega⟩ ⟨by omega, by omega⟩).mono ?_); rintro e w9 ⟨rfl, n9, rfl⟩))
                        go_roundw
                        case rel =>
                          first
                            | refine ⟨k + 1, by omega, by go_num, hide (hR.out.drewN _), ?_⟩
                            | ((repeat apply Exists.intro); refine ⟨⟨k + 1, by omega, by go_num, hide (hR.out.drewN _), ?_⟩, rfl⟩)
                          rw [hS.out, hS'.out, ← hpm4.out]
                          exact ⟨rfl, rfl, rfl, rfl⟩
                        case measure => simp [intOf]; omega
                  by_cases h2 : k / 16 = 2
                  · have y0 : ((k : Int) / 16 == 0) = false := by simp; omega
                    have y1 : ((k : Int) / 16 == 1) = false := by simp; omega
                    have y2 : ((k : Int) / 16 == 2) = true := by simp; omega
                    have hS' : Hid (stp (wd ((full l).drop (64 * j))) k ⟨A, B, C, D⟩ = ⟨D, (B + rl ((A + bits .xor .u32 (bits .xor .u32 B C) D + gi kl k + wd ((full l).drop (64 * j)) (gF k)) % 4294967296) (sh k)) % 4294967296, B, C⟩) := hide (by simp only [stp, fF, nt, if_neg h0, if_neg h1, if_pos h2])
                    have hg : (3 * (k : Int) + 5) % 16 = ((gF k : Nat) : Int) := by unfold gF; rw [if_neg h0, if_neg h1, if_pos h2]; omega
                    replace hB0 := hide hB0
                    replace h0 := hide h0
                    replace h1 := hide h1
                    replace h2 := hide h2
                    go_wp2
                    go_loop [18, 19] (fun x i => ∃ t : Nat, t ≤ 4 ∧ i = .int .i64 (3 - (t : Int)) ∧ x = .int .u32 (pm (full l) B0 t)) (fun _ i => (intOf i + 1).toNat)
                    case atStart => exact ⟨0, by omega, rfl, rfl⟩
                    case round =>
                      obtain ⟨t, ht, rfl, rfl⟩ := hrel
                      by_cases hlt4 : t < 4
                      · have hd : decide (3 - (t : Int) < 0) = false := by simp; omega
                        obtain ⟨q1, q2⟩ := pm_bd hqb.out B0 t (by omega)
                        have x3 := hR.out.byte (B0 + 3 - t) (by omega)
                        obtain ⟨q3, q4⟩ := hqb.out (B0 + 3 - t)
                        have hps : pm (full l) B0 (t + 1) = pm (full l) B0 t * 256 + gi (full l) (B0 + 3 - t) := rfl
                        have nj : ((at_ : Int) + 4 * (gF k : Nat) + (3 - (t : Int))).toNat = B0 + 3 - t := by have := hB0.out; omega
                        have nk : (at_ : Int) + 4 * (gF k : Nat) + (3 - (t : Int)) < (m : Int) := by have := hB0.out; omega
                        generalize pm (full l) B0 t = M at *
                        generalize gi (full l) (B0 + 3 - t) = X at *
                        replace hps := hide hps
                        go_wp2
                        go_round
                        case rel => exact ⟨t + 1, by omega, int_eq (by omega), by rw [hps.out]⟩
                        case measure => simp [intOf]; omega
                      · have hd : decide (3 - (t : Int) < 0) = true := by simp; omega
                        have ht4 : t = 4 := by omega
                        have hpm4 : Hid (pm (full l) B0 t = wd ((full l).drop (64 * j)) (gF k)) := hide (by rw [ht4]; exact hpm.out)
                        replace ht4 := hide ht4
                        generalize pm (full l) B0 t = M at *
                        go_wp2_with (first
                          | (go_at_call 19; (with_reducible refine (left_any _ _ _ ⟨by omega, by omega⟩ ⟨by omega, by omega⟩).mono ?_); rintro e w9 ⟨rfl, n9, rfl⟩))
                        go_roundw
                        case rel =>
                          first
                            | refine ⟨k + 1, by omega, by go_num, hide (hR.out.drewN _), ?_⟩
                            | ((repeat apply Exists.intro); refine ⟨⟨k + 1, by omega, by go_num, hide (hR.out.drewN _), ?_⟩, rfl⟩)
                          rw [hS.out, hS'.out, ← hpm4.out]
                          exact ⟨rfl, rfl, rfl, rfl⟩
                        case measure => simp [intOf]; omega
                  · have y0 : ((k : Int) / 16 == 0) = false := by simp; omega
                    have y1 : ((k : Int) / 16 == 1) = false := by simp; omega
                    have y2 : ((k : Int) / 16 == 2) = false := by simp; omega
                    have hS' : Hid (stp (wd ((full l).drop (64 * j))) k ⟨A, B, C, D⟩ = ⟨D, (B + rl ((A + bits .xor .u32 C (bits .or .u32 B (bits .xor .u32 IntKind.u32.max D)) + gi kl k + wd ((full l).drop (64 * j)) (gF k)) % 4294967296) (sh k)) % 4294967296, B, C⟩) := hide (by simp only [stp, fF, nt, if_neg h0, if_neg h1, if_neg h2])
                    have hg : 7 * (k : Int) % 16 = ((gF k : Nat) : Int) := by unfold gF; rw [if_neg h0, if_neg h1, if_neg h2]; omega
                    replace hB0 := hide hB0
                    replace h0 := hide h0
                    replace h1 := hide h1
                    replace h2 := hide h2
                    go_wp2
                    go_loop [18, 19] (fun x i => ∃ t : Nat, t ≤ 4 ∧ i = .int .i64 (3 - (t : Int)) ∧ x = .int .u32 (pm (full l) B0 t)) (fun _ i => (intOf i + 1).toNat)
                    case atStart => exact ⟨0, by omega, rfl, rfl⟩
                    case round =>
                      obtain ⟨t, ht, rfl, rfl⟩ := hrel
                      by_cases hlt4 : t < 4
                      · have hd : decide (3 - (t : Int) < 0) = false := by simp; omega
                        obtain ⟨q1, q2⟩ := pm_bd hqb.out B0 t (by omega)
                        have x3 := hR.out.byte (B0 + 3 - t) (by omega)
                        obtain ⟨q3, q4⟩ := hqb.out (B0 + 3 - t)
                        have hps : pm (full l) B0 (t + 1) = pm (full l) B0 t * 256 + gi (full l) (B0 + 3 - t) := rfl
                        have nj : ((at_ : Int) + 4 * (gF k : Nat) + (3 - (t : Int))).toNat = B0 + 3 - t := by have := hB0.out; omega
                        have nk : (at_ : Int) + 4 * (gF k : Nat) + (3 - (t : Int)) < (m : Int) := by have := hB0.out; omega
                        generalize pm (full l) B0 t = M at *
                        generalize gi (full l) (B0 + 3 - t) = X at *
                        replace hps := hide hps
                        go_wp2
                        go_round
                        case rel => exact ⟨t + 1, by omega, int_eq (by omega), by rw [hps.out]⟩
                        case measure => simp [intOf]; omega
                      · have hd : decide (3 - (t : Int) < 0) = true := by simp; omega
                        have ht4 : t = 4 := by omega
                        have hpm4 : Hid (pm (full l) B0 t = wd ((full l).drop (64 * j)) (gF k)) := hide (by rw [ht4]; exact hpm.out)
                        replace ht4 := hide ht4
                        generalize pm (full l) B0 t = M at *
                        go_wp2_with (first
                          | (go_at_call 19; (with_reducible refine (left_any _ _ _ ⟨by omega, by omega⟩ ⟨by omega, by omega⟩).mono ?_); rintro e w9 ⟨rfl, n9, rfl⟩))
                        go_roundw
                        case rel =>
                          first
                            | refine ⟨k + 1, by omega, by go_num, hide (hR.out.drewN _), ?_⟩
                            | ((repeat apply Exists.intro); refine ⟨⟨k + 1, by omega, by go_num, hide (hR.out.drewN _), ?_⟩, rfl⟩)
                          rw [hS.out, hS'.out, ← hpm4.out]
                          exact ⟨rfl, rfl, rfl, rfl⟩
                        case measure => simp [intOf]; omega
                · obtain rfl : k = 64 := by omega
                  clear hS
                  have w0 := hR.out.word 0 (by omega)
                  have w1 := hR.out.word 1 (by omega)
                  have w2 := hR.out.word 2 (by omega)
                  have w3 := hR.out.word 3 (by omega)
                  simp only [Q.at_] at w0 w1 w2 w3
                  obtain ⟨c0, f0⟩ := w0
                  obtain ⟨c1, f1⟩ := w1
                  obtain ⟨c2, f2⟩ := w2
                  obtain ⟨c3, f3⟩ := w3
                  have c0 : wr.cell? ⟨hb, 0, none⟩ = some (.int .u32 a) := c0
                  have c1 : wr.cell? ⟨hb, 1, none⟩ = some (.int .u32 b) := c1
                  have c2 : wr.cell? ⟨hb, 2, none⟩ = some (.int .u32 c) := c2
                  have c3 : wr.cell? ⟨hb, 3, none⟩ = some (.int .u32 d) := c3
                  have hB : Hid (blk ⟨a, b, c, d⟩ ((full l).drop (64 * j)) = ⟨(a + (rnd (wd ((full l).drop (64 * j))) ⟨a, b, c, d⟩ 64).a) % 4294967296, (b + (rnd (wd ((full l).drop (64 * j))) ⟨a, b, c, d⟩ 64).b) % 4294967296, (c + (rnd (wd ((full l).drop (64 * j))) ⟨a, b, c, d⟩ 64).c) % 4294967296, (d + (rnd (wd ((full l).drop (64 * j))) ⟨a, b, c, d⟩ 64).d) % 4294967296⟩) := hide rfl
                  generalize rnd (wd ((full l).drop (64 * j))) ⟨a, b, c, d⟩ 64 = s at *
                  obtain ⟨A, B, C, D⟩ := s
                  dsimp only at hA1 hA2 hB1 hB2 hC1 hC2 hD1 hD2
                  obtain ⟨⟨ha1, ha2⟩, ⟨hb1, hb2⟩, ⟨hc1, hc2⟩, ⟨hd1, hd2⟩⟩ := hsu.out
                  have ha1 : 0 ≤ a := ha1
                  have ha2 : a < 4294967296 := ha2
                  have hb1 : 0 ≤ b := hb1
                  have hb2 : b < 4294967296 := hb2
                  have hc1 : 0 ≤ c := hc1
                  have hc2 : c < 4294967296 := hc2
                  have hd1 : 0 ≤ d := hd1
                  have hd2 : d < 4294967296 := hd2
                  have hv := hide (hR.out.put ((a + A) % 4294967296) ((b + B) % 4294967296) ((c + C) % 4294967296) ((d + D) % 4294967296))
                  go_wp2
                  go_roundw
                  case rel =>
                    refine ⟨j + 1, at_ + 64, by omega, hide (by have := hat.out; omega), by go_num, ?_⟩
                    rw [hsn.out, hB.out]
                    exact hv
                  case measure => simp [intOf]; omega
            · have hjn : j = nb := by omega
              rw [hjn] at hR
              have hge : decide (at_ < m) = false := by have := hat.out; have := hnb2.out; simp; omega
              replace hjn := hide hjn
              have hO0 : Hid (Ov w wr hb (stB (full l) nb) (.slice none 0 0) 0) := hide ⟨hR.out.1, hR.out.2.2.1, Row.nil _ _ _ _, by simp [Value.ownBlock]⟩
              have hsu : Hid (∀ i, U ((stB (full l) nb).at_ i)) := hide (fun i => stB_at _ _ i)
              have hmd : Hid (md l = outB (stB (full l) nb) 16) := hide (by unfold md; rw [hnb.out])
              generalize stB (full l) nb = s at *
              clear hR
              go_wp2
              go_loopw [21, 22] (fun v i wr => ∃ (k n : Nat) (A : Option Addr) (c : Nat), k ≤ 4 ∧ i = .int .i64 k ∧ Hid (n = 4 * k) ∧ v = .slice A n c ∧ Hid (Ov w wr hb s v n)) (fun _ i _ => 4 - (intOf i).toNat)
              case atStart => exact ⟨0, 0, none, 0, by omega, rfl, hide rfl, rfl, hO0⟩
              case round =>
                clear hO0
                obtain ⟨k, n, A6, c6, hk, rfl, hn, rfl, hO⟩ := hrel
                by_cases hlt : k < 4
                · have x1 : wr.cell? ⟨hb, k, none⟩ = some (.int .u32 (s.at_ k)) := hO.out.word k hlt
                  obtain ⟨b1, b2⟩ := hsu.out k
                  obtain ⟨X, hX⟩ : ∃ X, X = s.at_ k := ⟨_, rfl⟩
                  rw [← hX] at x1 b1 b2
                  replace hX := hide hX
                  have hdk : decide ((k : Int) < 4) = true := by simp; omega
                  go_wp2
                  obtain ⟨wq, hwq⟩ : ∃ wq : World, wq = wr := ⟨_, rfl⟩
                  subst hwq
                  go_loopw [21, 23, 24] (fun v x i wr => ∃ (t m2 : Nat) (A : Option Addr) (c : Nat), t ≤ 4 ∧ i = .int .i64 t ∧ x = .int .u32 (X / 2 ^ (8 * t)) ∧ Hid (m2 = 4 * k + t) ∧ v = .slice A m2 c ∧ Hid (Ov w wr hb s v m2)) (fun _ _ i _ => 4 - (intOf i).toNat)
                  case atStart => exact ⟨0, n, A6, c6, by omega, rfl, by simp, hide (by rw [hn.out]; omega), rfl, hO⟩
                  case round =>
                    clear hO x1
                    obtain ⟨t, m2, A7, c7, ht, rfl, rfl, hm2, rfl, hO⟩ := hrel
                    by_cases hlt2 : t < 4
                    · obtain ⟨y, hy⟩ : ∃ y, y = X / 2 ^ (8 * t) := ⟨_, rfl⟩
                      have hy0 : 0 ≤ y ∧ y ≤ X := by
                        rw [hy]
                        exact ⟨Int.ediv_nonneg (by omega) (Int.pow_nonneg (by decide)), Int.ediv_le_self _ (by omega)⟩
                      have hy1 : X / 2 ^ (8 * (t + 1)) = y / 256 := by
                        rw [hy, Int.ediv_ediv_of_nonneg (Int.pow_nonneg (by decide)), show (8 * (t + 1)) = 8 * t + 8 from by omega, Int.pow_add]
                        rfl
                      obtain ⟨hy2, hy3⟩ := hy0
                      have hsn : Hid (outB s m2 ++ [y % 256] = outB s (m2 + 1)) := hide (by
                        rw [← outB_snoc, hy, hX.out, hm2.out, show (4 * k + t) / 4 = k from by omega, show (4 * k + t) % 4 = t from by omega])
                      have hm16 : m2 ≤ 16 := by have := hm2.out; omega
                      rw [← hy]
                      replace hy := hide hy
                      replace hy1 := hide hy1
                      go_wp2_with (first
                        | (at_builtin; refine list_app (.tmp 203) (.tmp 206) 22 5 _ 1 1 (ic .u8) rfl rfl (ic_len _) (ic_one _) Try.underlying22 elem5 (.slice A7 m2 c7) (outB s m2) (some ⟨wr.heap.size, 0, none⟩) 1 1 [y % 256] rfl rfl (hO.out.2.2.1.alloc _) (Rd.box wr (ic .u8) _ 5) ?_ ?_ ?_
                           (rw [outB_len]; simp [maxLen]; omega)
                           (rw [outB_len]; omega)
                           intro v5 w5 r5 g5 a5
                           obtain ⟨A5, c5, hv5, -, -⟩ := r5.slice
                           rw [hsn.out] at r5 hv5
                           rw [outB_len] at hv5
                           have hO5 : Hid (Ov w w5 hb s v5 (m2 + 1)) := hide (hO.out.app r5 g5 a5)
                           subst hv5))
                      go_roundw
                      case rel => exact ⟨t + 1, m2 + 1, A5, c5, by omega, by go_num, by rw [hy1.out], hide (by have := hm2.out; omega), rfl, hO5⟩
                      case measure => simp [intOf]; omega
                    · have ht4 : t = 4 := by omega
                      have hm4 : Hid (m2 = 4 * (k + 1)) := hide (by have := hm2.out; omega)
                      replace ht4 := hide ht4
                      generalize X / 2 ^ (8 * t) = y at *
                      go_wp2
                      go_roundw
                      case rel => exact ⟨k + 1, m2, A7, c7, by omega, by go_num, hm4, rfl, hO⟩
                      case measure => simp [intOf]; omega
                · have hk4 : k = 4 := by omega
                  have hn16 : n = 16 := by have := hn.out; omega
                  have hO6 := hO
                  replace hn16 := hide hn16
                  replace hk4 := hide hk4
                  clear hO
                  go_wp2
                  go_ret
                  have h := hO6.out
                  rw [hmd.out]
                  exact ⟨_, rfl, by have := h.2.2.1; rw [hn16.out] at this ⊢; exact this, h.2.2.2, h.1⟩
end Go.Proofs.Ytipkdhcbajcamaa
