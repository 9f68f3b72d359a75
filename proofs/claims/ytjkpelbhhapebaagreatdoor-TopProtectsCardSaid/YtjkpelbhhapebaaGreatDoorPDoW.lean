/-
  sbc.come, walked: the blocks that came with their tuples, looked at. Condition: whole blocks, all well. sbc.Do, walked: WRITE with tuples. Conditions: the range lies in the store; the blocks are well.
-/
import Derived.Test.YtjkpelbhhapebaaGreatDoorPUn
import Derived.Test.YtjkpelbhhapebaaGreatDoorCome
import Derived.StillTailTactics
import Derived.Test.YtjkpelbhhapebaaGreatDoorSDoW
namespace Go.Proofs.YtjkpelbhhapebaaGreatDoor
open Go.RowKit
open W (Nxt)
set_option maxRecDepth 100000
set_option maxHeartbeats 4000000 in
theorem come_yes (dv p cnt n pc : Nat) (prot : Int) (c : Cm) (A : Option Addr) (pl : List Int) (w : World) (hd : DV w dv p prot) (hr : Rd w 1 (ic .u8) A n pl) (hn : n = cnt * 24) (hc1 : 1 ≤ cnt) (hcn : cnt ≤ 4096) (hnc : n ≤ pc) (hcm : pc ≤ maxLen) (hpl : Bytes pl)
    (hk0 : 0 ≤ prot ∧ prot ≤ 3) (hc : 1 ≤ c.prot ∧ c.prot ≤ 4) (hlba : c.lba ≤ 100000) (hb : ∀ i, i < cnt → OkBl (gi (unT pl cnt) i) ∧ WellAt prot ((c.lba : Int) + i) (gi (unT pl cnt) i)) :
    Calls Tryz.prog 103 #[.pointer (some ⟨dv, 0, none⟩), .agg (cmA c), .slice A n pc, .int .u64 cnt] w fun e w' => ∃ v, e = .returned (.tuple #[v, okR (.slice none 0 0), .bool true]) ∧ Row w' 259 19 encB v (unT pl cnt) ∧ (∀ k, v.ownBlock = some k → w.heap.size ≤ k) ∧ Mod (fun _ => False) w w' := by
  have hun := fun w' (m : Mod (fun _ => False) w w') => unpack_yes A n cnt pc pl w' (hr.mod m (fun _ _ h => h)) hn hcn hnc hcm hpl
  have hul := unT_len pl cnt
  have hne : (c.prot != 0) = true := by simp; omega
  generalize unT pl cnt = l at *
  replace hd := hide hd; replace hr := hide hr; replace hpl := hide hpl; replace hun := hide hun; replace hn := hide hn; replace hb := hide hb
  go_enter Tryz.func103, Tryz.ntmps103
  go_wp2_with (first
    | (refine list_box 104 (.tmp 1) rfl rfl (cmA c) rfl ?_
       intro w1 g hg hcm m1 hz
       have hcm : CM w1 g c := hcm
       have k6 := hcm.c6
       have m2 : Mod (fun _ => False) w (w1.alloc (.cells zs35 35)) := m1.alloc _
       have k62 := ((Mod.refl (fun _ => False) w1).alloc (.cells zs35 35)).cell k6 (fun h => h)
       have h35 := new35 w1
       have hu2 := hun.out _ m2
       have hcm2 := hcm.mod ((Mod.refl (fun _ => False) w1).alloc (.cells zs35 35)) (fun h => h)
       clear k6
       replace hcm := hide hcm; replace m1 := hide m1; replace hz := hide hz; replace hg := hide hg; replace m2 := hide m2; replace hu2 := hide hu2; replace h35 := hide h35; replace hcm2 := hide hcm2)
    | (go_at_call 134; (with_reducible refine hu2.out.mono ?_); rintro e w3 ⟨v, rfl, hrow, m3, hown⟩
       obtain ⟨A3, c3, rfl, -, -⟩ := hrow.slice
       rw [hul]
       replace hrow := hide hrow; replace hown := hide hown; replace m3 := hide m3))
  have hd3 := (hd.out.mod m2.out (fun h => h)).mod m3.out (fun h => h)
  have hcm3 := hcm2.out.mod m3.out (fun h => h)
  have h353 := m3.out.heap h35.out (fun h => h)
  have hrow3 : Row w3 259 19 encB (.slice A3 cnt c3) l := by have := hrow.out; rwa [hul] at this
  replace hd3 := hide hd3; replace hcm3 := hide hcm3; replace h353 := hide h353; replace hrow3 := hide hrow3
  have hP : Hid (Mod (fun _ => False) w3 w3) := hide (Mod.refl _ _)
  go_loopw [38] (fun v wr => ∃ k : Nat, k ≤ cnt ∧ v = .int .i64 k ∧ Hid (Mod (fun _ => False) w3 wr)) (fun v _ => cnt - (intOf v).toNat)
  case atStart => exact ⟨0, by omega, rfl, hP⟩
  case round =>
    obtain ⟨k, hk, rfl, mR⟩ := hrel
    clear hP
    by_cases hlk : k < cnt
    · obtain ⟨ad, rfl, hcb⟩ := ((hrow3.out.rd encB_len rfl).mod mR.out (fun _ _ h => h)).elemB k hlk
      obtain ⟨hok, hwell⟩ := hb.out k hlk
      have hck : ∀ w, Calls Tryz.prog 137 #[.int .u8 prot, .int .u8 c.prot, .int .u64 ((c.lba : Int) + k), .agg (encB (gi l k)).toArray] w fun e w' => e = .returned (.int .u16 0) ∧ Mod (fun _ => False) w w' := fun w =>
        check_ok prot c.prot ((c.lba : Int) + k) (gi l k) w hk0 (by omega) (by omega) hok hwell
      generalize gi l k = b at *
      replace hck := hide hck
      have hdr := hd3.out.mod mR.out (fun h => h)
      have hcr := hcm3.out.mod mR.out (fun h => h)
      have k2 := hcr.c2
      have k6 := hcr.c6
      have d1 := hdr.c1
      replace hcb := hide hcb; replace hok := hide hok; replace hwell := hide hwell; replace hdr := hide hdr; replace hcr := hide hcr
      go_wp2_with fail
      refine wp_region_still_tail 11 (by kernel_rfl) (by kernel_rfl) ?_
      simp only [List.take_succ_cons, List.take_zero, List.drop_succ_cons, List.drop_zero]
      repeat (first
        | (refine still_load 259 (.tmp 72) rfl rfl _ Tryz.underlying259 rfl (ad.add (k * 19)) (encB b) (size259' _) rfl hcb.out ?_)
        | still_step)
      refine wpStill_nil ?_
      change wpList _ _ _ _ _ wr.drew
      go_wp2_with (go_at_call 137; (with_reducible refine (hck.out _).mono ?_); rintro e w6 ⟨rfl, m6⟩
                   replace m6 := hide m6)
      go_roundw
      case rel => exact ⟨k + 1, by omega, by go_num, hide (mR.out.drew.trans m6.out (fun _ _ h => h))⟩
      case measure => simp [intOf]; omega
    · obtain rfl : k = cnt := by omega
      have h35r := mR.out.heap h353.out (fun h => h)
      replace h35r := hide h35r
      go_wp2_with (first
        | (refine list_put 35 (.tmp 9) (.tmp 82) rfl rfl w1.heap.size (rcA 0 0 0 0 false (.slice none 0 0)) rfl rfl zs35 h35r.out rfl size35 (rc_one _ _ _ _ _ _ _ _) ?_
           intro w7 h7 m7; replace h7 := hide h7; replace m7 := hide m7))
      have M4 : Mod (fun _ => False) w wr := (m2.out.trans m3.out (fun _ _ h => h)).trans mR.out (fun _ _ h => h)
      have h1 := m1.out.size
      exact bodyPost_ret (v := .tuple #[.slice A3 k c3, okR (.slice none 0 0), .bool true]) (results_mid rfl rfl (load_whole h7.out Tryz.underlying35 rfl size35) rfl rfl) rfl ⟨_, rfl,
        (hrow3.out.mod mR.out (fun _ _ h => h)).mod m7.out (fun j hj e => by
          subst e
          have q1 := hown.out w1.heap.size (by rw [hul]; exact hj)
          have q2 := (Array.getElem?_eq_some_iff.1 h35.out).1
          exact absurd q1 (Nat.not_le.2 q2)),
        fun j hj => by
          have q1 := hown.out j (by rw [hul]; exact hj)
          have q2 := m2.out.size
          omega, M4.trans m7.out (fun i hi e => by omega)⟩
end Go.Proofs.YtjkpelbhhapebaaGreatDoor
namespace Go.Proofs.YtjkpelbhhapebaaGreatDoor
open Go.RowKit
open W (Nxt)
set_option maxRecDepth 100000
set_option maxHeartbeats 8000000 in
theorem sdo_writeT (B M dv p wb pb n pc : Nat) (prot : Int) (c : Cm) (x : Wx) (F : Nat → Prop) (s : ByteArray) (cache : Bool) (pl : List Int) (w : World) (hd : DV w dv p prot) (hs : ST w p wb s cache) (hW : WU B w wb M x F) (hp : ¬ F p) (_hdF : ¬ F dv) (hM : M < 80000) (hl : c.lba + c.blocks ≤ 32) (hkd : c.kind = 8) (h1 : 1 ≤ s.size) (h2 : s.size ≤ 32)
    (hk : 0 ≤ prot ∧ prot ≤ 3) (hp0 : 0 < prot) (hc : 1 ≤ c.prot ∧ c.prot ≤ 4) (hr : Rd w 1 (ic .u8) (some ⟨pb, 0, none⟩) n pl) (hn : n = c.blocks * 24) (hn1 : 1 ≤ c.blocks) (hnc : n ≤ pc) (hcm : pc ≤ maxLen) (hpl : Bytes pl)
    (hb : ∀ i, i < c.blocks → OkBl (gi (unT pl c.blocks) i) ∧ WellAt prot ((c.lba : Int) + i) (gi (unT pl c.blocks) i)) :
    Calls Tryz.prog 63 #[.pointer (some ⟨dv, 0, none⟩), .agg (cmA c), .slice (some ⟨pb, 0, none⟩) n pc] w fun e w' => ∃ F', e = .returned (okR (.slice none 0 0)) ∧ WU B w' wb (M + 2 * c.blocks + 1) (laidX x s c.lba (unT pl c.blocks) (c.fua || !cache)) F' ∧ Nxt B F F' w w' := by
  have hbd := hide hW.bound
  have hBs : B ≤ w.heap.size := by
    obtain ⟨d, N, h, -⟩ := hW
    exact h.2.2
  have hN0 := hide (W.Nxt.refl F w hBs (fun k hk => (hbd.out k hk).1))
  have hkn := fun w => known_ok prot c.prot w hk (.inr ⟨hp0, by omega⟩)
  have hwi := fun w => within_ok c.lba c.blocks 32 w (by omega) (by omega) (by omega) (by omega)
  have htl : (unT pl c.blocks).length = c.blocks := unT_len _ _
  have hok1 : ∀ b ∈ unT pl c.blocks, OkBl b := fun b hb' => by
    obtain ⟨i, hi, rfl⟩ := List.getElem_of_mem hb'
    have := (hb i (by rw [htl] at hi; exact hi)).1
    rwa [gi_eq _ i hi] at this
  have hco := fun W (m : Mod (fun _ => False) w W) => come_yes dv p c.blocks n pc prot c (some ⟨pb, 0, none⟩) pl W (hd.mod m (fun h => h)) (hr.mod m (fun _ _ h => h)) hn hn1 (by omega) hnc hcm hpl hk hc (by omega) hb
  obtain ⟨fu, hfu⟩ : ∃ fu, fu = c.fua := ⟨_, rfl⟩
  rw [← hfu]
  generalize unT pl c.blocks = l at *
  replace hco := hide hco; replace hok1 := hide hok1; replace htl := hide htl; replace hr := hide hr; replace hpl := hide hpl; replace hb := hide hb; replace hn := hide hn; replace hfu := hide hfu; replace hc := hide hc
  replace hd := hide hd; replace hs := hide hs; replace hW := hide hW; replace hkn := hide hkn; replace hwi := hide hwi
  go_enter Tryz.func63, Tryz.ntmps63
  go_wp2_with (first
    | (refine list_box 104 (.tmp 1) rfl rfl (cmA c) rfl ?_
       intro w1 g hg hcm' m1 hz
       have hcm' : CM w1 g c := hcm'
       replace hcm' := hide hcm'; replace m1 := hide m1; replace hz := hide hz; replace hg := hide hg)
    | (refine list_al 35 _ new35' rfl rfl ?_
       intro W2 g6 hg6 h356 m6 hz6
       have m2 : Mod (fun _ => False) w W2 := m1.out.trans m6 (fun _ _ h => h)
       have hcm2 : CM W2 g c := hcm'.out.mod m6 (fun h => h)
       have hd2 := hd.out.mod m2 (fun h => h)
       have hs2 := hs.out.mod m2 (fun h => h)
       have k0 : W2.cell? ⟨g, 0, none⟩ = some (.int .u8 8) := by rw [hcm2.c0, hkd]
       have k2 := hcm2.c2
       have k3 := hcm2.c3
       have k6 := hcm2.c6
       have k5 : W2.cell? ⟨g, 5, none⟩ = some (.bool fu) := by rw [hfu.out]; exact hcm2.at_ 5
       have d0 := hd2.c0
       have d1 := hd2.c1
       replace hg6 := hide hg6; replace h356 := hide h356; replace m6 := hide m6; replace hz6 := hide hz6; replace m2 := hide m2; replace hcm2 := hide hcm2; replace hd2 := hide hd2; replace hs2 := hide hs2))
  go_quiet ((go_at_call 96; exact (hkn.out _).mono fun e w' h => ⟨h.1, _, h.2.symm⟩))
  go_wp2_with fail
  have hbl := fun n => blocks_in dv p wb prot s cache (W2.drewN n) hd2.out hs2.out
  replace hbl := hide hbl
  go_quiet ((first | (go_at_call 98; exact (hbl.out _).mono fun e w' h => ⟨h.1, _, h.2.symm⟩) | (go_at_call 97; exact (hwi.out _).mono fun e w' h => ⟨h.1, _, h.2.symm⟩)))
  have hN2 := fun n => hN0.out.add hBs (m2.out.drewN n)
  have hgF : ¬ F g := fun h => by have := (hbd.out _ h).2; have := hg.out; omega
  have hg6F : ¬ F g6 := fun h => by have := (hbd.out _ h).2; have := hg6.out; have := m1.out.size; omega
  replace hN2 := hide hN2
  clear k2 k5 k6 d0 d1
  have hsw := fun A3 c3 w5 hd5 hs5 hW5 hr5 hA5 => swrite_in B M dv p wb c3 prot x F s cache fu c.lba A3 l w5 hd5 hs5 hW5 hp (by omega) (by rw [htl.out]; exact hl) h1 h2 hr5 hA5 hok1.out
  replace hsw := hide hsw
  cases fu
  all_goals
   go_wp2_with (first
    | (refine list_whole 104 (.tmp 4) rfl rfl ⟨g, 0, none⟩ (cmA c) rfl (load_whole (show (World.drewN W2 _).heap[g]? = _ from hcm2.out) Tryz.underlying104 rfl size104) ?_)
    | (go_at_call 103; (with_reducible refine (hco.out _ (m2.out.drewN _)).mono ?_); rintro e w3 ⟨v, rfl, row3, own3, m3⟩
       obtain ⟨A3, c3, rfl, -, -⟩ := row3.slice
       have m03 : Mod (fun _ => False) w w3 := (m2.out.drewN _).trans m3 (fun _ _ h => h)
       have hcm3 : CM w3 g c := m3.heap (show (World.drewN W2 _).heap[g]? = _ from hcm2.out) (fun h => h)
       have h63 : w3.heap[g6]? = some (.cells zs35 35 (0, 0)) := m3.heap (show (World.drewN W2 _).heap[g6]? = _ from h356.out) (fun h => h)
       have own3w : ∀ k, (Value.slice A3 l.length c3).ownBlock = some k → w.heap.size ≤ k := fun k hk => by
         have z1 := own3 k hk
         have z2 := m2.out.size
         simp at z1
         omega
       replace row3 := hide row3; replace own3 := hide own3; replace m3 := hide m3; replace m03 := hide m03; replace hcm3 := hide hcm3; replace h63 := hide h63; replace own3w := hide own3w)
    | (refine list_al 35 _ new35' rfl rfl ?_
       intro w4 g8 hg8 h84 m4 hz4
       replace hg8 := hide hg8; replace h84 := hide h84; replace m4 := hide m4; replace hz4 := hide hz4)
    | (refine list_put 35 (.tmp 11) (.tmp 86) rfl rfl g8 (rcA 0 0 0 0 false (.slice none 0 0)) rfl rfl zs35 h84.out rfl size35 (rc_one _ _ _ _ _ _ _ _) ?_
       intro w5 h5 m5
       have m35 : Mod (fun _ => False) w3 w5 := m4.out.trans m5 (fun i hi e => by have := hg8.out; omega)
       have m05 : Mod (fun _ => False) w w5 := m03.out.trans m35 (fun _ _ h => h)
       have hcm5 := hcm3.out.mod m35 (fun h => h)
       have q2 := hcm5.c2
       have q0 : w5.cell? ⟨g, 0, none⟩ = some (.int .u8 8) := by rw [hcm5.c0, hkd]
       have q5 : w5.cell? ⟨g, 5, none⟩ = some (.bool c.fua) := hcm5.at_ 5
       rw [← hfu.out] at q5
       have row5 := row3.out.mod m35 (fun _ _ h => h)
       have hg6w : w.heap.size ≤ g6 := by have := m1.out.size; have := hg6.out; omega
       have hwr := hsw.out A3 c3 w5 (hd.out.mod m05 (fun h => h)) (hs.out.mod m05 (fun h => h)) (hW.out.mod m05 (fun _ _ h => h)) (row5.rd encB_len rfl) (fun ad e => by
         subst e
         have z1 := own3w.out ad.block rfl
         have z2 := row5.lt ad.block rfl
         exact ⟨fun h => by have := (hbd.out _ h).2; omega, z2⟩)
       have h65 := m35.heap h63.out (fun h => h)
       have hN5 := hN0.out.add hBs m05
       replace h5 := hide h5; replace m5 := hide m5; replace m35 := hide m35; replace m05 := hide m05; replace hcm5 := hide hcm5; replace row5 := hide row5; replace hwr := hide hwr; replace h65 := hide h65; replace hN5 := hide hN5)
    | (go_at_call 104; (with_reducible refine hwr.out.mono ?_); rintro e w6 ⟨F', rfl, W6, N6⟩
       have h66 := N6.1.heap h65.out hg6F
       have hF'6 : ¬ F' g6 := fun h => hg6F (N6.2.2 _ (Array.getElem?_eq_some_iff.1 h65.out).1 h)
       replace W6 := hide W6; replace N6 := hide N6; replace h66 := hide h66)
    | (refine list_put 35 (.tmp 6) (.tmp 102) rfl rfl g6 (rcA 0 0 0 0 false (.slice none 0 0)) rfl rfl zs35 h66.out rfl size35 (rc_one _ _ _ _ _ _ _ _) ?_
       intro w8 h8 m8; replace h8 := hide h8; replace m8 := hide m8))
  all_goals
    refine bodyPost_ret (v := okR (.slice none 0 0)) (results_one rfl rfl (load_whole h8.out Tryz.underlying35 rfl size35)) rfl ⟨F', rfl, by have := W6.out; rw [htl.out] at this; exact this.mod m8.out (fun k hk e => hF'6 (e ▸ hk)), (hN5.out.trans N6.out).new hBs m8.out hg6w⟩
end Go.Proofs.YtjkpelbhhapebaaGreatDoor
