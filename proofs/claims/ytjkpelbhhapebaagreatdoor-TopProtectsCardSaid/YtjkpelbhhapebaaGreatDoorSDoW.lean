/-
  sbc.Do, walked: READ, WRITE without tuples, COMPARE AND WRITE. Conditions: the range lies in the store; the blocks are well. sbc.Do, walked: WRITE without tuples, COMPARE AND WRITE. Conditions: the range lies in the store; the blocks are well.
-/
import Derived.Test.YtjkpelbhhapebaaGreatDoorCompare
namespace Go.Proofs.YtjkpelbhhapebaaGreatDoor
open Go.RowKit
open W (Nxt)
set_option maxRecDepth 100000
set_option maxHeartbeats 4000000 in
theorem sdo_read (B M dv p wb : Nat) (prot : Int) (c : Cm) (x : Wx) (F : Nat → Prop) (s : ByteArray) (cache : Bool) (P : Value) (w : World) (hd : DV w dv p prot) (hs : ST w p wb s cache) (hW : WU B w wb M x F) (hp : ¬ F p) (hdF : ¬ F dv) (hM : M < 80000) (hl : c.lba + c.blocks ≤ 32) (hkd : c.kind = 7) (h1 : 1 ≤ s.size) (h2 : s.size ≤ 32)
    (hf : Bytes (x.file s)) (hk : 0 ≤ prot ∧ prot ≤ 3) (hc : 0 ≤ c.prot ∧ (c.prot = 0 ∨ 0 < prot ∧ c.prot ≤ 4)) (hb : ∀ i, i < 32 → OkBl (blkAt (x.file s) i) ∧ WellAt prot i (blkAt (x.file s) i)) :
    Calls Tryz.prog 63 #[.pointer (some ⟨dv, 0, none⟩), .agg (cmA c), P] w fun e w' => ∃ A n cp, e = .returned (okR (.slice A n cp)) ∧ Row w' 5 1 (ic .u8) (.slice A n cp) (packL (c.prot != 0) (blks (x.file s) c.lba c.blocks)) ∧ (∀ k, (Value.slice A n cp).ownBlock = some k → w.heap.size ≤ k) ∧ WU B w' wb (M + c.blocks) x F ∧ Nxt B F F w w' := by
  have hbd := hide hW.bound
  have hBs : B ≤ w.heap.size := by
    obtain ⟨d, N, h, -⟩ := hW
    exact h.2.2
  have hN0 := hide (W.Nxt.refl F w hBs (fun k hk => (hbd.out k hk).1))
  have hkn := fun w => known_ok prot c.prot w hk hc.2
  have hwi := fun w => within_ok c.lba c.blocks 32 w (by omega) (by omega) (by omega) (by omega)
  replace hd := hide hd; replace hs := hide hs; replace hW := hide hW; replace hf := hide hf; replace hb := hide hb; replace hkn := hide hkn; replace hwi := hide hwi
  go_enter Tryz.func63, Tryz.ntmps63
  go_wp2_with (first
    | (refine list_box 104 (.tmp 1) rfl rfl (cmA c) rfl ?_
       intro w1 g hg hcm' m1 hz
       have hcm' : CM w1 g c := hcm'
       replace hcm' := hide hcm'; replace m1 := hide m1; replace hz := hide hz; replace hg := hide hg)
    | (refine list_al 35 _ new35' rfl rfl ?_
       intro W2 g6 hg6 h356 m6 hz6
       have m2 : Mod (fun _ => False) w W2 := m1.out.trans m6 (fun _ _ h => h)
       have hcm2 : CM W2 g c := hcm'.out.mod m6 (fun h => h)
       have hd2 := hd.out.mod m2 (fun h => h)
       have hs2 := hs.out.mod m2 (fun h => h)
       have k0 : W2.cell? ⟨g, 0, none⟩ = some (.int .u8 7) := by rw [hcm2.c0, hkd]
       have k2 := hcm2.c2
       have k3 := hcm2.c3
       have k6 := hcm2.c6
       have d0 := hd2.c0
       have d1 := hd2.c1
       replace hg6 := hide hg6; replace h356 := hide h356; replace m6 := hide m6; replace hz6 := hide hz6; replace m2 := hide m2; replace hcm2 := hide hcm2; replace hd2 := hide hd2; replace hs2 := hide hs2))
  go_quiet ((go_at_call 96; exact (hkn.out _).mono fun e w' h => ⟨h.1, _, h.2.symm⟩))
  go_wp2_with fail
  have hbl := fun n => blocks_in dv p wb prot s cache (W2.drewN n) hd2.out hs2.out
  replace hbl := hide hbl
  go_quiet ((first | (go_at_call 98; exact (hbl.out _).mono fun e w' h => ⟨h.1, _, h.2.symm⟩) | (go_at_call 97; exact (hwi.out _).mono fun e w' h => ⟨h.1, _, h.2.symm⟩)))
  have hN2 := fun n => hN0.out.add hBs (m2.out.drewN n)
  have hrd := fun n => sread_in B M dv p wb prot c x F s cache (W2.drewN n) hd2.out hs2.out (hW.out.mod (m2.out.drewN n) (fun _ _ h => h)) hp hdF (by omega) hl h1 h2 hf.out hk (by omega) hb.out
  have hpk := fun A n cp W hr => pack_any (c.prot != 0) A n cp (blks (x.file s) c.lba c.blocks) W hr
  have hgo := fun A n cp w => good_any A n cp w
  have hbo : ∀ b ∈ blks (x.file s) c.lba c.blocks, OkBl b := fun b hb' => by
    simp only [blks, List.mem_map, List.mem_range] at hb'
    obtain ⟨i, hi, rfl⟩ := hb'
    exact (hb.out (c.lba + i) (by omega)).1
  have hgF : ¬ F g := fun h => by have := (hbd.out _ h).2; have := hg.out; omega
  have hg6F : ¬ F g6 := fun h => by have := (hbd.out _ h).2; have := hg6.out; have := m1.out.size; omega
  replace hN2 := hide hN2; replace hrd := hide hrd; replace hpk := hide hpk; replace hgo := hide hgo; replace hbo := hide hbo
  clear k2 k3 k6 d0 d1
  go_wp2_with (first
    | (refine list_whole 104 (.tmp 4) rfl rfl ⟨g, 0, none⟩ (cmA c) rfl (load_whole (show (World.drewN W2 _).heap[g]? = _ from hcm2.out) Tryz.underlying104 rfl size104) ?_)
    | (go_at_call 100; (with_reducible refine (hrd.out _).mono ?_); rintro e w3 ⟨v, rfl, row3, own3, W3, N3⟩
       obtain ⟨A3, c3, rfl, -, -⟩ := row3.slice
       have N03 := (hN2.out _).trans N3
       have h63 := N3.1.heap (show (World.drewN W2 _).heap[g6]? = _ from h356.out) hg6F
       have hcm3 : CM w3 g c := N3.1.heap (show (World.drewN W2 _).heap[g]? = _ from hcm2.out) hgF
       replace row3 := hide row3; replace own3 := hide own3; replace W3 := hide W3; replace N03 := hide N03; replace h63 := hide h63; replace hcm3 := hide hcm3; clear N3)
    | (refine list_al 35 _ new35' rfl rfl ?_
       intro w4 g8 hg8 h84 m4 hz4
       replace hg8 := hide hg8; replace h84 := hide h84; replace m4 := hide m4; replace hz4 := hide hz4)
    | (refine list_put 35 (.tmp 8) (.tmp 64) rfl rfl g8 (rcA 0 0 0 0 false (.slice none 0 0)) rfl rfl zs35 h84.out rfl size35 (rc_one _ _ _ _ _ _ _ _) ?_
       intro w5 h5 m5
       have m35 : Mod (fun _ => False) w3 w5 := m4.out.trans m5 (fun i hi e => by have := hg8.out; omega)
       have k6 := (hcm3.out.mod m35 (fun h => h)).c6
       have row5 := row3.out.mod m35 (fun _ _ h => h)
       have hpk5 := hpk.out A3 _ c3 w5 (row5.rd encB_len rfl) (by rw [blks_len]; omega) hbo.out
       replace h5 := hide h5; replace m5 := hide m5; replace m35 := hide m35; replace row5 := hide row5; replace hpk5 := hide hpk5)
    | (go_at_call 102; (with_reducible refine hpk5.out.mono ?_); rintro e w6 ⟨v, rfl, row6, m6', own6⟩
       obtain ⟨A6, n6, c6, rfl⟩ := row6.form
       replace row6 := hide row6; replace m6' := hide m6'; replace own6 := hide own6)
    | (go_at_call 101; (with_reducible refine (hgo.out _ _ _ _).mono ?_); rintro e w7 ⟨rfl, m7⟩
       have h67 := m7.heap (m6'.out.heap (m35.out.heap h63.out (fun h => h)) (fun h => h)) (fun h => h)
       replace m7 := hide m7; replace h67 := hide h67)
    | (refine list_put 35 (.tmp 6) (.tmp 74) rfl rfl g6 (rcA 0 0 0 0 false (.slice A6 n6 c6)) rfl rfl zs35 h67.out rfl size35 (rc_one _ _ _ _ _ _ _ _) ?_
       intro w8 h8 m8; replace h8 := hide h8; replace m8 := hide m8))
  have M37 : Mod (fun _ => False) w3 w7 := (m35.out.trans m6'.out (fun _ _ h => h)).trans m7.out (fun _ _ h => h)
  have hg6w : w.heap.size ≤ g6 := by have := m1.out.size; have := hg6.out; omega
  refine bodyPost_ret (v := okR (.slice A6 n6 c6)) (results_one rfl rfl (load_whole h8.out Tryz.underlying35 rfl size35)) rfl ⟨A6, n6, c6, rfl, (row6.out.mod m7.out (fun _ _ h => h)).mod m8.out (fun k hk e => ?_), fun k hk => (by
    have q1 := own6.out k hk
    have q2 := m35.out.size
    have q3 := N03.out.1.size
    omega), (W3.out.mod M37 (fun _ _ h => h)).mod m8.out (fun k hk e => hg6F (e ▸ hk)), (N03.out.add (Nat.le_trans hBs N03.out.1.size) M37).new hBs m8.out hg6w⟩
  have q1 := own6.out k hk
  have q2 := (Array.getElem?_eq_some_iff.1 h63.out).1
  have q3 := m35.out.size
  omega
end Go.Proofs.YtjkpelbhhapebaaGreatDoor
namespace Go.Proofs.YtjkpelbhhapebaaGreatDoor
open Go.RowKit
open W (Nxt)
set_option maxRecDepth 100000
set_option maxHeartbeats 8000000 in
theorem sdo_write (B M dv p wb pb n pc : Nat) (prot : Int) (c : Cm) (x : Wx) (F : Nat → Prop) (s : ByteArray) (cache : Bool) (pl : List Int) (w : World) (hd : DV w dv p prot) (hs : ST w p wb s cache) (hW : WU B w wb M x F) (hp : ¬ F p) (_hdF : ¬ F dv) (hM : M < 80000) (hl : c.lba + c.blocks ≤ 32) (hkd : c.kind = 8) (h1 : 1 ≤ s.size) (h2 : s.size ≤ 32)
    (hk : 0 ≤ prot ∧ prot ≤ 3) (hc : c.prot = 0) (hr : Rd w 1 (ic .u8) (some ⟨pb, 0, none⟩) n pl) (hn : n = c.blocks * 16) (hn1 : 1 ≤ c.blocks) (hnc : n ≤ pc) (hcm : pc ≤ maxLen) (hpl : Bytes pl) :
    Calls Tryz.prog 63 #[.pointer (some ⟨dv, 0, none⟩), .agg (cmA c), .slice (some ⟨pb, 0, none⟩) n pc] w fun e w' => ∃ F', e = .returned (okR (.slice none 0 0)) ∧ WU B w' wb (M + 2 * c.blocks + 1) (laidX x s c.lba (tupd prot c.lba (unL pl c.blocks) c.blocks) (c.fua || !cache)) F' ∧ Nxt B F F' w w' := by
  have hbd := hide hW.bound
  have hBs : B ≤ w.heap.size := by
    obtain ⟨d, N, h, -⟩ := hW
    exact h.2.2
  have hN0 := hide (W.Nxt.refl F w hBs (fun k hk => (hbd.out k hk).1))
  have hkn := fun w => known_ok prot c.prot w hk (.inl hc)
  have hwi := fun w => within_ok c.lba c.blocks 32 w (by omega) (by omega) (by omega) (by omega)
  have hul : (unL pl c.blocks).length = c.blocks := unL_len _ _
  have huok := unL_ok pl c.blocks hpl (by rw [hr.1, hn])
  have hok1 : ∀ b ∈ tupd prot c.lba (unL pl c.blocks) c.blocks, OkBl b := by
    have := tupd_ok prot c.lba (unL pl c.blocks) huok (by omega) (by rw [hul]; omega)
    rwa [hul] at this
  have htl : (tupd prot c.lba (unL pl c.blocks) c.blocks).length = c.blocks := by rw [tupd_len, hul]
  have hco := fun W (m : Mod (fun _ => False) w W) => come_no dv p c.blocks n pc prot c (some ⟨pb, 0, none⟩) pl W (hd.mod m (fun h => h)) (hr.mod m (fun _ _ h => h)) hn hn1 (by omega) hnc hcm hpl hk hc (by omega)
  obtain ⟨fu, hfu⟩ : ∃ fu, fu = c.fua := ⟨_, rfl⟩
  rw [← hfu]
  generalize tupd prot c.lba (unL pl c.blocks) c.blocks = l at *
  replace hco := hide hco; replace hok1 := hide hok1; replace htl := hide htl; replace huok := hide huok; replace hr := hide hr; replace hpl := hide hpl; replace hul := hide hul; replace hn := hide hn; replace hfu := hide hfu; replace hc := hide hc
  replace hd := hide hd; replace hs := hide hs; replace hW := hide hW; replace hkn := hide hkn; replace hwi := hide hwi
  go_enter Tryz.func63, Tryz.ntmps63
  go_wp2_with (first
    | (refine list_box 104 (.tmp 1) rfl rfl (cmA c) rfl ?_
       intro w1 g hg hcm' m1 hz
       have hcm' : CM w1 g c := hcm'
       replace hcm' := hide hcm'; replace m1 := hide m1; replace hz := hide hz; replace hg := hide hg)
    | (refine list_al 35 _ new35' rfl rfl ?_
       intro W2 g6 hg6 h356 m6 hz6
       have m2 : Mod (fun _ => False) w W2 := m1.out.trans m6 (fun _ _ h => h)
       have hcm2 : CM W2 g c := hcm'.out.mod m6 (fun h => h)
       have hd2 := hd.out.mod m2 (fun h => h)
       have hs2 := hs.out.mod m2 (fun h => h)
       have k0 : W2.cell? ⟨g, 0, none⟩ = some (.int .u8 8) := by rw [hcm2.c0, hkd]
       have k2 := hcm2.c2
       have k3 := hcm2.c3
       have k6 := hcm2.c6
       have k5 : W2.cell? ⟨g, 5, none⟩ = some (.bool fu) := by rw [hfu.out]; exact hcm2.at_ 5
       have d0 := hd2.c0
       have d1 := hd2.c1
       replace hg6 := hide hg6; replace h356 := hide h356; replace m6 := hide m6; replace hz6 := hide hz6; replace m2 := hide m2; replace hcm2 := hide hcm2; replace hd2 := hide hd2; replace hs2 := hide hs2))
  go_quiet ((go_at_call 96; exact (hkn.out _).mono fun e w' h => ⟨h.1, _, h.2.symm⟩))
  go_wp2_with fail
  have hbl := fun n => blocks_in dv p wb prot s cache (W2.drewN n) hd2.out hs2.out
  replace hbl := hide hbl
  go_quiet ((first | (go_at_call 98; exact (hbl.out _).mono fun e w' h => ⟨h.1, _, h.2.symm⟩) | (go_at_call 97; exact (hwi.out _).mono fun e w' h => ⟨h.1, _, h.2.symm⟩)))
  have hN2 := fun n => hN0.out.add hBs (m2.out.drewN n)
  have hgF : ¬ F g := fun h => by have := (hbd.out _ h).2; have := hg.out; omega
  have hg6F : ¬ F g6 := fun h => by have := (hbd.out _ h).2; have := hg6.out; have := m1.out.size; omega
  replace hN2 := hide hN2
  clear k2 k5 k6 d0 d1
  have hsw := fun A3 c3 w5 hd5 hs5 hW5 hr5 hA5 => swrite_in B M dv p wb c3 prot x F s cache fu c.lba A3 l w5 hd5 hs5 hW5 hp (by omega) (by rw [htl.out]; exact hl) h1 h2 hr5 hA5 hok1.out
  replace hsw := hide hsw
  cases fu
  all_goals
   go_wp2_with (first
    | (refine list_whole 104 (.tmp 4) rfl rfl ⟨g, 0, none⟩ (cmA c) rfl (load_whole (show (World.drewN W2 _).heap[g]? = _ from hcm2.out) Tryz.underlying104 rfl size104) ?_)
    | (go_at_call 103; (with_reducible refine (hco.out _ (m2.out.drewN _)).mono ?_); rintro e w3 ⟨v, rfl, row3, own3, m3⟩
       obtain ⟨A3, c3, rfl, -, -⟩ := row3.slice
       have m03 : Mod (fun _ => False) w w3 := (m2.out.drewN _).trans m3 (fun _ _ h => h)
       have hcm3 : CM w3 g c := m3.heap (show (World.drewN W2 _).heap[g]? = _ from hcm2.out) (fun h => h)
       have h63 : w3.heap[g6]? = some (.cells zs35 35 (0, 0)) := m3.heap (show (World.drewN W2 _).heap[g6]? = _ from h356.out) (fun h => h)
       have own3w : ∀ k, (Value.slice A3 l.length c3).ownBlock = some k → w.heap.size ≤ k := fun k hk => by
         have z1 := own3 k hk
         have z2 := m2.out.size
         simp at z1
         omega
       replace row3 := hide row3; replace own3 := hide own3; replace m3 := hide m3; replace m03 := hide m03; replace hcm3 := hide hcm3; replace h63 := hide h63; replace own3w := hide own3w)
    | (refine list_al 35 _ new35' rfl rfl ?_
       intro w4 g8 hg8 h84 m4 hz4
       replace hg8 := hide hg8; replace h84 := hide h84; replace m4 := hide m4; replace hz4 := hide hz4)
    | (refine list_put 35 (.tmp 11) (.tmp 86) rfl rfl g8 (rcA 0 0 0 0 false (.slice none 0 0)) rfl rfl zs35 h84.out rfl size35 (rc_one _ _ _ _ _ _ _ _) ?_
       intro w5 h5 m5
       have m35 : Mod (fun _ => False) w3 w5 := m4.out.trans m5 (fun i hi e => by have := hg8.out; omega)
       have m05 : Mod (fun _ => False) w w5 := m03.out.trans m35 (fun _ _ h => h)
       have hcm5 := hcm3.out.mod m35 (fun h => h)
       have q2 := hcm5.c2
       have q0 : w5.cell? ⟨g, 0, none⟩ = some (.int .u8 8) := by rw [hcm5.c0, hkd]
       have q5 : w5.cell? ⟨g, 5, none⟩ = some (.bool c.fua) := hcm5.at_ 5
       rw [← hfu.out] at q5
       have row5 := row3.out.mod m35 (fun _ _ h => h)
       have hg6w : w.heap.size ≤ g6 := by have := m1.out.size; have := hg6.out; omega
       have hwr := hsw.out A3 c3 w5 (hd.out.mod m05 (fun h => h)) (hs.out.mod m05 (fun h => h)) (hW.out.mod m05 (fun _ _ h => h)) (row5.rd encB_len rfl) (fun ad e => by
         subst e
         have z1 := own3w.out ad.block rfl
         have z2 := row5.lt ad.block rfl
         exact ⟨fun h => by have := (hbd.out _ h).2; omega, z2⟩)
       have h65 := m35.heap h63.out (fun h => h)
       have hN5 := hN0.out.add hBs m05
       replace h5 := hide h5; replace m5 := hide m5; replace m35 := hide m35; replace m05 := hide m05; replace hcm5 := hide hcm5; replace row5 := hide row5; replace hwr := hide hwr; replace h65 := hide h65; replace hN5 := hide hN5)
    | (go_at_call 104; (with_reducible refine hwr.out.mono ?_); rintro e w6 ⟨F', rfl, W6, N6⟩
       have h66 := N6.1.heap h65.out hg6F
       have hF'6 : ¬ F' g6 := fun h => hg6F (N6.2.2 _ (Array.getElem?_eq_some_iff.1 h65.out).1 h)
       replace W6 := hide W6; replace N6 := hide N6; replace h66 := hide h66)
    | (refine list_put 35 (.tmp 6) (.tmp 102) rfl rfl g6 (rcA 0 0 0 0 false (.slice none 0 0)) rfl rfl zs35 h66.out rfl size35 (rc_one _ _ _ _ _ _ _ _) ?_
       intro w8 h8 m8; replace h8 := hide h8; replace m8 := hide m8))
  all_goals
    refine bodyPost_ret (v := okR (.slice none 0 0)) (results_one rfl rfl (load_whole h8.out Tryz.underlying35 rfl size35)) rfl ⟨F', rfl, by have := W6.out; rw [htl.out] at this; exact this.mod m8.out (fun k hk e => hF'6 (e ▸ hk)), (hN5.out.trans N6.out).new hBs m8.out hg6w⟩
set_option maxHeartbeats 4000000 in
theorem sdo_cmp (B M dv p wb pc : Nat) (prot : Int) (c : Cm) (x : Wx) (F : Nat → Prop) (s : ByteArray) (cache : Bool) (pb : Nat) (pl : List Int) (w : World) (hd : DV w dv p prot) (hs : ST w p wb s cache) (hW : WU B w wb M x F) (hp : ¬ F p) (hdF : ¬ F dv) (hM : M < 80000) (hl : c.lba + c.blocks ≤ 32) (hkd : c.kind = 14) (hb1 : c.blocks = 1) (h1 : 1 ≤ s.size) (h2 : s.size ≤ 32)
    (hf : Bytes (x.file s)) (hk : 0 ≤ prot ∧ prot ≤ 3) (hc : c.prot = 0) (hb : ∀ i, i < 32 → OkBl (blkAt (x.file s) i) ∧ WellAt prot i (blkAt (x.file s) i))
    (hr : Rd w 1 (ic .u8) (some ⟨pb, 0, none⟩) 32 pl) (hnc : 32 ≤ pc) (hcm : pc ≤ maxLen) (hpl : Bytes pl) :
    Calls Tryz.prog 63 #[.pointer (some ⟨dv, 0, none⟩), .agg (cmA c), .slice (some ⟨pb, 0, none⟩) 32 pc] w fun e w' => ∃ F' r x' M', M' ≤ M + 4 ∧ e = .returned (if r < 0 then okR (.slice none 0 0) else rsA 2 14 7424 r true (.slice none 0 0)) ∧
      Fd (blkAt (x.file s) c.lba).d (pl.take 16) r ∧ x' = (if r < 0 then laidX x s c.lba (tupd prot c.lba (unL (pl.drop 16) 1) 1) (c.fua || !cache) else x) ∧ WU B w' wb M' x' F' ∧ Nxt B F F' w w' := by
  have hbd := hide hW.bound
  have hBs : B ≤ w.heap.size := by
    obtain ⟨d, N, h, -⟩ := hW
    exact h.2.2
  have hN0 := hide (W.Nxt.refl F w hBs (fun k hk => (hbd.out k hk).1))
  have hkn := fun w => known_ok prot c.prot w hk (.inl hc)
  have hwi := fun w => within_ok c.lba c.blocks 32 w (by omega) (by omega) (by omega) (by omega)
  have hcmp := fun W (m : Mod (fun _ => False) w W) => compare_in B M dv p wb pc prot c x F s cache pb pl W (hd.mod m (fun h => h)) (hs.mod m (fun h => h)) (hW.mod m (fun _ _ h => h)) hp hdF hM (by omega) hb1 h1 h2 hf hk hc hb (hr.mod m (fun _ _ h => h)) hnc hcm hpl
  clear hb1
  replace hc := hide hc; replace hf := hide hf; replace hb := hide hb; replace hr := hide hr; replace hpl := hide hpl
  replace hd := hide hd; replace hs := hide hs; replace hW := hide hW; replace hkn := hide hkn; replace hwi := hide hwi; replace hcmp := hide hcmp
  go_enter Tryz.func63, Tryz.ntmps63
  go_wp2_with (first
    | (refine list_box 104 (.tmp 1) rfl rfl (cmA c) rfl ?_
       intro w1 g hg hcm' m1 hz
       have hcm' : CM w1 g c := hcm'
       replace hcm' := hide hcm'; replace m1 := hide m1; replace hz := hide hz; replace hg := hide hg)
    | (refine list_al 35 _ new35' rfl rfl ?_
       intro W2 g6 hg6 h356 m6 hz6
       have m2 : Mod (fun _ => False) w W2 := m1.out.trans m6 (fun _ _ h => h)
       have hcm2 : CM W2 g c := hcm'.out.mod m6 (fun h => h)
       have hd2 := hd.out.mod m2 (fun h => h)
       have hs2 := hs.out.mod m2 (fun h => h)
       have k0 : W2.cell? ⟨g, 0, none⟩ = some (.int .u8 14) := by rw [hcm2.c0, hkd]
       have k2 := hcm2.c2
       have k3 := hcm2.c3
       have k6 := hcm2.c6
       have d0 := hd2.c0
       have d1 := hd2.c1
       replace hg6 := hide hg6; replace h356 := hide h356; replace m6 := hide m6; replace hz6 := hide hz6; replace m2 := hide m2; replace hcm2 := hide hcm2; replace hd2 := hide hd2; replace hs2 := hide hs2))
  go_quiet ((go_at_call 96; exact (hkn.out _).mono fun e w' h => ⟨h.1, _, h.2.symm⟩))
  go_wp2_with fail
  have hbl := fun n => blocks_in dv p wb prot s cache (W2.drewN n) hd2.out hs2.out
  replace hbl := hide hbl
  go_quiet ((first | (go_at_call 98; exact (hbl.out _).mono fun e w' h => ⟨h.1, _, h.2.symm⟩) | (go_at_call 97; exact (hwi.out _).mono fun e w' h => ⟨h.1, _, h.2.symm⟩)))
  have hgF : ¬ F g := fun h => by have := (hbd.out _ h).2; have := hg.out; omega
  have hg6F : ¬ F g6 := fun h => by have := (hbd.out _ h).2; have := hg6.out; have := m1.out.size; omega
  have hg6w : w.heap.size ≤ g6 := by have := m1.out.size; have := hg6.out; omega
  clear k2 k3 k6 d0 d1
  go_wp2_with (first
    | (refine list_whole 104 (.tmp 4) rfl rfl ⟨g, 0, none⟩ (cmA c) rfl (load_whole (show (World.drewN W2 _).heap[g]? = _ from hcm2.out) Tryz.underlying104 rfl size104) ?_)
    | (go_at_call 109; (with_reducible refine (hcmp.out _ (m2.out.drewN _)).mono ?_); rintro e w3 ⟨F', r, x', M', hM', rfl, hfd, hx', W3, N3⟩
       have N03 := (hN0.out.add hBs (m2.out.drewN _)).trans N3
       have h63 : w3.heap[g6]? = some (.cells zs35 35 (0, 0)) := N3.1.heap (show (World.drewN W2 _).heap[g6]? = _ from h356.out) hg6F
       have hF'6 : ¬ F' g6 := fun h => hg6F (N3.2.2 _ (show g6 < (World.drewN W2 _).heap.size from (Array.getElem?_eq_some_iff.1 h356.out).1) h)
       obtain ⟨cs, hcs, h1cs, hcz⟩ : ∃ cs : Array Value, (if r < 0 then okR (.slice none 0 0) else rsA 2 14 7424 r true (.slice none 0 0)) = .agg cs ∧ cs.all (·.oneCell') = true ∧ cs.size = 10 := by
         split
         · exact ⟨_, rfl, rc_one _ _ _ _ _ _ _ _, rfl⟩
         · exact ⟨_, rfl, rc_one _ _ _ _ _ _ _ _, rfl⟩
       rw [hcs]
       replace hcs := hide hcs; replace hfd := hide hfd; replace hx' := hide hx'; replace W3 := hide W3; replace N03 := hide N03; replace h63 := hide h63; replace h1cs := hide h1cs; replace hcz := hide hcz; clear N3)
    | (refine list_put 35 (.tmp 6) (.tmp 136) rfl rfl g6 cs rfl rfl zs35 h63.out (by rw [hcz.out]; rfl) (by rw [hcz.out]; exact size35) h1cs.out ?_
       intro w8 h8 m8; replace h8 := hide h8; replace m8 := hide m8))
  refine bodyPost_ret (v := .agg cs) (results_one rfl rfl (load_whole h8.out Tryz.underlying35 rfl (by rw [hcz.out]; exact size35))) rfl ⟨F', r, x', M', hM', by rw [hcs.out], hfd.out, hx'.out, W3.out.mod m8.out (fun k hk e => hF'6 (e ▸ hk)), N03.out.new hBs m8.out hg6w⟩
end Go.Proofs.YtjkpelbhhapebaaGreatDoor
