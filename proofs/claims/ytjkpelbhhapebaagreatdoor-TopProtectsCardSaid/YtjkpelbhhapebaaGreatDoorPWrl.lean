/-
  SYNCHRONIZE CACHE and WRITE SAME of 16 bytes, taken apart and parsed. Conditions: as stated. The commands of TopProtects at the unit, and what stands between two of them. Conditions: nothing is reserved, nothing is kept from being written; what is in the store is well. The steps of TopProtects' script, and what a round of it needs. Plain.
-/
import Derived.Test.YtjkpelbhhapebaaGreatDoorCmds
import Derived.Test.YtjkpelbhhapebaaGreatDoorPPlain
import Derived.Test.YtjkpelbhhapebaaGreatDoorPDo
import Derived.Test.YtjkpelbhhapebaaGreatDoorPDoW
namespace Go.Proofs.YtjkpelbhhapebaaGreatDoor
open Go.RowKit
set_option maxRecDepth 100000
theorem blocks_sy (g cap ab lba blocks : Nat) (L : List Int) (w : World) (hcm : CM w g (cm0 11)) (hr : Rd w 1 (ic .u8) (some ⟨ab, 0, none⟩) 16 L) (hb : Bytes L) (hcap : 16 ≤ cap) (hAg : ab ≠ g)
    (h1 : val ((L.drop 2).take 8) = lba) (h2 : val ((L.drop 10).take 4) = blocks) (hf : gi L 1 = 0) :
    Calls Tryz.prog 75 #[.pointer (some ⟨g, 0, none⟩), .slice (some ⟨ab, 0, none⟩) 16 cap] w fun e w' => e = .returned (.tuple #[.int .i64 (-1), .int .i64 0]) ∧ CM w' g (cmB 11 lba blocks false 0 false) ∧ Mod (fun k => k = g) w w' := by
  have hsp := span_in g cap lba blocks ⟨ab, 0, none⟩ 11 L w hcm hr hb hcap h1 h2
  have hlt := hcm.lt
  have hc1 := rd_at hr 1 (by omega)
  rw [hf] at hc1
  replace hsp := hide hsp; replace hcm := hide hcm; replace hr := hide hr; replace hb := hide hb; replace h1 := hide h1; replace h2 := hide h2; replace hf := hide hf; replace hc1 := hide hc1
  go_enter Tryz.func75, Tryz.ntmps75
  go_wp2_with (go_at_call 119; (with_reducible refine hsp.out.mono ?_); rintro e w1 ⟨rfl, hcm1, m1⟩
               have k0 : w1.cell? ⟨g, 0, none⟩ = some (.int .u8 11) := hcm1.c0
               have k3 : w1.cell? ⟨g, 3, none⟩ = some (.int .u64 (blocks : Int)) := hcm1.c3
               have k6 : w1.cell? ⟨g, 6, none⟩ = some (.int .u8 0) := hcm1.c6
               have z1 := hcm1.set 6 (.int .u8 0) (cmB 11 lba blocks false 0 false) rfl
               have z2 := z1.1.set 6 (.int .u8 0) (cmB 11 lba blocks false 0 false) rfl
               have hE : Hid (CM ((w1.setCell ⟨g, 6, none⟩ (.int .u8 0)).setCell ⟨g, 6, none⟩ (.int .u8 0)) g (cmB 11 lba blocks false 0 false) ∧ Mod (fun k => k = g) w ((w1.setCell ⟨g, 6, none⟩ (.int .u8 0)).setCell ⟨g, 6, none⟩ (.int .u8 0))) := hide ⟨z2.1, m1.trans (z1.2.trans z2.2 (fun _ _ h => h)) (fun _ _ h => h)⟩
               clear z1 z2
               have hc2 := m1.cell hc1.out (fun e => hAg e)
               have f6 := hcm1.fr 6
               replace hcm1 := hide hcm1; replace m1 := hide m1)
  go_ret2
  exact ⟨rfl, hE.out⟩
theorem blocks_sa (g cap ab lba blocks : Nat) (f : Int) (um : Bool) (L : List Int) (w : World) (hcm : CM w g (cm0 12)) (hr : Rd w 1 (ic .u8) (some ⟨ab, 0, none⟩) 16 L) (hb : Bytes L) (hcap : 16 ≤ cap) (hAg : ab ≠ g)
    (h1 : val ((L.drop 2).take 8) = lba) (h2 : val ((L.drop 10).take 4) = blocks) (hf : gi L 1 = f) (hf1 : f / 32 = 0) (hf2 : (bits BinOp.and IntKind.u8 f 8 != 0) = um) :
    Calls Tryz.prog 75 #[.pointer (some ⟨g, 0, none⟩), .slice (some ⟨ab, 0, none⟩) 16 cap] w fun e w' => e = .returned (.tuple #[.int .i64 (-1), .int .i64 0]) ∧ CM w' g (cmB 12 lba blocks false 0 um) ∧ Mod (fun k => k = g) w w' := by
  have hsp := span_in g cap lba blocks ⟨ab, 0, none⟩ 12 L w hcm hr hb hcap h1 h2
  have hlt := hcm.lt
  have hc1 := rd_at hr 1 (by omega)
  rw [hf] at hc1
  replace hsp := hide hsp; replace hcm := hide hcm; replace hr := hide hr; replace hb := hide hb; replace h1 := hide h1; replace h2 := hide h2; replace hf := hide hf; replace hc1 := hide hc1
  go_enter Tryz.func75, Tryz.ntmps75
  go_wp2_with (go_at_call 119; (with_reducible refine hsp.out.mono ?_); rintro e w1 ⟨rfl, hcm1, m1⟩
               have k0 : w1.cell? ⟨g, 0, none⟩ = some (.int .u8 12) := hcm1.c0
               have k3 : w1.cell? ⟨g, 3, none⟩ = some (.int .u64 (blocks : Int)) := hcm1.c3
               have k6 : w1.cell? ⟨g, 6, none⟩ = some (.int .u8 0) := hcm1.c6
               have k7 : w1.cell? ⟨g, 7, none⟩ = some (.bool false) := hcm1.at_ 7
               have z1 := hcm1.set 6 (.int .u8 0) (cmB 12 lba blocks false 0 false) rfl
               have z2 := z1.1.set 7 (.bool um) (cmB 12 lba blocks false 0 um) rfl
               have hE : Hid (CM ((w1.setCell ⟨g, 6, none⟩ (.int .u8 0)).setCell ⟨g, 7, none⟩ (.bool um)) g (cmB 12 lba blocks false 0 um) ∧ Mod (fun k => k = g) w ((w1.setCell ⟨g, 6, none⟩ (.int .u8 0)).setCell ⟨g, 7, none⟩ (.bool um))) := hide ⟨z2.1, m1.trans (z1.2.trans z2.2 (fun _ _ h => h)) (fun _ _ h => h)⟩
               clear z1 z2
               have hc2 := m1.cell hc1.out (fun e => hAg e)
               have f6 := hcm1.fr 6
               have f7 := hcm1.fr 7
               replace hcm1 := hide hcm1; replace m1 := hide m1)
  go_ret2
  exact ⟨rfl, hE.out⟩
theorem fill_sy (g cap ab lba blocks : Nat) (sv : Int) (L : List Int) (w : World) (hcm : CM w g (cm0 11)) (hr : Rd w 1 (ic .u8) (some ⟨ab, 0, none⟩) 16 L) (hb : Bytes L) (hcap : 16 ≤ cap) (hAg : ab ≠ g)
    (h1 : val ((L.drop 2).take 8) = lba) (h2 : val ((L.drop 10).take 4) = blocks) (hf : gi L 1 = 0) :
    Calls Tryz.prog 48 #[.pointer (some ⟨g, 0, none⟩), .slice (some ⟨ab, 0, none⟩) 16 cap, .int .u8 sv] w fun e w' => e = .returned (.tuple #[.int .i64 (-1), .int .i64 0]) ∧ CM w' g (cmB 11 lba blocks false 0 false) ∧ Mod (fun k => k = g) w w' := by
  have hbk := blocks_sy g cap ab lba blocks L w hcm hr hb hcap hAg h1 h2 hf
  have k0 : w.cell? ⟨g, 0, none⟩ = some (.int .u8 11) := hcm.c0
  replace hbk := hide hbk; replace hcm := hide hcm; replace hr := hide hr; replace hb := hide hb; replace h1 := hide h1; replace h2 := hide h2; replace hf := hide hf
  go_enter Tryz.func48, Tryz.ntmps48
  go_wp2_with (go_at_call 75; (with_reducible refine hbk.out.mono ?_); rintro e w1 ⟨rfl, hE⟩
               replace hE := hide hE)
  go_ret2
  exact ⟨rfl, hE.out⟩
theorem fill_sa (g cap ab lba blocks : Nat) (f sv : Int) (um : Bool) (L : List Int) (w : World) (hcm : CM w g (cm0 12)) (hr : Rd w 1 (ic .u8) (some ⟨ab, 0, none⟩) 16 L) (hb : Bytes L) (hcap : 16 ≤ cap) (hAg : ab ≠ g)
    (h1 : val ((L.drop 2).take 8) = lba) (h2 : val ((L.drop 10).take 4) = blocks) (hf : gi L 1 = f) (hf1 : f / 32 = 0) (hf2 : (bits BinOp.and IntKind.u8 f 8 != 0) = um) :
    Calls Tryz.prog 48 #[.pointer (some ⟨g, 0, none⟩), .slice (some ⟨ab, 0, none⟩) 16 cap, .int .u8 sv] w fun e w' => e = .returned (.tuple #[.int .i64 (-1), .int .i64 0]) ∧ CM w' g (cmB 12 lba blocks false 0 um) ∧ Mod (fun k => k = g) w w' := by
  have hbk := blocks_sa g cap ab lba blocks f um L w hcm hr hb hcap hAg h1 h2 hf hf1 hf2
  have k0 : w.cell? ⟨g, 0, none⟩ = some (.int .u8 12) := hcm.c0
  clear hf1 hf2
  replace hbk := hide hbk; replace hcm := hide hcm; replace hr := hide hr; replace hb := hide hb; replace h1 := hide h1; replace h2 := hide h2; replace hf := hide hf
  go_enter Tryz.func48, Tryz.ntmps48
  go_wp2_with (go_at_call 75; (with_reducible refine hbk.out.mono ?_); rintro e w1 ⟨rfl, hE⟩
               replace hE := hide hE)
  go_ret2
  exact ⟨rfl, hE.out⟩
theorem z232 : bits BinOp.andNot IntKind.u8 0 232 = 0 := by decide
theorem parse_sy (lba n ab cap : Nat) (w : World) (h3 : lba ≤ 255) (h4 : n ≤ 255) (hr : Rd w 1 (ic .u8) (some ⟨ab, 0, none⟩) 16 (onB 145 0 lba n)) (hc : 16 ≤ cap) :
    Calls Tryz.prog 22 #[.slice (some ⟨ab, 0, none⟩) 16 cap] w fun e w' => e = .returned (.tuple #[.agg (cmA (cmB 11 lba n false 0 false)), .agg (seA 0 0 0 false), .bool true]) ∧ Mod (fun _ => False) w w' := by
  have hb : Bytes (onB 145 0 lba n) := bytes_onB (by decide) (by decide) (by omega) (by omega)
  have hv := val_onB 145 0 lba n
  exact parse_any 145 11 16 ab cap _ _ _ w rfl rfl rfl rfl hr (by omega) hc (by omega) rfl rfl (fun i hi => by
      rcases lt16 hi with rfl | rfl | rfl | rfl | rfl | rfl | rfl | rfl | rfl | rfl | rfl | rfl | rfl | rfl | rfl | rfl
      any_goals (first | exact z255 | exact z00 | exact z248)
      · exact (by decide : bits BinOp.andNot IntKind.u8 145 145 = 0)
      · exact andNot_all lba (by omega)
      · exact andNot_all n (by omega)) (fun W => usage_91 0 W) (fun W => kind_any 145 11 (by decide) W)
      (fun W g hcm hr' hne => fill_sy g cap ab lba n 0 _ W hcm hr' hb hc hne hv.1 hv.2 rfl)
/-- The flags of WRITE SAME. -/
def FlagS (f : Int) (um : Bool) : Prop := bits BinOp.andNot IntKind.u8 f 232 = 0 ∧ f / 32 = 0 ∧ (bits BinOp.and IntKind.u8 f 8 != 0) = um ∧ 0 ≤ f ∧ f ≤ 255
theorem parse_sa (f : Int) (um : Bool) (lba n ab cap : Nat) (w : World) (hf : FlagS f um) (h3 : lba ≤ 255) (h4 : n ≤ 255) (hr : Rd w 1 (ic .u8) (some ⟨ab, 0, none⟩) 16 (onB 147 f lba n)) (hc : 16 ≤ cap) :
    Calls Tryz.prog 22 #[.slice (some ⟨ab, 0, none⟩) 16 cap] w fun e w' => e = .returned (.tuple #[.agg (cmA (cmB 12 lba n false 0 um)), .agg (seA 0 0 0 false), .bool true]) ∧ Mod (fun _ => False) w w' := by
  obtain ⟨f1, f2, f3, f4, f5⟩ := hf
  have hb : Bytes (onB 147 f lba n) := bytes_onB (by decide) ⟨f4, f5⟩ (by omega) (by omega)
  have hv := val_onB 147 f lba n
  exact parse_any 147 12 16 ab cap _ _ _ w rfl rfl rfl rfl hr (by omega) hc (by omega) rfl rfl (fun i hi => by
      rcases lt16 hi with rfl | rfl | rfl | rfl | rfl | rfl | rfl | rfl | rfl | rfl | rfl | rfl | rfl | rfl | rfl | rfl
      any_goals (first | exact z255 | exact z00 | exact f1)
      · exact (by decide : bits BinOp.andNot IntKind.u8 147 147 = 0)
      · exact andNot_all lba (by omega)
      · exact andNot_all n (by omega)) (fun W => usage_93 0 W) (fun W => kind_any 147 12 (by decide) W)
      (fun W g hcm hr' hne => fill_sa g cap ab lba n f 0 um _ W hcm hr' hb hc hne hv.1 hv.2 rfl f2 f3)
end Go.Proofs.YtjkpelbhhapebaaGreatDoor
namespace Go.Proofs.YtjkpelbhhapebaaGreatDoor
open Go.RowKit
open W (Nxt)
set_option maxRecDepth 100000
section
variable {B : Nat} {c : Nat → Nat} {w : World} {a : UA} {S : US}
/-- A command that went well and told nothing. -/
abbrev Fine (a : UA) (S2 : US) : Int → Int → Int → Int → Bool → List Int → UA → US → Prop := fun st key code info has Q a2 S' => st = 0 ∧ key = 0 ∧ code = 0 ∧ info = 0 ∧ has = false ∧ Q = [] ∧ a2.wb = a.wb ∧ S' = S2
/-- What the device did to the world. -/
theorem UN.dev0 (h : UN B c w a S 0) {F : Nat → Prop} (hF : ∀ k, F k → c k = 1) (M' : Nat) (x' : Wx) (w' : World) (hW' : ∃ F', WU B w' a.wb M' x' F' ∧ Nxt B F F' w w') :
    ResP B c w a.u (Fine a { S with x := x', bd := M' }) (.returned (okR (.slice none 0 0))) w' := by
  obtain ⟨F', hW', hN⟩ := hW'
  obtain ⟨c', q1, q2⟩ := h.world hF M' x' hW' hN
  exact ⟨0, 0, 0, 0, false, none, 0, 0, [], c', a, _, rfl, Row.nil _ _ _ _, by simp [Value.ownBlock], q1, rfl, q2, rfl, rfl, rfl, rfl, rfl, rfl, rfl, rfl⟩
/-- READ at the device, by the file's own bytes. -/
theorem UN.devreadW (h : UN B c w a S 0) (hD : WI S.prot S.x) (cm : Cm) (P : Value) (hM : S.bd < 80000) (hl : cm.lba + cm.blocks ≤ 32) (hkd : cm.kind = 7) (hk : 0 ≤ S.prot ∧ S.prot ≤ 3) (hc : 0 ≤ cm.prot ∧ (cm.prot = 0 ∨ 0 < S.prot ∧ cm.prot ≤ 4)) :
    Calls Tryz.prog 63 #[.pointer (some ⟨a.dv, 0, none⟩), .agg (cmA cm), P] w (ResP B c w a.u fun st key code info has Q a2 S2 => st = 0 ∧ key = 0 ∧ code = 0 ∧ info = 0 ∧ has = false ∧ Q = packL (cm.prot != 0) (blks (S.x.file sd) cm.lba cm.blocks) ∧ a2.wb = a.wb ∧ S2 = { S with bd := S.bd + cm.blocks }) := by
  obtain ⟨F, hW, hF⟩ := h.wu
  obtain ⟨f1, f2⟩ := hD.file
  obtain ⟨n1, n2⟩ := h.nF hF
  refine (sdo_read B S.bd a.dv a.p a.wb S.prot cm S.x F sd S.cache P w h.dev.1 h.sto.1 hW n1 n2 hM hl hkd (by decide) (by decide) f1 hk hc f2).mono ?_
  rintro e w' ⟨A, n, cp, rfl, hrow, hown, hW', hN⟩
  obtain ⟨q1, q2⟩ := h.world0 hF (S.bd + cm.blocks) S.x hW' hN
  exact ⟨0, 0, 0, 0, false, A, n, cp, _, c, a, _, rfl, hrow, fun k hk => ⟨hown k hk, h.sup k (hown k hk)⟩, q1, rfl, q2, rfl, rfl, rfl, rfl, rfl, rfl, rfl, rfl⟩
theorem UN.devwriteG (h : UN B c w a S 0) (cm : Cm) (pb pc np : Nat) (pl : List Int) (hM : S.bd < 80000) (hl : cm.lba + cm.blocks ≤ 32) (hkd : cm.kind = 8) (hk : 0 ≤ S.prot ∧ S.prot ≤ 3) (hc : cm.prot = 0)
    (hr : Rd w 1 (ic .u8) (some ⟨pb, 0, none⟩) np pl) (hn : np = cm.blocks * 16) (hn1 : 1 ≤ cm.blocks) (hnc : np ≤ pc) (hcm : pc ≤ maxLen) (hpl : Bytes pl) :
    Calls Tryz.prog 63 #[.pointer (some ⟨a.dv, 0, none⟩), .agg (cmA cm), .slice (some ⟨pb, 0, none⟩) np pc] w (ResP B c w a.u (Fine a { S with x := laidX S.x sd cm.lba (tupd S.prot cm.lba (unL pl cm.blocks) cm.blocks) (cm.fua || !S.cache), bd := S.bd + 2 * cm.blocks + 1 })) := by
  obtain ⟨F, hW, hF⟩ := h.wu
  obtain ⟨n1, n2⟩ := h.nF hF
  refine (sdo_write B S.bd a.dv a.p a.wb pb np pc S.prot cm S.x F sd S.cache pl w h.dev.1 h.sto.1 hW n1 n2 hM hl hkd (by decide) (by decide) hk hc hr hn hn1 hnc hcm hpl).mono ?_
  rintro e w' ⟨F', rfl, hW', hN⟩
  exact h.dev0 hF _ _ w' ⟨F', hW', hN⟩
theorem UN.devwriteT (h : UN B c w a S 0) (cm : Cm) (pb pc np : Nat) (pl : List Int) (hM : S.bd < 80000) (hl : cm.lba + cm.blocks ≤ 32) (hkd : cm.kind = 8) (hk : 0 ≤ S.prot ∧ S.prot ≤ 3) (hp0 : 0 < S.prot) (hc : 1 ≤ cm.prot ∧ cm.prot ≤ 4)
    (hr : Rd w 1 (ic .u8) (some ⟨pb, 0, none⟩) np pl) (hn : np = cm.blocks * 24) (hn1 : 1 ≤ cm.blocks) (hnc : np ≤ pc) (hcm : pc ≤ maxLen) (hpl : Bytes pl) (hb : ∀ i, i < cm.blocks → OkBl (gi (unT pl cm.blocks) i) ∧ WellAt S.prot ((cm.lba : Int) + i) (gi (unT pl cm.blocks) i)) :
    Calls Tryz.prog 63 #[.pointer (some ⟨a.dv, 0, none⟩), .agg (cmA cm), .slice (some ⟨pb, 0, none⟩) np pc] w (ResP B c w a.u (Fine a { S with x := laidX S.x sd cm.lba (unT pl cm.blocks) (cm.fua || !S.cache), bd := S.bd + 2 * cm.blocks + 1 })) := by
  obtain ⟨F, hW, hF⟩ := h.wu
  obtain ⟨n1, n2⟩ := h.nF hF
  refine (sdo_writeT B S.bd a.dv a.p a.wb pb np pc S.prot cm S.x F sd S.cache pl w h.dev.1 h.sto.1 hW n1 n2 hM hl hkd (by decide) (by decide) hk hp0 hc hr hn hn1 hnc hcm hpl hb).mono ?_
  rintro e w' ⟨F', rfl, hW', hN⟩
  exact h.dev0 hF _ _ w' ⟨F', hW', hN⟩
theorem UN.devsync (h : UN B c w a S 0) (cm : Cm) (P : Value) (hM : S.bd < 80000) (hl : cm.lba + cm.blocks ≤ 32) (hkd : cm.kind = 11) (hk : 0 ≤ S.prot ∧ S.prot ≤ 3) (hc : cm.prot = 0) :
    Calls Tryz.prog 63 #[.pointer (some ⟨a.dv, 0, none⟩), .agg (cmA cm), P] w (ResP B c w a.u (Fine a { S with x := S.x.synced, bd := S.bd + 1 })) := by
  obtain ⟨F, hW, hF⟩ := h.wu
  obtain ⟨n1, n2⟩ := h.nF hF
  refine (sdo_sync B S.bd a.dv a.p a.wb S.prot cm S.x F sd S.cache P w h.dev.1 h.sto.1 hW n1 n2 hM hl hkd hk hc).mono ?_
  rintro e w' ⟨F', rfl, hW', hN⟩
  exact h.dev0 hF _ _ w' ⟨F', hW', hN⟩
theorem UN.devsame (h : UN B c w a S 0) (hca : S.cache = true) (cm : Cm) (pb pc : Nat) (pl : List Int) (hM : S.bd < 80000) (hl : cm.lba + cm.blocks ≤ 32) (hkd : cm.kind = 12) (hk : 0 ≤ S.prot ∧ S.prot ≤ 3) (hc : cm.prot = 0)
    (hr : Rd w 1 (ic .u8) (some ⟨pb, 0, none⟩) 16 pl) (hn1 : 1 ≤ cm.blocks) (hnc : 16 ≤ pc) (hcm : pc ≤ maxLen) (hpl : Bytes pl) (um : Bool) (hum : um = (cm.unmap && pl == List.replicate 16 0)) :
    Calls Tryz.prog 63 #[.pointer (some ⟨a.dv, 0, none⟩), .agg (cmA cm), .slice (some ⟨pb, 0, none⟩) 16 pc] w (ResP B c w a.u (Fine a { S with x := if um then unmN S.x sd cm.lba cm.blocks else laidX S.x sd cm.lba (samL S.prot cm.lba pl cm.blocks) false, bd := S.bd + 2 * cm.blocks + 1 })) := by
  obtain ⟨F, hW, hF⟩ := h.wu
  obtain ⟨n1, n2⟩ := h.nF hF
  have hs := h.sto.1
  rw [hca] at hs
  refine (sdo_same B S.bd a.dv a.p a.wb pb pc S.prot cm S.x F sd pl w h.dev.1 hs hW n1 n2 hM hl hkd (by decide) (by decide) hk hc hr hn1 hnc hcm hpl um hum).mono ?_
  rintro e w' ⟨F', rfl, hW', hN⟩
  exact h.dev0 hF _ _ w' ⟨F', hW', hN⟩
end
/-- What a command of the device does, from the nexus's side. -/
theorem unit_dev (B : Nat) (c : Nat → Nat) (a : UA) (S : US) (n ab cap : Nat) (L : List Int) (cm : Cm) (P : Value) (w : World) (h : UN B c w a S 0) (hdn : S.done = 1) (h8 : n < 8) (hq : S.L n = []) (hT : S.T.kind = 0) (hsw : S.now.c = false)
    (hr : Rd w 1 (ic .u8) (some ⟨ab, 0, none⟩) 16 L) (hab : c ab = 0) (hpa : ∀ W, Rd W 1 (ic .u8) (some ⟨ab, 0, none⟩) 16 L → Calls Tryz.prog 22 #[.slice (some ⟨ab, 0, none⟩) 16 cap] W fun e w' => e = .returned (.tuple #[.agg (cmA cm), .agg (seA 0 0 0 false), .bool true]) ∧ Mod (fun _ => False) W w')
    (k cls : Int) (al : Bool) (hkd : cm.kind = k) (hk : k ∈ [7, 8, 11, 12, 14]) (hcl : (k, cls) ∈ classOf) (hal : (k, al) ∈ altersOf) (S2 : US) (RQ : List Int → Prop)
    (hdo : ∀ c' W a', UN B c' W a' S 0 → a'.wb = a.wb → UX B c c' w W → Calls Tryz.prog 63 #[.pointer (some ⟨a'.dv, 0, none⟩), .agg (cmA cm), P] W (ResP B c' W a'.u fun st key code info has Q a2 S' => st = 0 ∧ key = 0 ∧ code = 0 ∧ info = 0 ∧ has = false ∧ RQ Q ∧ a2.wb = a'.wb ∧ S' = S2)) :
    Calls Tryz.prog 10 #[.pointer (some ⟨a.u, 0, none⟩), .int .i64 n, .slice (some ⟨ab, 0, none⟩) 16 cap, P] w (ResP B c w a.u fun st key code info has Q a2 S' => st = 0 ∧ key = 0 ∧ code = 0 ∧ info = 0 ∧ has = false ∧ RQ Q ∧ a2.wb = a.wb ∧ S' = S2) :=
  do_run B c a S S n ab 16 cap L cm P w h (StC.again B a S hdn) h8 hr (by omega) hab hpa k cls al hkd hcl hal
    (by simp only [List.mem_cons, List.not_mem_nil, or_false] at hk; rcases hk with rfl | rfl | rfl | rfl | rfl <;> decide)
    (by simp only [List.mem_cons, List.not_mem_nil, or_false] at hk; rcases hk with rfl | rfl | rfl | rfl | rfl <;> decide)
    (by simp only [List.mem_cons, List.not_mem_nil, or_false] at hk; rcases hk with rfl | rfl | rfl | rfl | rfl <;> decide) hq
    (fun c' W a' U => conf_free U hT _ _) (fun _ => hsw) _ (fun c' W a' U e1 e2 X => by
      rw [← e1]
      exact (run_dev B c' a' S n cm P W U k hkd hk _ (fun W2 m => hdo c' W2 a' (U.keep m).1 e2 (X.trans (U.keep m).2))).mono fun e w' hres => by
        obtain ⟨st, key, code, info, has, A, n', cp, Q, c2, a2, S', r1, r2, r3, r4, r5, r6, r7, r8, r9, r10, r11, r12, r13, r14⟩ := hres
        exact ⟨st, key, code, info, has, A, n', cp, Q, c2, a2, S', r1, r2, r3, r4, r5, r6, r7, r8, r9, r10, r11, r12, by rw [r13, e2], r14⟩)
/-- What stands between two commands of the law. -/
def PI (B u wb : Nat) (prot : Int) (bd : Nat) (w0 : World) (E : Nat → Prop) (w : World) : Prop := ∃ c a S, UN B c w a S 0 ∧ a.u = u ∧ a.wb = wb ∧ S.prot = prot ∧ S.done = 1 ∧ (∀ j, j < 8 → S.L j = []) ∧ S.T.kind = 0 ∧ S.now.c = false ∧ S.cache = true ∧ WI prot S.x ∧ S.bd ≤ bd ∧ Below B w0 w ∧ B ≤ w.heap.size ∧ ∀ k, E k → c k = 0 ∧ k < w.heap.size
section
variable {B u wb : Nat} {prot : Int} {bd : Nat} {E : Nat → Prop} {w0 w W : World}
theorem PI.bel (h : PI B u wb prot bd w0 E w) : Below B w0 w := by
  obtain ⟨c, a, S, h1, h2, h3, h4, h5, h6, h7, h8, h9, h10, h11, h12, h13, h14⟩ := h
  exact h12
theorem PI.keep (h : PI B u wb prot bd w0 E w) (m : Mod (fun _ => False) w W) : PI B u wb prot bd w0 E W := by
  obtain ⟨c, a, S, h1, h2, h3, h4, h5, h6, h7, h8, h9, h10, h11, h12, h13, h14⟩ := h
  exact ⟨c, a, S, (h1.keep m).1, h2, h3, h4, h5, h6, h7, h8, h9, h10, h11, h12.trans (m.below h13 (fun _ h => h.elim)), Nat.le_trans h13 m.size, fun k hk => ⟨(h14 k hk).1, Nat.lt_of_lt_of_le (h14 k hk).2 m.size⟩⟩
theorem PI.mono (h : PI B u wb prot bd w0 E w) {bd' : Nat} (hb : bd ≤ bd') : PI B u wb prot bd' w0 E w := by
  obtain ⟨c, a, S, h1, h2, h3, h4, h5, h6, h7, h8, h9, h10, h11, h12, h13, h14⟩ := h
  exact ⟨c, a, S, h1, h2, h3, h4, h5, h6, h7, h8, h9, h10, Nat.le_trans h11 hb, h12, h13, h14⟩
/-- What a command leaves: a result that went well, its bytes beside what stands. -/
def PR (B u wb : Nat) (prot : Int) (bd : Nat) (w0 : World) (Kp : Nat → Prop) (W : World) (RQ : List Int → Prop) (e : Ending) (w' : World) : Prop :=
  ∃ A n cp Q, e = .returned (rsA 0 0 0 0 false (.slice A n cp)) ∧ Row w' 5 1 (ic .u8) (.slice A n cp) Q ∧ RQ Q ∧ PI B u wb prot bd w0 (fun k => (Value.slice A n cp).ownBlock = some k) w' ∧ ∀ k o, Kp k → W.heap[k]? = some o → w'.heap[k]? = some o
/-- A command of the device, from the law's side. -/
theorem PI.dev (h : PI B u wb prot bd w0 E w) (m : Mod (fun _ => False) w W) (n ab : Nat) (h8 : n < 8) (L : List Int) (cm : Cm) (P : Value) (hr : Rd W 1 (ic .u8) (some ⟨ab, 0, none⟩) 16 L) (hab : E ab ∨ w.heap.size ≤ ab)
    (hpa : ∀ W, Rd W 1 (ic .u8) (some ⟨ab, 0, none⟩) 16 L → Calls Tryz.prog 22 #[.slice (some ⟨ab, 0, none⟩) 16 16] W fun e w' => e = .returned (.tuple #[.agg (cmA cm), .agg (seA 0 0 0 false), .bool true]) ∧ Mod (fun _ => False) W w')
    (k cls : Int) (al : Bool) (hkd : cm.kind = k) (hk : k ∈ [7, 8, 11, 12, 14]) (hcl : (k, cls) ∈ classOf) (hal : (k, al) ∈ altersOf) (d : Nat) (RQ : US → List Int → Prop) (X : US → Wx) (D : US → Nat) (hX : ∀ S : US, S.cache = true → WI prot S.x → WI prot (X S)) (hD : ∀ S : US, S.bd ≤ bd → D S ≤ bd + d)
    (hdo : ∀ c S c' W' a', S.prot = prot → S.cache = true → WI prot S.x → S.bd ≤ bd → (∀ i, E i ∨ w.heap.size ≤ i → c i = 0) → UN B c' W' a' S 0 → UX B c c' W W' → Calls Tryz.prog 63 #[.pointer (some ⟨a'.dv, 0, none⟩), .agg (cmA cm), P] W' (ResP B c' W' a'.u fun st key code info has Q a2 S' => st = 0 ∧ key = 0 ∧ code = 0 ∧ info = 0 ∧ has = false ∧ RQ S Q ∧ a2.wb = a'.wb ∧ S' = { S with x := X S, bd := D S })) :
    Calls Tryz.prog 10 #[.pointer (some ⟨u, 0, none⟩), .int .i64 n, .slice (some ⟨ab, 0, none⟩) 16 16, P] W (PR B u wb prot (bd + d) w0 (fun k => E k ∨ w.heap.size ≤ k) W fun Q => ∃ S : US, WI prot S.x ∧ RQ S Q) := by
  obtain ⟨c, a, S, h1, rfl, rfl, h4, h5, h6, h7, hsw, hca, hWI, h11, h12, h13, h14⟩ := h
  have hk1 := h1.keep m
  have hfr : ∀ i, E i ∨ w.heap.size ≤ i → c i = 0 := fun i hi => hi.elim (fun e => (h14 i e).1) (h1.sup i)
  refine (unit_dev B c a S n ab 16 L cm P W hk1.1 h5 h8 (h6 n h8) h7 hsw hr (hfr ab hab) hpa k cls al hkd hk hcl hal { S with x := X S, bd := D S } (RQ S) (fun c' W' a' U e X' => hdo c S c' W' a' h4 hca hWI h11 hfr U X')).mono ?_
  rintro e w' ⟨st, key, code, info, has, A, n', cp, Q, c2, a2, S2, rfl, hrow, hown, U2, hu2, X2, rfl, rfl, rfl, rfl, rfl, hQ, hwb, rfl⟩
  exact ⟨A, n', cp, Q, rfl, hrow, ⟨S, hWI, hQ⟩, ⟨c2, a2, _, U2, hu2, hwb, h4, h5, h6, h7, hsw, hca, hX S hca hWI, hD S h11, (h12.trans (m.below h13 (fun _ h => h.elim))).trans X2.bel, Nat.le_trans h13 (Nat.le_trans m.size X2.mod.size), fun k hk => ⟨(hown k hk).2, hrow.lt k hk⟩⟩, fun k o hk ho => X2.mod.heap ho (fun e => e (hfr k hk))⟩
end
section
variable {B u wb : Nat} {prot : Int} {bd : Nat} {E : Nat → Prop} {w0 w W : World}
/-- READ. -/
theorem PI.read (h : PI B u wb prot bd w0 E w) (m : Mod (fun _ => False) w W) (hbd : bd < 70000) (hk : 0 ≤ prot ∧ prot ≤ 3) (n ab lba nb : Nat) (f q : Int) (P : Value) (h8 : n < 8) (hf : FlagOk f q false) (hl : lba + nb ≤ 32) (hq : 0 ≤ q ∧ (q = 0 ∨ 0 < prot ∧ q ≤ 4)) (hr : Rd W 1 (ic .u8) (some ⟨ab, 0, none⟩) 16 (onB 136 f lba nb)) (hab : E ab ∨ w.heap.size ≤ ab) :
    Calls Tryz.prog 10 #[.pointer (some ⟨u, 0, none⟩), .int .i64 n, .slice (some ⟨ab, 0, none⟩) 16 16, P] W (PR B u wb prot (bd + nb) w0 (fun k => E k ∨ w.heap.size ≤ k) W fun Q => ∃ S : US, WI prot S.x ∧ Q = packL (q != 0) (blks (S.x.file sd) lba nb)) :=
  h.dev m n ab h8 _ (cmB 7 lba nb false q false) P hr hab (fun W hr' => parse_rw 136 7 f q false lba nb ab 16 W (.inl ⟨rfl, rfl⟩) hf (by omega) (by omega) hr' (by decide)) 7 1 false rfl (by decide) (by decide) (by decide) nb
    (fun S Q => Q = packL (q != 0) (blks (S.x.file sd) lba nb)) (fun S => S.x) (fun S => S.bd + nb) (fun _ _ h => h) (fun S h => by show S.bd + nb ≤ bd + nb; omega) (fun c S c' W' a' e _ hWI hb _ U _ => by
      subst e
      exact U.devreadW hWI (cmB 7 lba nb false q false) P (by omega) hl rfl hk hq)
/-- WRITE, without tuples. -/
theorem PI.write (h : PI B u wb prot bd w0 E w) (m : Mod (fun _ => False) w W) (hbd : bd < 70000) (hk : 0 ≤ prot ∧ prot ≤ 3) (n ab lba nb pb pc np : Nat) (f : Int) (fua : Bool) (pl : List Int) (h8 : n < 8) (hf : FlagOk f 0 fua) (hl : lba + nb ≤ 32) (h1 : 1 ≤ nb) (hr : Rd W 1 (ic .u8) (some ⟨ab, 0, none⟩) 16 (onB 138 f lba nb)) (hab : E ab ∨ w.heap.size ≤ ab)
    (hp : Rd W 1 (ic .u8) (some ⟨pb, 0, none⟩) np pl) (hpb : E pb ∨ w.heap.size ≤ pb) (hn : np = nb * 16) (hnc : np ≤ pc) (hcm : pc ≤ maxLen) (hpl : Bytes pl) :
    Calls Tryz.prog 10 #[.pointer (some ⟨u, 0, none⟩), .int .i64 n, .slice (some ⟨ab, 0, none⟩) 16 16, .slice (some ⟨pb, 0, none⟩) np pc] W (PR B u wb prot (bd + (2 * nb + 1)) w0 (fun k => E k ∨ w.heap.size ≤ k) W fun _ => True) := by
  have hul : (unL pl nb).length = nb := unL_len _ _
  have hplen : pl.length = nb * 16 := by rw [hp.1, hn]
  have hX : ∀ S : US, S.cache = true → WI prot S.x → WI prot (laidX S.x sd lba (tupd prot lba (unL pl nb) nb) (fua || !S.cache)) := fun S _ hW => by
    have hok := unL_ok pl nb hpl hplen
    have e : tupd prot lba (unL pl nb) nb = tupd prot lba (unL pl nb) (unL pl nb).length := by rw [hul]
    rw [e]
    refine hW.laid lba _ (fun i hi => ⟨?_, ?_⟩) _
    · rw [gi_eq _ i hi]
      exact tupd_ok prot lba (unL pl nb) hok ⟨by omega, by omega⟩ (by omega) _ (List.getElem_mem _)
    · exact tupd_well prot lba (unL pl nb) hk i (by rwa [tupd_len] at hi)
  refine (h.dev m n ab h8 _ (cmB 8 lba nb fua 0 false) _ hr hab (fun W hr' => parse_rw 138 8 f 0 fua lba nb ab 16 W (.inr ⟨rfl, rfl⟩) hf (by omega) (by omega) hr' (by decide)) 8 2 true rfl (by decide) (by decide) (by decide) (2 * nb + 1)
    (fun _ Q => Q = []) (fun S => laidX S.x sd lba (tupd prot lba (unL pl nb) nb) (fua || !S.cache)) (fun S => S.bd + 2 * nb + 1) hX (fun S h => by show S.bd + 2 * nb + 1 ≤ _; omega) (fun c S c' W' a' e _ hWI hb hc U X => by
      subst e
      exact U.devwriteG (cmB 8 lba nb fua 0 false) pb pc np pl (by omega) hl rfl hk rfl (hp.mod X.mod (fun ad e => by cases e; exact fun hh => hh (hc _ hpb))) hn h1 hnc hcm hpl)).mono ?_
  rintro e w' ⟨A, n', cp, Q, r1, r2, r3, r4⟩
  exact ⟨A, n', cp, Q, r1, r2, trivial, r4⟩
/-- WRITE, with what was read with its tuples. -/
theorem PI.writeT (h : PI B u wb prot bd w0 E w) (m : Mod (fun _ => False) w W) (hbd : bd < 70000) (hk : 0 ≤ prot ∧ prot ≤ 3) (hk0 : 0 < prot) (n ab lba nb pb pc np : Nat) (f q : Int) (x : Wx) (h8 : n < 8) (hf : FlagOk f q false) (hq : 1 ≤ q ∧ q ≤ 4) (hl : lba + nb ≤ 32) (h1 : 1 ≤ nb) (hr : Rd W 1 (ic .u8) (some ⟨ab, 0, none⟩) 16 (onB 138 f lba nb)) (hab : E ab ∨ w.heap.size ≤ ab)
    (hx : WI prot x) (hp : Rd W 1 (ic .u8) (some ⟨pb, 0, none⟩) np (packL true (blks (x.file sd) lba nb))) (hnp : np = nb * 24) (hpc : E pb ∨ w.heap.size ≤ pb) (hnc : np ≤ pc) (hcm : pc ≤ maxLen) :
    Calls Tryz.prog 10 #[.pointer (some ⟨u, 0, none⟩), .int .i64 n, .slice (some ⟨ab, 0, none⟩) 16 16, .slice (some ⟨pb, 0, none⟩) np pc] W (PR B u wb prot (bd + (2 * nb + 1)) w0 (fun k => E k ∨ w.heap.size ≤ k) W fun _ => True) := by
  have hbl := blks_len (x.file sd) lba nb
  have hall := blks_all hx lba nb hl
  have hun : ∀ i, i < nb → gi (unT (packL true (blks (x.file sd) lba nb)) nb) i = gi (blks (x.file sd) lba nb) i := fun i hi => by
    have := unT_pack _ hall i (by rw [hbl]; exact hi)
    rwa [hbl] at this
  have hb : ∀ i, i < nb → OkBl (gi (unT (packL true (blks (x.file sd) lba nb)) nb) i) ∧ WellAt prot ((lba : Int) + i) (gi (unT (packL true (blks (x.file sd) lba nb)) nb) i) := fun i hi => by
    rw [hun i hi]
    exact blks_ok hx lba nb hl i hi
  have hpl := packT_bytes _ hall
  generalize packL true (blks (x.file sd) lba nb) = pl at *
  have hX : ∀ S : US, S.cache = true → WI prot S.x → WI prot (laidX S.x sd lba (unT pl nb) (false || !S.cache)) := fun S _ hW => hW.laid lba _ (fun i hi => hb i (by rwa [unT_len] at hi)) _
  refine (h.dev m n ab h8 _ (cmB 8 lba nb false q false) _ hr hab (fun W hr' => parse_rw 138 8 f q false lba nb ab 16 W (.inr ⟨rfl, rfl⟩) hf (by omega) (by omega) hr' (by decide)) 8 2 true rfl (by decide) (by decide) (by decide) (2 * nb + 1)
    (fun _ Q => Q = []) (fun S => laidX S.x sd lba (unT pl nb) (false || !S.cache)) (fun S => S.bd + 2 * nb + 1) hX (fun S h => by show S.bd + 2 * nb + 1 ≤ _; omega) (fun c S c' W' a' e _ hWI hb' hc U X => by
      subst e
      exact U.devwriteT (cmB 8 lba nb false q false) pb pc np pl (by omega) hl rfl hk hk0 hq (hp.mod X.mod (fun ad e => by cases e; exact fun hh => hh (hc _ hpc))) hnp h1 hnc hcm hpl hb)).mono ?_
  rintro e w' ⟨A, n', cp, Q, r1, r2, r3, r4⟩
  exact ⟨A, n', cp, Q, r1, r2, trivial, r4⟩
/-- SYNCHRONIZE CACHE. -/
theorem PI.sync (h : PI B u wb prot bd w0 E w) (m : Mod (fun _ => False) w W) (hbd : bd < 70000) (hk : 0 ≤ prot ∧ prot ≤ 3) (n ab : Nat) (P : Value) (h8 : n < 8) (hr : Rd W 1 (ic .u8) (some ⟨ab, 0, none⟩) 16 (onB 145 0 0 0)) (hab : E ab ∨ w.heap.size ≤ ab) :
    Calls Tryz.prog 10 #[.pointer (some ⟨u, 0, none⟩), .int .i64 n, .slice (some ⟨ab, 0, none⟩) 16 16, P] W (PR B u wb prot (bd + 1) w0 (fun k => E k ∨ w.heap.size ≤ k) W fun _ => True) := by
  refine (h.dev m n ab h8 _ (cmB 11 0 0 false 0 false) _ hr hab (fun W hr' => parse_sy 0 0 ab 16 W (by decide) (by decide) hr' (by decide)) 11 2 false rfl (by decide) (by decide) (by decide) 1
    (fun _ Q => Q = []) (fun S => S.x.synced) (fun S => S.bd + 1) (fun S _ h => h.synced) (fun S h => by show S.bd + 1 ≤ _; omega) (fun c S c' W' a' e _ hWI hb hc U X => by
      subst e
      exact U.devsync (cmB 11 0 0 false 0 false) P (by omega) (by decide) rfl hk rfl)).mono ?_
  rintro e w' ⟨A, n', cp, Q, r1, r2, r3, r4⟩
  exact ⟨A, n', cp, Q, r1, r2, trivial, r4⟩
theorem sam_ok (lba nb : Nat) (pl : List Int) (hk : 0 ≤ prot ∧ prot ≤ 3) (hl : lba + nb ≤ 32) (hpl : Bytes pl) (h16 : pl.length = 16) (i : Nat) (hi : i < nb) : OkBl (gi (samL prot lba pl nb) i) ∧ WellAt prot ((lba : Int) + i) (gi (samL prot lba pl nb) i) := by
  have e : gi (samL prot lba pl nb) i = ⟨pl, c16 pl, 0, refOf prot (lba + i)⟩ := by
    rw [gi_eq _ i (by rw [samL_len]; exact hi)]
    simp [samL]
  rw [e]
  refine ⟨⟨h16, hpl, c16_b _, by simp, refOf_b prot (lba + i) (by omega)⟩, ?_⟩
  rcases (by omega : prot = 0 ∨ prot = 1 ∨ prot = 2 ∨ prot = 3) with rfl | rfl | rfl | rfl
  · exact .inl rfl
  · exact .inr (.inr ⟨rfl, .inr (by simp [refOf])⟩)
  · exact .inr (.inr ⟨rfl, .inr (by simp [refOf])⟩)
  · exact .inr (.inr ⟨rfl, .inl rfl⟩)
/-- WRITE SAME. -/
theorem PI.same (h : PI B u wb prot bd w0 E w) (m : Mod (fun _ => False) w W) (hbd : bd < 70000) (hk : 0 ≤ prot ∧ prot ≤ 3) (n ab lba nb pb pc : Nat) (f : Int) (um : Bool) (pl : List Int) (h8 : n < 8) (hf : FlagS f um) (hl : lba + nb ≤ 32) (h1 : 1 ≤ nb) (hr : Rd W 1 (ic .u8) (some ⟨ab, 0, none⟩) 16 (onB 147 f lba nb)) (hab : E ab ∨ w.heap.size ≤ ab)
    (hp : Rd W 1 (ic .u8) (some ⟨pb, 0, none⟩) 16 pl) (hpb : E pb ∨ w.heap.size ≤ pb) (hnc : 16 ≤ pc) (hcm : pc ≤ maxLen) (hpl : Bytes pl) :
    Calls Tryz.prog 10 #[.pointer (some ⟨u, 0, none⟩), .int .i64 n, .slice (some ⟨ab, 0, none⟩) 16 16, .slice (some ⟨pb, 0, none⟩) 16 pc] W (PR B u wb prot (bd + (2 * nb + 1)) w0 (fun k => E k ∨ w.heap.size ≤ k) W fun _ => True) := by
  have h16 : pl.length = 16 := hp.1
  obtain ⟨uz, huz⟩ : ∃ uz, uz = (um && pl == List.replicate 16 0) := ⟨_, rfl⟩
  have hX : ∀ S : US, S.cache = true → WI prot S.x → WI prot (if uz then unmN S.x sd lba nb else laidX S.x sd lba (samL prot lba pl nb) false) := fun S _ hW => by
    cases uz
    · exact hW.laid lba _ (fun i hi => sam_ok lba nb pl hk hl hpl h16 i (by rwa [samL_len] at hi)) _
    · exact hW.unm lba nb
  refine (h.dev m n ab h8 _ (cmB 12 lba nb false 0 um) _ hr hab (fun W hr' => parse_sa f um lba nb ab 16 W hf (by omega) (by omega) hr' (by decide)) 12 2 true rfl (by decide) (by decide) (by decide) (2 * nb + 1)
    (fun _ Q => Q = []) (fun S => if uz then unmN S.x sd lba nb else laidX S.x sd lba (samL prot lba pl nb) false) (fun S => S.bd + 2 * nb + 1) hX (fun S h => by show S.bd + 2 * nb + 1 ≤ _; omega) (fun c S c' W' a' e hca hWI hb hc U X => by
      subst e
      exact U.devsame hca (cmB 12 lba nb false 0 um) pb pc pl (by omega) hl rfl hk rfl (hp.mod X.mod (fun ad e => by cases e; exact fun hh => hh (hc _ hpb))) h1 hnc hcm hpl uz huz)).mono ?_
  rintro e w' ⟨A, n', cp, Q, r1, r2, r3, r4⟩
  exact ⟨A, n', cp, Q, r1, r2, trivial, r4⟩
/-- whole over a world that is well. -/
theorem PI.new (F : Nat → Prop) (x : Wx) (hW : WU B w wb bd x F) (hx : WI prot x) (hk : 0 ≤ prot ∧ prot ≤ 3) (hbd : bd < 70000) (hb : Below B w0 w) :
    Calls Tryz.prog 8 #[.pointer (some ⟨wb, 0, none⟩), .int .u8 prot] w fun e w' => ∃ u, e = .returned (.pointer (some ⟨u, 0, none⟩)) ∧ PI B u wb prot (bd + 2) w0 (fun _ => False) w' ∧ Mod F w w' := by
  have hBs : B ≤ w.heap.size := by
    obtain ⟨d, N, h, -⟩ := hW
    exact h.2.2
  refine (whole_in B bd wb prot x F { us0 prot bd x with L := powK (fun _ => []) 8, bd := bd + 2, sure := true, at_ := -1, gen := 0, done := 1 } w hW hk (fun a _ => StC.first B a (us0 prot bd x) rfl (by show bd < 90000; omega) hx.1.2.1 hx.1.2.2) powK_lone rfl).mono ?_
  rintro e w' ⟨c, a, rfl, hwb, U, hM, hB, hc⟩
  refine ⟨a.u, rfl, ⟨c, a, _, U, rfl, hwb, rfl, rfl, fun j hj => ?_, rfl, rfl, rfl, hx, Nat.le_refl _, hb.trans hB, Nat.le_trans hBs hM.size, fun k hk => hk.elim⟩, hM⟩
  show told _ 8 j = []
  simp [told, hj]
/-- The power goes off and on. -/
theorem PI.crash (h : PI B u wb prot bd w0 E w) (hbd : bd < 70000) (_hk : 0 ≤ prot ∧ prot ≤ 3) (keep : Nat) :
    Calls Tryz.prog 15 #[.pointer (some ⟨wb, 0, none⟩), .int .i64 keep, .int .i64 0] w fun e w' => e = .returned (.tuple #[]) ∧ ∃ F x, WU B w' wb bd x F ∧ WI prot x ∧ Below B w0 w' := by
  obtain ⟨c, a, S, h1, rfl, rfl, h4, h5, h6, h7, h8, h9, h10, h11, h12, h13, h14⟩ := h
  obtain ⟨F, hW, hF⟩ := h1.wu
  refine (wu_crash B a.wb bd keep S.x F w (hW.le h11) (by omega)).mono ?_
  rintro e w' ⟨F', rfl, hW', hN⟩
  exact ⟨rfl, F', _, hW', h10.crashed keep, h12.trans hN.2.1⟩
end
end Go.Proofs.YtjkpelbhhapebaaGreatDoor
namespace Go.Proofs.YtjkpelbhhapebaaGreatDoor
open Go.RowKit
set_option maxRecDepth 100000
/-- A step of the script: its numbers, its bytes and where they lie. -/
structure Wr where
  kd : Int
  lba : Int
  n : Int
  fill : Int
  A : Option Addr
  m : Nat
  c : Nat
  l : List Int
instance : Inhabited Wr := ⟨⟨0, 0, 0, 0, none, 0, 0, []⟩⟩
def encW (x : Wr) : List Value := [.int .u8 x.kd, .int .u8 x.lba, .int .u8 x.n, .int .u8 x.fill, .slice x.A x.m x.c]
abbrev caW (x : Wr) : Array Value := #[.int .u8 x.kd, .int .u8 x.lba, .int .u8 x.n, .int .u8 x.fill, .slice x.A x.m x.c]
def OkWr (w : World) (x : Wr) : Prop := (0 ≤ x.kd ∧ x.kd ≤ 255) ∧ (0 ≤ x.lba ∧ x.lba ≤ 255) ∧ (0 ≤ x.n ∧ x.n ≤ 255) ∧ (0 ≤ x.fill ∧ x.fill ≤ 255) ∧ Bytes x.l ∧ Rd w 1 (ic .u8) x.A x.m x.l
abbrev z54 : Array Value := #[(.int .u8 0 : Value), .int .u8 0, .int .u8 0, .int .u8 0, .slice none 0 0]
theorem new54 : New 54 z54 := fun w => by kernel_rfl
theorem size54 : (Tryz.prog.info? 54).map (·.size) = some 5 := by kernel_rfl
theorem caW_one (x : Wr) : (caW x).all (·.oneCell') = true :=
  all_oneCell_toArray (cs := encW x) (fun u hu => by
    simp only [encW, List.mem_cons, List.not_mem_nil, or_false] at hu
    rcases hu with rfl | rfl | rfl | rfl | rfl <;> rfl)
theorem caW_cells {w : World} {g : Nat} {x : Wr} (h : w.heap[g]? = some (.cells (caW x) 54 (0, 0))) :
    w.cell? ⟨g, 0, none⟩ = some (.int .u8 x.kd) ∧ w.cell? ⟨g, 1, none⟩ = some (.int .u8 x.lba) ∧ w.cell? ⟨g, 2, none⟩ = some (.int .u8 x.n) ∧ w.cell? ⟨g, 3, none⟩ = some (.int .u8 x.fill) ∧ w.cell? ⟨g, 4, none⟩ = some (.slice x.A x.m x.c) := by
  refine ⟨?_, ?_, ?_, ?_, ?_⟩ <;> rw [cell_of_row w g _ _ 54 (0, 0) h] <;> rfl
/-- A row of bytes, many times. -/
def repL (l : List Int) (k : Nat) : List Int := (List.replicate k l).flatten
theorem repL_snoc (l : List Int) (k : Nat) : repL l k ++ l = repL l (k + 1) := by
  simp [repL, List.replicate_succ']
theorem repL_len (l : List Int) (k : Nat) (h : l.length = 16) : (repL l k).length = k * 16 := by
  simp [repL, h]
theorem repL_bytes (l : List Int) (k : Nat) (h : Bytes l) : Bytes (repL l k) := by
  intro x hx
  simp only [repL, List.mem_flatten, List.mem_replicate] at hx
  obtain ⟨y, ⟨-, rfl⟩, hx⟩ := hx
  exact h x hx
theorem sixt_bytes (l : List Int) (fill : Int) (hl : Bytes l) (hf : 0 ≤ fill ∧ fill ≤ 255) (k : Nat) : Bytes (sixt l fill k) := by
  intro x hx
  simp only [sixt, List.mem_map, List.mem_range] at hx
  obtain ⟨i, -, rfl⟩ := hx
  split
  · split
    · rename_i h2
      exact hl.gi _ h2
    · exact hf
  · decide
theorem flag8 : FlagOk 8 0 true := ⟨by decide, by decide, by decide, by decide, by decide⟩
theorem flag32 : FlagOk 32 1 false := ⟨by decide, by decide, by decide, by decide, by decide⟩
theorem flag64 : FlagOk 64 2 false := ⟨by decide, by decide, by decide, by decide, by decide⟩
theorem flag96 : FlagOk 96 3 false := ⟨by decide, by decide, by decide, by decide, by decide⟩
theorem flag128 : FlagOk 128 4 false := ⟨by decide, by decide, by decide, by decide, by decide⟩
theorem flagS0 : FlagS 0 false := ⟨by decide, by decide, by decide, by decide, by decide⟩
theorem flagS8 : FlagS 8 true := ⟨by decide, by decide, by decide, by decide, by decide⟩
/-- A row with something in it, as a slice. -/
theorem row_at {w : World} {v : Value} {l : List Int} (h : Row w 5 1 (ic .u8) v l) (hl : 0 < l.length) : ∃ g c, v = .slice (some ⟨g, 0, none⟩) l.length c ∧ l.length ≤ c ∧ c ≤ maxLen := by
  obtain ⟨g, c, e, -⟩ := h.some_ hl
  obtain ⟨A, c', e', h1, h2⟩ := h.slice
  rw [e] at e'
  injection e' with _ _ e3
  subst e3
  exact ⟨g, c, e, h1, h2⟩
end Go.Proofs.YtjkpelbhhapebaaGreatDoor
