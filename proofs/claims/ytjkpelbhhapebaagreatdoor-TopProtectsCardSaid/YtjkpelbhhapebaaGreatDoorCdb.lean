/-
  cdb.number, span, blocks, fill, walked. Conditions: bytes that are a command of the laws.
-/
import Derived.Test.YtjkpelbhhapebaaGreatDoorUsage
import Derived.Test.YtjkpelbhhapebaaGreatDoorSbcRead
import Derived.BigQuiet
import Derived.Deep.RegionHeld3
namespace Go.Proofs.YtjkpelbhhapebaaGreatDoor
open Go.RowKit
set_option maxRecDepth 100000
theorem number_in (A : Addr) (len cap at_ n : Nat) (L : List Int) (w : World) (hr : Rd w 1 (ic .u8) (some A) len L) (hb : Bytes L) (h1 : 1 ≤ n) (h8 : n ≤ 8) (hl : at_ + n ≤ len) (hlc : len ≤ cap) (hc : len ≤ 1000000000) :
    Calls Tryz.prog 74 #[.slice (some A) len cap, .int .i64 at_, .int .i64 n] w fun e w' => e = .returned (.int .u64 (val ((L.drop at_).take n))) ∧ w = w' := by
  have h := get_any A len cap at_ n L w hr hb h1 h8 hl hlc hc
  replace hr := hide hr; replace hb := hide hb; replace h := hide h
  go_enter Tryz.func74, Tryz.ntmps74
  go_wp2_with (go_at_call 90; (with_reducible refine h.out.mono ?_); rintro e w1 ⟨rfl, rfl⟩)
  go_ret
  exact ⟨rfl, rfl⟩
section
variable {w : World} {g : Nat} {c : Cm}
theorem CM.fr (h : CM w g c) (i : Nat) : w.frozen? ⟨g, i, none⟩ = false := frozen_of_row w g i _ 104 h
theorem CM.set (h : CM w g c) (i : Nat) (v : Value) (c' : Cm) (e : (cmA c).setIfInBounds i v = cmA c') : CM (w.setCell ⟨g, i, none⟩ v) g c' ∧ Mod (fun k => k = g) w (w.setCell ⟨g, i, none⟩ v) := by
  refine ⟨?_, (Mod.refl (fun k => k = g) w).setCell (p := ⟨g, i, none⟩) (.inl rfl) _⟩
  unfold CM
  rw [heap_setCell_same w g i _ 104 _ h, e]
theorem CM.c0 (h : CM w g c) : w.cell? ⟨g, 0, none⟩ = some (.int .u8 c.kind) := h.at_ 0
theorem CM.c1 (h : CM w g c) : w.cell? ⟨g, 1, none⟩ = some (.bool c.long) := h.at_ 1
end
theorem mod_s {w w' : World} {g o : Nat} {v : Value} (m : Mod (fun k => k = g) w w') : Mod (fun k => k = g) w (w'.setCell ⟨g, o, none⟩ v) := m.setCell (p := ⟨g, o, none⟩) (.inl rfl) _
/-- A command of a kind and nothing more. -/
def cm0 (k : Int) : Cm := ⟨k, false, 0, 0, 0, false, 0, false, false, 0, 0, false, 0, 0, false⟩
/-- A command on blocks. -/
def cmB (k : Int) (lba blocks : Nat) (fua : Bool) (prot : Int) (unmap : Bool) : Cm := ⟨k, false, lba, blocks, 0, fua, prot, unmap, false, 0, 0, false, 0, 0, false⟩
theorem span_in (g cap lba blocks : Nat) (A : Addr) (k : Int) (L : List Int) (w : World) (hcm : CM w g (cm0 k)) (hr : Rd w 1 (ic .u8) (some A) 16 L) (hb : Bytes L) (hcap : 16 ≤ cap)
    (h1 : val ((L.drop 2).take 8) = lba) (h2 : val ((L.drop 10).take 4) = blocks) :
    Calls Tryz.prog 119 #[.pointer (some ⟨g, 0, none⟩), .slice (some A) 16 cap] w fun e w' => e = .returned (.int .i64 10) ∧ CM w' g (cmB k lba blocks false 0 false) ∧ Mod (fun k => k = g) w w' := by
  have n1 : Calls Tryz.prog 74 #[.slice (some A) 16 cap, .int .i64 2, .int .i64 8] w fun e w' => e = .returned (.int .u64 lba) ∧ w = w' := by
    rw [← h1]
    exact number_in A 16 cap 2 8 L w hr hb (by omega) (by omega) (by omega) hcap (by omega)
  have n2 : Calls Tryz.prog 74 #[.slice (some A) 16 cap, .int .i64 10, .int .i64 4] w fun e w' => e = .returned (.int .u64 blocks) ∧ w = w' := by
    rw [← h2]
    exact number_in A 16 cap 10 4 L w hr hb (by omega) (by omega) (by omega) hcap (by omega)
  have s1 := hcm.set 2 (.int .u64 lba) ⟨k, false, lba, 0, 0, false, 0, false, false, 0, 0, false, 0, 0, false⟩ rfl
  have s2 := s1.1.set 3 (.int .u64 blocks) (cmB k lba blocks false 0 false) rfl
  have f2 := hcm.fr 2
  have f3 := hcm.fr 3
  have c2 := hcm.c2
  have c3 := hcm.c3
  have hE : Hid (CM ((w.setCell ⟨g, 2, none⟩ (.int .u64 lba)).setCell ⟨g, 3, none⟩ (.int .u64 blocks)) g (cmB k lba blocks false 0 false) ∧ Mod (fun k => k = g) w ((w.setCell ⟨g, 2, none⟩ (.int .u64 lba)).setCell ⟨g, 3, none⟩ (.int .u64 blocks))) := hide ⟨s2.1, s1.2.trans s2.2 (fun _ _ h => h)⟩
  clear s1 s2
  replace hcm := hide hcm; replace hr := hide hr; replace hb := hide hb; replace n1 := hide n1; replace n2 := hide n2; replace h1 := hide h1; replace h2 := hide h2
  go_enter Tryz.func119, Tryz.ntmps119
  go_wp2_with (first
    | (go_at_call 74; (with_reducible refine n1.out.mono ?_); rintro e w1 ⟨rfl, rfl⟩)
    | (go_at_call 74; (with_reducible refine n2.out.mono ?_); rintro e w1 ⟨rfl, rfl⟩))
  go_ret
  exact ⟨rfl, hE.out⟩
theorem rd_at {w : World} {ab n : Nat} {L : List Int} (h : Rd w 1 (ic .u8) (some ⟨ab, 0, none⟩) n L) (i : Nat) (hi : i < n) : w.cell? ⟨ab, i, none⟩ = some (.int .u8 (gi L i)) := by
  obtain ⟨ad, e, hc⟩ := h.int i hi
  obtain rfl := Option.some.inj e
  rwa [Addr.add_mid, Nat.zero_add] at hc
theorem blocks_rw (g cap lba blocks ab : Nat) (k f prot : Int) (fua : Bool) (L : List Int) (w : World) (hk : k = 7 ∨ k = 8) (hcm : CM w g (cm0 k)) (hr : Rd w 1 (ic .u8) (some ⟨ab, 0, none⟩) 16 L) (hb : Bytes L) (hcap : 16 ≤ cap) (hAg : ab ≠ g)
    (h1 : val ((L.drop 2).take 8) = lba) (h2 : val ((L.drop 10).take 4) = blocks) (hbl : blocks ≤ 256) (hf : gi L 1 = f) (hf1 : f / 32 = prot) (hf2 : (bits BinOp.and IntKind.u8 f 8 != 0) = fua) :
    Calls Tryz.prog 75 #[.pointer (some ⟨g, 0, none⟩), .slice (some ⟨ab, 0, none⟩) 16 cap] w fun e w' => e = .returned (.tuple #[.int .i64 (-1), .int .i64 0]) ∧ CM w' g (cmB k lba blocks fua prot false) ∧ Mod (fun k => k = g) w w' := by
  have hsp := span_in g cap lba blocks ⟨ab, 0, none⟩ k L w hcm hr hb hcap h1 h2
  have hlt := hcm.lt
  have hc1 := rd_at hr 1 (by omega)
  rw [hf] at hc1
  replace hsp := hide hsp; replace hcm := hide hcm; replace hr := hide hr; replace hb := hide hb; replace h1 := hide h1; replace h2 := hide h2; replace hf := hide hf; replace hc1 := hide hc1
  rcases hk with rfl | rfl
  · go_enter Tryz.func75, Tryz.ntmps75
    go_wp2_with (go_at_call 119; (with_reducible refine hsp.out.mono ?_); rintro e w1 ⟨rfl, hcm1, m1⟩
                 have k0 : w1.cell? ⟨g, 0, none⟩ = some (.int .u8 7) := hcm1.c0
                 have k3 : w1.cell? ⟨g, 3, none⟩ = some (.int .u64 (blocks : Int)) := hcm1.c3
                 have k5 : w1.cell? ⟨g, 5, none⟩ = some (.bool false) := hcm1.at_ 5
                 have k6 : w1.cell? ⟨g, 6, none⟩ = some (.int .u8 0) := hcm1.c6
                 have z1 := hcm1.set 6 (.int .u8 prot) (cmB 7 lba blocks false prot false) rfl
                 have z2 := z1.1.set 5 (.bool fua) (cmB 7 lba blocks fua prot false) rfl
                 have hE : Hid (CM ((w1.setCell ⟨g, 6, none⟩ (.int .u8 prot)).setCell ⟨g, 5, none⟩ (.bool fua)) g (cmB 7 lba blocks fua prot false) ∧ Mod (fun k => k = g) w ((w1.setCell ⟨g, 6, none⟩ (.int .u8 prot)).setCell ⟨g, 5, none⟩ (.bool fua))) := hide ⟨z2.1, m1.trans (z1.2.trans z2.2 (fun _ _ h => h)) (fun _ _ h => h)⟩
                 clear z1 z2
                 have d3 : decide ((256 : Int) < blocks) = false := by simp; omega
                 have hc2 := m1.cell hc1.out (fun e => hAg e)
                 have f5 := hcm1.fr 5
                 have f6 := hcm1.fr 6
                 replace hcm1 := hide hcm1; replace m1 := hide m1)
    go_ret2
    exact ⟨rfl, hE.out⟩
  · go_enter Tryz.func75, Tryz.ntmps75
    go_wp2_with (go_at_call 119; (with_reducible refine hsp.out.mono ?_); rintro e w1 ⟨rfl, hcm1, m1⟩
                 have k0 : w1.cell? ⟨g, 0, none⟩ = some (.int .u8 8) := hcm1.c0
                 have k3 : w1.cell? ⟨g, 3, none⟩ = some (.int .u64 (blocks : Int)) := hcm1.c3
                 have k5 : w1.cell? ⟨g, 5, none⟩ = some (.bool false) := hcm1.at_ 5
                 have k6 : w1.cell? ⟨g, 6, none⟩ = some (.int .u8 0) := hcm1.c6
                 have z1 := hcm1.set 6 (.int .u8 prot) (cmB 8 lba blocks false prot false) rfl
                 have z2 := z1.1.set 5 (.bool fua) (cmB 8 lba blocks fua prot false) rfl
                 have hE : Hid (CM ((w1.setCell ⟨g, 6, none⟩ (.int .u8 prot)).setCell ⟨g, 5, none⟩ (.bool fua)) g (cmB 8 lba blocks fua prot false) ∧ Mod (fun k => k = g) w ((w1.setCell ⟨g, 6, none⟩ (.int .u8 prot)).setCell ⟨g, 5, none⟩ (.bool fua))) := hide ⟨z2.1, m1.trans (z1.2.trans z2.2 (fun _ _ h => h)) (fun _ _ h => h)⟩
                 clear z1 z2
                 have d3 : decide ((256 : Int) < blocks) = false := by simp; omega
                 have hc2 := m1.cell hc1.out (fun e => hAg e)
                 have f5 := hcm1.fr 5
                 have f6 := hcm1.fr 6
                 replace hcm1 := hide hcm1; replace m1 := hide m1)
    go_ret2
    exact ⟨rfl, hE.out⟩
theorem fill_rw (g cap lba blocks ab : Nat) (k f prot sv : Int) (fua : Bool) (L : List Int) (w : World) (hk : k = 7 ∨ k = 8) (hcm : CM w g (cm0 k)) (hr : Rd w 1 (ic .u8) (some ⟨ab, 0, none⟩) 16 L) (hb : Bytes L) (hcap : 16 ≤ cap) (hAg : ab ≠ g)
    (h1 : val ((L.drop 2).take 8) = lba) (h2 : val ((L.drop 10).take 4) = blocks) (hbl : blocks ≤ 256) (hf : gi L 1 = f) (hf1 : f / 32 = prot) (hf2 : (bits BinOp.and IntKind.u8 f 8 != 0) = fua) :
    Calls Tryz.prog 48 #[.pointer (some ⟨g, 0, none⟩), .slice (some ⟨ab, 0, none⟩) 16 cap, .int .u8 sv] w fun e w' => e = .returned (.tuple #[.int .i64 (-1), .int .i64 0]) ∧ CM w' g (cmB k lba blocks fua prot false) ∧ Mod (fun k => k = g) w w' := by
  have hbk := blocks_rw g cap lba blocks ab k f prot fua L w hk hcm hr hb hcap hAg h1 h2 hbl hf hf1 hf2
  have k0 : w.cell? ⟨g, 0, none⟩ = some (.int .u8 k) := hcm.c0
  clear hf1 hf2
  replace hbk := hide hbk; replace hcm := hide hcm; replace hr := hide hr; replace hb := hide hb; replace h1 := hide h1; replace h2 := hide h2; replace hf := hide hf
  rcases hk with rfl | rfl
  all_goals
    go_enter Tryz.func48, Tryz.ntmps48
    go_wp2_with (go_at_call 75; (with_reducible refine hbk.out.mono ?_); rintro e w1 ⟨rfl, hE⟩
                 replace hE := hide hE)
    go_ret2
    exact ⟨rfl, hE.out⟩
theorem fill_tur (g cap ab n : Nat) (sv : Int) (w : World) (hcm : CM w g (cm0 1)) :
    Calls Tryz.prog 48 #[.pointer (some ⟨g, 0, none⟩), .slice (some ⟨ab, 0, none⟩) n cap, .int .u8 sv] w fun e w' => e = .returned (.tuple #[.int .i64 (-1), .int .i64 0]) ∧ CM w' g (cm0 1) ∧ Mod (fun k => k = g) w w' := by
  have k0 : w.cell? ⟨g, 0, none⟩ = some (.int .u8 1) := hcm.c0
  replace hcm := hide hcm
  go_enter Tryz.func48, Tryz.ntmps48
  go_wp2_with fail
  go_ret2
  exact ⟨rfl, hcm.out, Mod.refl _ _⟩
set_option maxHeartbeats 2000000 in
theorem fill_cw (g cap lba ab : Nat) (sv : Int) (L : List Int) (w : World) (hcm : CM w g (cm0 14)) (hr : Rd w 1 (ic .u8) (some ⟨ab, 0, none⟩) 16 L) (hb : Bytes L) (hcap : 16 ≤ cap) (hAg : ab ≠ g)
    (h1 : val ((L.drop 2).take 8) = lba) (hf : gi L 1 = 0) (hf13 : gi L 13 = 1) :
    Calls Tryz.prog 48 #[.pointer (some ⟨g, 0, none⟩), .slice (some ⟨ab, 0, none⟩) 16 cap, .int .u8 sv] w fun e w' => e = .returned (.tuple #[.int .i64 (-1), .int .i64 0]) ∧ CM w' g (cmB 14 lba 1 false 0 false) ∧ Mod (fun k => k = g) w w' := by
  have hn : ∀ W, Mod (fun k => k = g) w W → Calls Tryz.prog 74 #[.slice (some ⟨ab, 0, none⟩) 16 cap, .int .i64 2, .int .i64 8] W fun e w' => e = .returned (.int .u64 lba) ∧ W = w' := fun W m => by
    rw [← h1]
    exact number_in ⟨ab, 0, none⟩ 16 cap 2 8 L W (hr.mod m (fun ad e => by obtain rfl := Option.some.inj e; exact hAg)) hb (by omega) (by omega) (by omega) hcap (by omega)
  have k0 : w.cell? ⟨g, 0, none⟩ = some (.int .u8 14) := hcm.c0
  have k2 : w.cell? ⟨g, 2, none⟩ = some (.int .u64 0) := hcm.c2
  have k3 : w.cell? ⟨g, 3, none⟩ = some (.int .u64 0) := hcm.c3
  have k5 : w.cell? ⟨g, 5, none⟩ = some (.bool false) := hcm.at_ 5
  have k6 : w.cell? ⟨g, 6, none⟩ = some (.int .u8 0) := hcm.c6
  have f2 := hcm.fr 2
  have f3 := hcm.fr 3
  have f5 := hcm.fr 5
  have f6 := hcm.fr 6
  have c1 := rd_at hr 1 (by omega)
  have c13 := rd_at hr 13 (by omega)
  rw [hf] at c1
  rw [hf13] at c13
  have hS : Hid (∀ W, Mod (fun k => k = g) w W → W.cell? ⟨ab, 13, none⟩ = some (.int .u8 1)) := hide fun W m => m.cell c13 hAg
  have hS1 : Hid (∀ W, Mod (fun k => k = g) w W → W.cell? ⟨ab, 1, none⟩ = some (.int .u8 0)) := hide fun W m => m.cell c1 hAg
  replace hcm := hide hcm; replace hr := hide hr; replace hb := hide hb; replace h1 := hide h1; replace hf := hide hf; replace hf13 := hide hf13; replace hn := hide hn
  go_enter Tryz.func48, Tryz.ntmps48
  go_wp2_with fail
  go_region_held3 (fun w' => w'.cell? ⟨ab, 13, none⟩ = some (.int .u8 1)) ((refine hS.out _ ?_; repeat (first | exact Mod.refl _ _ | refine Mod.drew ?_ | refine mod_s ?_)))
    (first
    | (go_at_call 74; (with_reducible refine (hn.out _ ?_).mono ?_); (repeat (first | exact Mod.refl _ _ | refine Mod.drew ?_ | refine mod_s ?_)); rintro e w1 ⟨rfl, rfl⟩))
  go_wp2_with fail
  go_region_held3 (fun w' => w'.cell? ⟨ab, 1, none⟩ = some (.int .u8 0)) ((refine hS1.out _ ?_; repeat (first | exact Mod.refl _ _ | refine Mod.drew ?_ | refine mod_s ?_)))
    (fail)
  go_wp2_with fail
  go_ret2
  refine ⟨rfl, ?_⟩
  have z1 := hcm.out.set 2 (.int .u64 lba) (cmB 14 lba 0 false 0 false) rfl
  have z2 := z1.1.set 3 (.int .u64 1) (cmB 14 lba 1 false 0 false) rfl
  have z3 := z2.1.set 6 (.int .u8 0) (cmB 14 lba 1 false 0 false) rfl
  have z4 := z3.1.set 5 (.bool false) (cmB 14 lba 1 false 0 false) rfl
  refine ⟨z4.1, ?_⟩
  repeat (first | exact Mod.refl _ _ | refine Mod.drew ?_ | refine mod_s ?_)
end Go.Proofs.YtjkpelbhhapebaaGreatDoor
